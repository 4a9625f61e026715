/- Needed by pressLeast_walk, part 3: texts put together by shake.py; no condition. -/
import Derived.Laws.IdiomStrings
import Derived.Laws.BytesArg
import Derived.Test.YtlkpnpbodbokkaaL2
import Derived.Lib.SlBytesConst
import Derived.Deep.RegionHeld3
import Derived.IntWalk
import Derived.ScopeJumps
import Derived.WalkMore
import Derived.Test.YtlkpnpbodbokkaaL1
namespace Go.Bs
open Go.RowKit

theorem bytes_str {P : Program} {S : Nat → Prop} {w : World} {a : Option Addr} {n c : Nat} {l : List UInt8} (src dst e : TypeId) (hs : P.underlying src = some (.slice e)) (he : P.underlying e = some (.int .u8)) (hd : P.underlying dst = some .string)
    (h : rBytes.r S w [.slice a n c] l) : (convert src dst (.slice a l.length c)).run P w = .ok (.string ⟨l.toArray⟩) w := by
  obtain ⟨rfl, _, _, _⟩ := sl_len h
  rcases a with _ | ad
  · have h0 : l = [] := by
      rcases l with _ | ⟨x, l⟩
      · rfl
      · obtain ⟨b, off, e, _⟩ := byte_at h (i := 0) (by simp)
        cases e
    subst h0
    exact run_convert_bytes_nil w src e hs he _ _ dst hd
  · refine run_convert_bytes_back w src dst e ad c l hs he hd fun j hj => ?_
    obtain ⟨b, off, e, _, hc⟩ := byte_at h hj
    simp at e
    subst e
    rw [← hc]
    congr 1
    unfold Addr.add
    split
    · rename_i h0; subst h0; rfl
    · rfl
end Go.Bs
namespace Go.Proofs.Ytlkpnpbodbokkaa
open Go.RowKit Go.Bs Go.Maps
set_option linter.unusedVariables false
set_option linter.unusedSimpArgs false

theorem tok_cells {S : Nat → Prop} {w : World} {cs : List Value} {x : Tok} (h : rTok.r S w cs x) : ∃ a c, cs = [.slice a x.lit.length c, .int .i64 x.off, .int .i64 x.len] ∧ (-9223372036854775808 ≤ x.off ∧ x.off ≤ 9223372036854775807) ∧ (-9223372036854775808 ≤ x.len ∧ x.len ≤ 9223372036854775807) ∧ rBytes.r S w [.slice a x.lit.length c] x.lit := by
  obtain ⟨c1, c2, rfl, h1, c3, c4, rfl, ⟨rfl, h2⟩, rfl, h3⟩ := h
  obtain ⟨a, c, rfl, h4, _⟩ := sl_form h1
  exact ⟨a, c, rfl, bounds_i64 h2, bounds_i64 h3, h4⟩
theorem tok_at {S : Nat → Prop} {w : World} {xs : List Tok} {a : Option Addr} {n c : Nat} (h : rToks.r S w [.slice a n c] xs) {i : Nat} (hi : i < xs.length) : ∃ b off, a = some ⟨b, off, none⟩ ∧ S b ∧ ∃ a' c', w.cell? ⟨b, off + i * 3, none⟩ = some (.slice a' xs[i].lit.length c') ∧ w.cell? ⟨b, off + i * 3 + 1, none⟩ = some (.int .i64 xs[i].off) ∧ w.cell? ⟨b, off + i * 3 + 2, none⟩ = some (.int .i64 xs[i].len) ∧
    (-9223372036854775808 ≤ xs[i].off ∧ xs[i].off ≤ 9223372036854775807) ∧ (-9223372036854775808 ≤ xs[i].len ∧ xs[i].len ≤ 9223372036854775807) ∧ rBytes.r S w [.slice a' xs[i].lit.length c'] xs[i].lit := by
  obtain ⟨b, off, e, hS, cs, _, hc, hA⟩ := sl_at h hi
  obtain ⟨a', c', rfl, h1, h2, h3⟩ := tok_cells hA
  exact ⟨b, off, e, hS, a', c', hc 0 _ rfl, hc 1 _ rfl, hc 2 _ rfl, h1, h2, h3⟩

def runB (t : Tok) : Bool := decide (t.off = 0) && (decide (t.len = 0) && (decide (1 ≤ t.lit.length) && decide (t.lit.length ≤ 1048576)))
def copyB (t : Tok) : Bool := decide (t.lit.length = 0) && (decide (1 ≤ t.off) && (decide (t.off ≤ 65536) && (decide (4 ≤ t.len) && decide (t.len ≤ 1048576))))

set_option maxHeartbeats 1600000 in
theorem ref11_copy (x : Tok) (a : Option Addr) (c : Nat) (w : World) (hl : x.lit.length ≤ 9223372036854775807) (h1 : -9223372036854775808 ≤ x.off ∧ x.off ≤ 9223372036854775807) (h2 : -9223372036854775808 ≤ x.len ∧ x.len ≤ 9223372036854775807) :
    Calls Try.prog 22 #[.agg #[.slice a x.lit.length c, .int .i64 x.off, .int .i64 x.len]] w fun r w' => r = .returned (.bool (copyB x)) ∧ Below w.heap.size w w' := by
  obtain ⟨D, o, m⟩ := x
  dsimp only at *
  by_cases h0 : D.length = 0
  · skip
    have d0 : ((D.length : Int) == 0) = true := beq_iff_eq.2 (by omega)
    have d0' : (D.length == 0) = true := beq_iff_eq.2 (by omega)
    by_cases h1 : 1 ≤ o
    · skip
      have d1 : decide (1 ≤ o) = true := decide_eq_true (by omega)
      by_cases h2 : o ≤ 65536
      · skip
        have d2 : decide (o ≤ 65536) = true := decide_eq_true (by omega)
        by_cases h3 : 4 ≤ m
        · skip
          have d3 : decide (4 ≤ m) = true := decide_eq_true (by omega)
          by_cases h4 : m ≤ 1048576
          · skip
            have d4 : decide (m ≤ 1048576) = true := decide_eq_true (by omega)
            have hff : Hid (copyB ⟨D, o, m⟩ = true) := hid (by simp only [copyB, Bool.and_eq_true, decide_eq_true_eq]; omega)
            clear h1
            go_enter Try.func22, Try.ntmps22
            go_wp2
            go_ret
            exact ⟨by rw [hff.out]; rfl, by (repeat (first | exact Below.refl _ _ | assumption | (refine below_alloc ?_ _) | (refine Below.setCell ?_ (by first | omega | (simp; done) | (simp; omega)) _) | (refine Below.drew ?_) | (refine below_drewN ?_ _) | (refine below_then (by assumption) ?_)))⟩
          · skip
            have d4 : decide (m ≤ 1048576) = false := decide_eq_false (by omega)
            have hff : Hid (copyB ⟨D, o, m⟩ = false) := hid (by rw [← Bool.not_eq_true]; simp only [copyB, Bool.and_eq_true, decide_eq_true_eq]; omega)
            clear h1
            go_enter Try.func22, Try.ntmps22
            go_wp2
            go_ret
            exact ⟨by rw [hff.out]; rfl, by (repeat (first | exact Below.refl _ _ | assumption | (refine below_alloc ?_ _) | (refine Below.setCell ?_ (by first | omega | (simp; done) | (simp; omega)) _) | (refine Below.drew ?_) | (refine below_drewN ?_ _) | (refine below_then (by assumption) ?_)))⟩
        · skip
          have d3 : decide (4 ≤ m) = false := decide_eq_false (by omega)
          have hff : Hid (copyB ⟨D, o, m⟩ = false) := hid (by rw [← Bool.not_eq_true]; simp only [copyB, Bool.and_eq_true, decide_eq_true_eq]; omega)
          clear h1
          go_enter Try.func22, Try.ntmps22
          go_wp2
          go_ret
          exact ⟨by rw [hff.out]; rfl, by (repeat (first | exact Below.refl _ _ | assumption | (refine below_alloc ?_ _) | (refine Below.setCell ?_ (by first | omega | (simp; done) | (simp; omega)) _) | (refine Below.drew ?_) | (refine below_drewN ?_ _) | (refine below_then (by assumption) ?_)))⟩
      · skip
        have d2 : decide (o ≤ 65536) = false := decide_eq_false (by omega)
        have hff : Hid (copyB ⟨D, o, m⟩ = false) := hid (by rw [← Bool.not_eq_true]; simp only [copyB, Bool.and_eq_true, decide_eq_true_eq]; omega)
        clear h1
        go_enter Try.func22, Try.ntmps22
        go_wp2
        go_ret
        exact ⟨by rw [hff.out]; rfl, by (repeat (first | exact Below.refl _ _ | assumption | (refine below_alloc ?_ _) | (refine Below.setCell ?_ (by first | omega | (simp; done) | (simp; omega)) _) | (refine Below.drew ?_) | (refine below_drewN ?_ _) | (refine below_then (by assumption) ?_)))⟩
    · skip
      have d1 : decide (1 ≤ o) = false := decide_eq_false (by omega)
      have hff : Hid (copyB ⟨D, o, m⟩ = false) := hid (by rw [← Bool.not_eq_true]; simp only [copyB, Bool.and_eq_true, decide_eq_true_eq]; omega)
      clear h1
      go_enter Try.func22, Try.ntmps22
      go_wp2
      go_ret
      exact ⟨by rw [hff.out]; rfl, by (repeat (first | exact Below.refl _ _ | assumption | (refine below_alloc ?_ _) | (refine Below.setCell ?_ (by first | omega | (simp; done) | (simp; omega)) _) | (refine Below.drew ?_) | (refine below_drewN ?_ _) | (refine below_then (by assumption) ?_)))⟩
  · skip
    have d0 : ((D.length : Int) == 0) = false := beq_eq_false_iff_ne.2 (by omega)
    have d0' : (D.length == 0) = false := beq_eq_false_iff_ne.2 (by omega)
    have hff : Hid (copyB ⟨D, o, m⟩ = false) := hid (by rw [← Bool.not_eq_true]; simp only [copyB, Bool.and_eq_true, decide_eq_true_eq]; omega)
    clear h1
    go_enter Try.func22, Try.ntmps22
    go_wp2
    go_ret
    exact ⟨by rw [hff.out]; rfl, by (repeat (first | exact Below.refl _ _ | assumption | (refine below_alloc ?_ _) | (refine Below.setCell ?_ (by first | omega | (simp; done) | (simp; omega)) _) | (refine Below.drew ?_) | (refine below_drewN ?_ _) | (refine below_then (by assumption) ?_)))⟩

set_option maxHeartbeats 1600000 in
theorem ref11_run (x : Tok) (a : Option Addr) (c : Nat) (w : World) (hl : x.lit.length ≤ 9223372036854775807) (h1 : -9223372036854775808 ≤ x.off ∧ x.off ≤ 9223372036854775807) (h2 : -9223372036854775808 ≤ x.len ∧ x.len ≤ 9223372036854775807) :
    Calls Try.prog 12 #[.agg #[.slice a x.lit.length c, .int .i64 x.off, .int .i64 x.len]] w fun r w' => r = .returned (.bool (runB x)) ∧ Below w.heap.size w w' := by
  obtain ⟨D, o, m⟩ := x
  dsimp only at *
  by_cases h0 : o = 0
  · skip
    have d0 : (o == 0) = true := beq_iff_eq.2 (by omega)
    by_cases h1 : m = 0
    · skip
      have d1 : (m == 0) = true := beq_iff_eq.2 (by omega)
      by_cases h2 : 1 ≤ D.length
      · skip
        have d2 : decide (1 ≤ (D.length : Int)) = true := decide_eq_true (by omega)
        have d2' : decide (1 ≤ D.length) = true := decide_eq_true (by omega)
        by_cases h3 : D.length ≤ 1048576
        · skip
          have d3 : decide ((D.length : Int) ≤ 1048576) = true := decide_eq_true (by omega)
          have d3' : decide (D.length ≤ 1048576) = true := decide_eq_true (by omega)
          have hff : Hid (runB ⟨D, o, m⟩ = true) := hid (by simp only [runB, Bool.and_eq_true, decide_eq_true_eq]; omega)
          clear h1
          go_enter Try.func12, Try.ntmps12
          go_wp2
          go_ret
          exact ⟨by rw [hff.out]; rfl, by (repeat (first | exact Below.refl _ _ | assumption | (refine below_alloc ?_ _) | (refine Below.setCell ?_ (by first | omega | (simp; done) | (simp; omega)) _) | (refine Below.drew ?_) | (refine below_drewN ?_ _) | (refine below_then (by assumption) ?_)))⟩
        · skip
          have d3 : decide ((D.length : Int) ≤ 1048576) = false := decide_eq_false (by omega)
          have d3' : decide (D.length ≤ 1048576) = false := decide_eq_false (by omega)
          have hff : Hid (runB ⟨D, o, m⟩ = false) := hid (by rw [← Bool.not_eq_true]; simp only [runB, Bool.and_eq_true, decide_eq_true_eq]; omega)
          clear h1
          go_enter Try.func12, Try.ntmps12
          go_wp2
          go_ret
          exact ⟨by rw [hff.out]; rfl, by (repeat (first | exact Below.refl _ _ | assumption | (refine below_alloc ?_ _) | (refine Below.setCell ?_ (by first | omega | (simp; done) | (simp; omega)) _) | (refine Below.drew ?_) | (refine below_drewN ?_ _) | (refine below_then (by assumption) ?_)))⟩
      · skip
        have d2 : decide (1 ≤ (D.length : Int)) = false := decide_eq_false (by omega)
        have d2' : decide (1 ≤ D.length) = false := decide_eq_false (by omega)
        have hff : Hid (runB ⟨D, o, m⟩ = false) := hid (by rw [← Bool.not_eq_true]; simp only [runB, Bool.and_eq_true, decide_eq_true_eq]; omega)
        clear h1
        go_enter Try.func12, Try.ntmps12
        go_wp2
        go_ret
        exact ⟨by rw [hff.out]; rfl, by (repeat (first | exact Below.refl _ _ | assumption | (refine below_alloc ?_ _) | (refine Below.setCell ?_ (by first | omega | (simp; done) | (simp; omega)) _) | (refine Below.drew ?_) | (refine below_drewN ?_ _) | (refine below_then (by assumption) ?_)))⟩
    · skip
      have d1 : (m == 0) = false := beq_eq_false_iff_ne.2 (by omega)
      have hff : Hid (runB ⟨D, o, m⟩ = false) := hid (by rw [← Bool.not_eq_true]; simp only [runB, Bool.and_eq_true, decide_eq_true_eq]; omega)
      clear h1
      go_enter Try.func12, Try.ntmps12
      go_wp2
      go_ret
      exact ⟨by rw [hff.out]; rfl, by (repeat (first | exact Below.refl _ _ | assumption | (refine below_alloc ?_ _) | (refine Below.setCell ?_ (by first | omega | (simp; done) | (simp; omega)) _) | (refine Below.drew ?_) | (refine below_drewN ?_ _) | (refine below_then (by assumption) ?_)))⟩
  · skip
    have d0 : (o == 0) = false := beq_eq_false_iff_ne.2 (by omega)
    have hff : Hid (runB ⟨D, o, m⟩ = false) := hid (by rw [← Bool.not_eq_true]; simp only [runB, Bool.and_eq_true, decide_eq_true_eq]; omega)
    clear h1
    go_enter Try.func12, Try.ntmps12
    go_wp2
    go_ret
    exact ⟨by rw [hff.out]; rfl, by (repeat (first | exact Below.refl _ _ | assumption | (refine below_alloc ?_ _) | (refine Below.setCell ?_ (by first | omega | (simp; done) | (simp; omega)) _) | (refine Below.drew ?_) | (refine below_drewN ?_ _) | (refine below_then (by assumption) ?_)))⟩

set_option maxHeartbeats 400000 in
theorem same_bytes (x y : List UInt8) (a a' : Option Addr) (n c n' c' : Nat) (w : World) (hx : rBytes.r (· < w.heap.size) w [.slice a n c] x) (hy : rBytes.r (· < w.heap.size) w [.slice a' n' c'] y) :
    Calls Try.prog 14 #[.slice a n c, .slice a' n' c'] w fun r w' => r = .returned (.bool (decide (x = y))) ∧ w = w' := by
  obtain ⟨rfl, _, _, _⟩ := sl_len hx
  obtain ⟨rfl, _, _, _⟩ := sl_len hy
  have h1 := bytes_str (P := Try.prog) 22 9 5 Try.underlying22 Try.underlying5 Try.underlying9 hx
  have h2 := bytes_str (P := Try.prog) 22 9 5 Try.underlying22 Try.underlying5 Try.underlying9 hy
  have he : (x == y) = decide (x = y) := by
    by_cases h : x = y
    · simp [h]
    · simp [h]
  have HE := hid he; clear he hx hy
  go_enter Try.func14, Try.ntmps14
  go_wp2
  go_ret
  refine ⟨?_, rfl⟩
  rw [← HE.out]
  simp [go_sem]
end Go.Proofs.Ytlkpnpbodbokkaa
namespace Go.Proofs.Ytlkpnpbodbokkaa
open Go.RowKit Go.Bs Go.Maps
set_option linter.unusedVariables false
set_option linter.unusedSimpArgs false

/-- Tokens from place p on, as they must be; f: a run stands right ahead. -/
inductive Good (b : List UInt8) : Bool → Nat → List Tok → Prop where
  | nil {f : Bool} : Good b f b.length []
  | copy {f : Bool} {p o m : Nat} {rest : List Tok} : p < b.length → bestR b p = (o, m) → m ≠ 0 → Good b false (p + m) rest → Good b f p (⟨[], (o : Int), (m : Int)⟩ :: rest)
  | run {p q : Nat} {rest : List Tok} : p < q → q ≤ b.length → (∀ r, p ≤ r → r < q → (bestR b r).2 = 0) → Good b true q rest → Good b false p (⟨(b.drop p).take (q - p), 0, 0⟩ :: rest)
theorem good_lit {b : List UInt8} {i p : Nat} {rest : List Tok} (hip : i ≤ p) (hp : p ≤ b.length) (h : ∀ r, i ≤ r → r < p → (bestR b r).2 = 0) (hg : ∀ f, Good b f p rest) : Good b false i (litT b i p ++ rest) := by
  unfold litT
  by_cases hlt : i < p
  · rw [if_pos hlt]
    exact .run hlt hp h (hg true)
  · obtain rfl : i = p := by omega
    rw [if_neg hlt]
    exact hg false
theorem good_toks (b : List UInt8) : ∀ (f p i : Nat), b.length ≤ p + f → i ≤ p → p ≤ b.length → (∀ r, i ≤ r → r < p → (bestR b r).2 = 0) → Good b false i (toksF b f p i)
  | 0, p, i, h1, h2, h3, h4 => by
    obtain rfl : p = b.length := by omega
    have := good_lit (rest := []) h2 h3 h4 fun f => .nil
    simpa [toksF] using this
  | f + 1, p, i, h1, h2, h3, h4 => by
    simp only [toksF]
    by_cases hp : p < b.length
    · rw [if_pos hp]
      by_cases hm : (bestR b p).2 = 0
      · rw [if_pos hm]
        refine good_toks b f (p + 1) i (by omega) (by omega) (by omega) fun r hr1 hr2 => ?_
        by_cases hrp : r = p
        · rw [hrp]; exact hm
        · exact h4 r hr1 (by omega)
      · rw [if_neg hm]
        have hroom := (bestR_room b p).1
        refine good_lit h2 h3 h4 fun g => .copy hp rfl hm ?_
        exact good_toks b f _ _ (by omega) (Nat.le_refl _) (by omega) fun r h1 h2 => by omega
    · rw [if_neg hp]
      obtain rfl : p = b.length := by omega
      have := good_lit (rest := []) h2 h3 h4 fun f => .nil
      simpa using this
theorem good_toksR (b : List UInt8) : Good b false 0 (toksR b) := good_toks b b.length 0 0 (by omega) (Nat.le_refl _) (Nat.zero_le _) fun r h1 h2 => by omega

def liveB : List UInt8 := [97, 98, 99, 97, 98, 99, 97, 98, 99, 100]
theorem live_toks : toksR liveB = [⟨[97, 98, 99], 0, 0⟩, ⟨[], 3, 6⟩, ⟨[100], 0, 0⟩] := by decide +kernel
def liveVs : Array Value := #[.int .u8 97, .int .u8 98, .int .u8 99, .int .u8 97, .int .u8 98, .int .u8 99, .int .u8 97, .int .u8 98, .int .u8 99, .int .u8 100]
theorem liveVs_is : liveVs = (byteCells liveB).toArray := by rfl
theorem lit_bytes {w : World} {g : Nat} {t : TypeId} {fr : Nat × Nat} {l : List UInt8} {cs : Array Value} (hcs : cs = (byteCells l).toArray) (hl : l.length ≤ 1000000) (hb : w.heap[g]? = some (.cells cs t fr)) : rBytes.r (· < w.heap.size) w [.slice (some ⟨g, 0, none⟩) l.length l.length] l := by
  subst hcs
  refine rSl_mk (xs := l) rfl (Nat.le_refl _) (by simp [maxLen]; omega) (.inr ⟨g, 0, rfl, (Array.getElem?_eq_some_iff.1 hb).1, fun i x hi => ⟨[.int .u8 (x.toNat : Int)], rfl, fun j v hj => ?_, rfl⟩⟩)
  have hj0 : j = 0 := by
    rcases j with _ | j
    · rfl
    · simp at hj
  subst hj0
  simp at hj
  subst hj
  rw [Nat.zero_add, Nat.mul_one, Nat.add_zero]
  simp [World.cell?, hb, byteCells, hi]
set_option maxRecDepth 100000 in
set_option maxHeartbeats 400000 in
theorem live15 (w : World) : Calls Try.prog 4 #[] w fun r w' => r = .returned (.bool true) ∧ Below w.heap.size w w' := by
  have HT := hid (fun (W : World) (g : Nat) (hb : W.heap[g]? = some (.cells liveVs 5 (10, 11))) => press_tokens W liveB (some ⟨g, 0, none⟩) 10 10 (lit_bytes liveVs_is (by decide) hb) (by decide))
  have kc := fun (w : World) (C : Array Value) (n c : Nat) => Lib.run_convert_bytes_const (P := Try.prog) w 22 5 C n c Try.underlying22 Try.underlying5
  go_enter Try.func4, Try.ntmps4
  go_wp2_with fail
  refine (HT.out _ w.heap.size (World.alloc_heap_new w _)).mono ?_
  rintro r w1 ⟨v, rfl, hr, hb1⟩
  rw [live_toks] at hr
  obtain ⟨a1, c1, hv, hr2, _⟩ := sl_form hr
  simp only [List.cons.injEq, and_true] at hv
  subst hv
  obtain ⟨g, o, hA, hg, a2, c2, x0, x1, x2, _, _, _⟩ := tok_at hr2 (i := 1) (by decide)
  obtain ⟨g', o', hA', _, a3, c3, y0, y1, y2, _, _, y3⟩ := tok_at hr2 (i := 2) (by decide)
  subst hA
  simp only [List.length_cons, List.length_nil, Option.some.injEq, Addr.mk.injEq, and_true] at hA'
  obtain ⟨rfl, rfl⟩ := hA'
  have hst := bytes_str (P := Try.prog) 22 9 5 Try.underlying22 Try.underlying5 Try.underlying9 y3
  simp only [List.getElem_cons_succ, List.getElem_cons_zero, List.length_cons, List.length_nil] at x1 x2 y0 hst
  have hbw : Below w.heap.size w w1 := by (repeat (first | exact Below.refl _ _ | assumption | (refine below_alloc ?_ _) | (refine Below.setCell ?_ (by first | omega | (simp; done) | (simp; omega)) _) | (refine Below.drew ?_) | (refine below_drewN ?_ _) | (refine below_then (by assumption) ?_)))
  clear hr hr2 y3 x0 y1 y2
  go_wp2
  go_ret
  exact ⟨rfl, hbw⟩
end Go.Proofs.Ytlkpnpbodbokkaa
namespace Go.Proofs.Ytlkpnpbodbokkaa
open Go.RowKit Go.Bs Go.Maps
set_option linter.unusedVariables false
set_option linter.unusedSimpArgs false

theorem toks_len (b : List UInt8) : ∀ (f p i : Nat), (toksF b f p i).length ≤ 2 * f + 1
  | 0, p, i => by
    simp only [toksF, litT]
    split <;> simp
  | f + 1, p, i => by
    simp only [toksF]
    split
    · split
      · have := toks_len b f (p + 1) i; omega
      · have := toks_len b f (p + (bestR b p).2) (p + (bestR b p).2)
        simp only [List.length_append, List.length_cons, litT]
        split <;> simp <;> omega
    · simp only [litT]
      split <;> simp

end Go.Proofs.Ytlkpnpbodbokkaa
namespace Go.Proofs.Ytlkpnpbodbokkaa
open Go.RowKit Go.Bs Go.Maps
set_option linter.unusedVariables false
set_option linter.unusedSimpArgs false

theorem o_bytes : Opens Try.prog 22 rBytes := opens_slice (sz := 1) Try.underlying22 (by kernel_rfl) (by decide) (opens_byte Try.underlying5)

end Go.Proofs.Ytlkpnpbodbokkaa
namespace Go.Bs
/-- A number's bytes, lowest digits first. -/
def varF : Nat → Nat → List UInt8
  | 0, x => [UInt8.ofNat x]
  | f + 1, x => if x < 128 then [UInt8.ofNat x] else UInt8.ofNat (128 + x % 128) :: varF f (x / 128)
def varB (x : Nat) : List UInt8 := varF 9 x
theorem varF_more : ∀ (f g x : Nat), x < 128 ^ (f + 1) → f ≤ g → varF f x = varF g x
  | 0, 0, _, _, _ => rfl
  | 0, g + 1, x, h, _ => by
    have : x < 128 := by simpa using h
    simp [varF, this]
  | f + 1, 0, _, _, h => by omega
  | f + 1, g + 1, x, h, hg => by
    simp only [varF]
    split
    · rfl
    · rw [varF_more f g (x / 128) (by rw [Nat.pow_succ] at h; omega) (by omega)]
theorem varB_small {x : Nat} (h : x < 128) : varB x = [UInt8.ofNat x] := by simp [varB, varF, h]
theorem varB_step {x : Nat} (h : ¬ x < 128) (hx : x < 2 ^ 64) : varB x = UInt8.ofNat (128 + x % 128) :: varB (x / 128) := by
  have e : varF 8 (x / 128) = varF 9 (x / 128) := varF_more 8 9 _ (by omega) (by omega)
  unfold varB
  rw [← e]
  simp [varF, h]
theorem varB_len (x : Nat) : (varB x).length ≤ 10 ∧ 1 ≤ (varB x).length := by
  have : ∀ f x, (varF f x).length ≤ f + 1 ∧ 1 ≤ (varF f x).length := by
    intro f
    induction f with
    | zero => intro x; simp [varF]
    | succ f ih => intro x; simp only [varF]; split <;> simp; exact (ih _).1
  exact this 9 x
end Go.Bs
namespace Go.Proofs.Ytlkpnpbodbokkaa
open Go.RowKit Go.Bs Go.Maps
set_option linter.unusedVariables false
set_option linter.unusedSimpArgs false

set_option maxHeartbeats 1600000 in
theorem varint_size (x : Nat) (hx : x < 18446744073709551616) (w : World) :
    Calls Try.prog 43 #[.int .u64 x] w fun r w' => r = .returned (.int .i64 (varB x).length) ∧ Below w.heap.size w w' := by
  go_enter Try.func43, Try.ntmps43
  go_wp2_with fail
  go_loopw [0, 3] (fun y n wr => ∃ v k : Nat, y = .int .u64 v ∧ n = .int .i64 k ∧ v < 18446744073709551616 ∧ k ≤ 10 ∧ 1 ≤ k ∧ Hid ((varB x).length + 1 = k + (varB v).length) ∧ Below w.heap.size w wr) (fun y _ _ => (intOf y).toNat)
  case atStart => exact ⟨x, 1, rfl, rfl, hx, by omega, by omega, hid (by omega), Below.refl _ _⟩
  case round =>
    obtain ⟨v, k, rfl, rfl, hv, hk, hk1, hs, hb⟩ := hrel
    by_cases h : v < 128
    · have d1 : decide ((128 : Int) ≤ (v : Int)) = false := by simp; omega
      have hf : Hid ((varB x).length = k) := hid (by have := hs.out; rw [varB_small h] at this; simpa using this)
      go_wp2
      go_ret
      exact ⟨by rw [hf.out]; rfl, hb⟩
    · have d1 : decide ((128 : Int) ≤ (v : Int)) = true := by simp; omega
      have hn : Hid ((varB x).length + 1 = k + 1 + (varB (v / 128)).length) := hid (by have := hs.out; rw [varB_step h (by omega)] at this; simp at this; omega)
      have hk10 : k + 1 ≤ 10 := by have := hn.out; have := varB_len x; have := varB_len (v / 128); omega
      go_wp2_with fail
      go_outline
      go_roundw
      case rel => exact ⟨v / 128, k + 1, by go_num, by go_num, by omega, by omega, by omega, hn, hb⟩
      case measure => simp [intOf]; omega
end Go.Proofs.Ytlkpnpbodbokkaa
namespace Go.Bs
open Go.RowKit
theorem own_new1 {w : World} {base g : Nat} {e : TypeId} {v : Value} (hb : base ≤ g) (h : w.heap[g]? = some (.cells #[v] e (0, 0))) : w.ownsRow base e 1 (.slice (some ⟨g, 0, none⟩) 1 1) 1 [v] :=
  ⟨rfl, .inr ⟨g, 1, #[v], rfl, hb, h, Nat.le_refl _, by decide, rfl, rfl⟩⟩
theorem byteCells_snoc (J : List UInt8) (b : UInt8) : byteCells J ++ [.int .u8 (b.toNat : Int)] = byteCells (J ++ [b]) := by simp [byteCells]
theorem byte_small {x : Nat} (h : x < 256) : (x : Int) = ((UInt8.ofNat x).toNat : Int) := by
  simp; omega
theorem or128 : ∀ n : Nat, n < 256 → bits .or .u8 (n : Int) 128 = 128 + (n : Int) % 128 := by decide +kernel
theorem or128b (v : Nat) : bits .or .u8 ((v : Int) % 256) 128 = ((UInt8.ofNat (128 + v % 128)).toNat : Int) := by
  have h := or128 (v % 256) (by omega)
  rw [show (((v % 256 : Nat)) : Int) = (v : Int) % 256 by omega] at h
  rw [h, ← byte_small (by omega)]
  omega
end Go.Bs
namespace Go.Proofs.Ytlkpnpbodbokkaa
open Go.RowKit Go.Bs Go.Maps
set_option linter.unusedVariables false
set_option linter.unusedSimpArgs false

set_option maxRecDepth 100000 in
set_option maxHeartbeats 1600000 in
theorem varint_bytes (x : Nat) (hx : x < 18446744073709551616) (w : World) :
    Calls Try.prog 57 #[.int .u64 x] w fun r w' => ∃ v, r = .returned v ∧ rBytes.r (fun b => w.heap.size ≤ b ∧ b < w'.heap.size) w' [v] (varB x) ∧ Below w.heap.size w w' := by
  obtain ⟨i0, hi, hz0, hz1, hz2⟩ := info_parts info8
  go_enter Try.func57, Try.ntmps57
  go_wp2_with fail
  go_loopw [0, 3] (fun y o wr => ∃ (v : Nat) (J : List UInt8), y = .int .u64 v ∧ v < 18446744073709551616 ∧ wr.ownsRow w.heap.size 5 1 o J.length (byteCells J) ∧ Hid (varB x = J ++ varB v) ∧ Below w.heap.size w wr) (fun y _ _ => (intOf y).toNat)
  case atStart => exact ⟨x, [], rfl, hx, ⟨rfl, .inl ⟨rfl, rfl⟩⟩, hid rfl, Below.refl _ _⟩
  case round =>
    obtain ⟨v, J, rfl, hv, hown, hs, hb⟩ := hrel
    have hbs := hb.size
    have hJ : J.length ≤ 10 := by have h1 := varB_len x; rw [hs.out] at h1; simp at h1; omega
    obtain ⟨aJ, cJ, rfl⟩ := own_form hown
    have HO := hid hown
    clear hown
    by_cases h : v < 128
    · have d1 : decide ((128 : Int) ≤ (v : Int)) = false := by simp; omega
      have hfin : Hid (varB x = J ++ [UInt8.ofNat v]) := hid (by rw [hs.out, varB_small h])
      have hby : Hid ((v : Int) = ((UInt8.ofNat v).toNat : Int)) := hid (byte_small (by omega))
      go_wp2_with (at_builtin; go_loud (refine wpList_append_src rfl _ _ _ rfl w.heap.size 5 i0 (.int .u8 0) 1 1 Try.underlying22 hi hz0 hz1 hz2 rfl (by decide) (.slice aJ J.length cJ) J.length (byteCells J) rfl (own_below HO.out (by (repeat (first | exact Below.refl _ _ | assumption | (refine below_alloc ?_ _) | (refine Below.setCell ?_ (by first | omega | (simp; done) | (simp; omega)) _) | (refine Below.drew ?_) | (refine below_drewN ?_ _) | (refine below_then (by assumption) ?_))))) (some ⟨wr.heap.size, 0, none⟩) 1 1 [.int .u8 (v : Int)] rfl (src_new1 wr 5 _ rfl rfl rfl) (by intro u hu; simp at hu; subst hu; rfl) (by simp only [maxLen]; omega) (by omega) (by simp; omega) ?_; intro v' w1 hown1 hgrow1 hat1; have HG := hid hgrow1; have HO1 := hid hown1; clear hgrow1 hown1 hat1))
      have ho := HO1.out
      rw [hby.out, byteCells_snoc, ← hfin.out] at ho
      have hlen : J.length + 1 = (varB x).length := by rw [hfin.out]; simp
      have hV := own_bytes2 hlen ho
      have hB : Below w.heap.size w w1 := Below.grown (by (repeat (first | exact Below.refl _ _ | assumption | (refine below_alloc ?_ _) | (refine Below.setCell ?_ (by first | omega | (simp; done) | (simp; omega)) _) | (refine Below.drew ?_) | (refine below_drewN ?_ _) | (refine below_then (by assumption) ?_)))) HG.out (by simp; omega) (fun g e => (HO.out.lt g e).1)
      have HV := hid hV
      clear ho hlen hV
      go_wp2
      go_ret
      exact ⟨_, rfl, HV.out, hB⟩
    · have d1 : decide ((128 : Int) ≤ (v : Int)) = true := by simp; omega
      have hfin : Hid (varB x = (J ++ [UInt8.ofNat (128 + v % 128)]) ++ varB (v / 128)) := hid (by rw [hs.out, varB_step h (by omega)]; simp)
      have hor := or128b v
      generalize UInt8.ofNat (128 + v % 128) = bb at *
      go_wp2_with (at_builtin; go_loud (refine wpList_append_src rfl _ _ _ rfl w.heap.size 5 i0 (.int .u8 0) 1 1 Try.underlying22 hi hz0 hz1 hz2 rfl (by decide) (.slice aJ J.length cJ) J.length (byteCells J) rfl (own_below HO.out (by (repeat (first | exact Below.refl _ _ | assumption | (refine below_alloc ?_ _) | (refine Below.setCell ?_ (by first | omega | (simp; done) | (simp; omega)) _) | (refine Below.drew ?_) | (refine below_drewN ?_ _) | (refine below_then (by assumption) ?_))))) (some ⟨wr.heap.size, 0, none⟩) 1 1 [.int .u8 (bb.toNat : Int)] rfl (src_new1 wr 5 _ rfl rfl rfl) (by intro u hu; simp at hu; subst hu; rfl) (by simp only [maxLen]; omega) (by omega) (by simp; omega) ?_; intro v' w1 hown1 hgrow1 hat1; have HG := hid hgrow1; have HO1 := hid hown1; clear hgrow1 hown1 hat1))
      have ho := HO1.out
      rw [byteCells_snoc] at ho
      have hB : Below w.heap.size w w1 := Below.grown (by (repeat (first | exact Below.refl _ _ | assumption | (refine below_alloc ?_ _) | (refine Below.setCell ?_ (by first | omega | (simp; done) | (simp; omega)) _) | (refine Below.drew ?_) | (refine below_drewN ?_ _) | (refine below_then (by assumption) ?_)))) HG.out (by simp; omega) (fun g e => (HO.out.lt g e).1)
      have HO2 := hid ho
      clear ho HO1
      go_wp2_with fail
      go_roundw
      case rel => exact ⟨v / 128, J ++ [bb], by go_num, by omega, (by rw [List.length_append]; exact HO2.out), hfin, hB⟩
      case measure => simp [intOf]; omega

set_option maxRecDepth 100000 in
set_option maxHeartbeats 1600000 in
theorem ref04_bytes (x : Nat) : ∀ (hx : x < 18446744073709551616) (w : World),
    Calls Try.prog 19 #[.int .u64 x] w fun r w' => ∃ v, r = .returned v ∧ rBytes.r (fun b => w.heap.size ≤ b ∧ b < w'.heap.size) w' [v] (varB x) ∧ Below w.heap.size w w' := by
  induction x using Nat.strongRecOn with
  | ind x ih =>
  intro hx w
  obtain ⟨i0, hi, hz0, hz1, hz2⟩ := info_parts info8
  by_cases h : x < 128
  · have d1 : decide ((x : Int) < 128) = true := by simp; omega
    have hfin : Hid (varB x = [UInt8.ofNat x]) := hid (varB_small h)
    have hby : Hid ((x : Int) = ((UInt8.ofNat x).toNat : Int)) := hid (byte_small (by omega))
    have HIH := hid ih; clear ih
    go_enter Try.func19, Try.ntmps19
    go_wp2_with fail
    have e0 : [Value.int .u8 (x : Int)] = byteCells (varB x) := by rw [hfin.out, hby.out]; rfl
    have ho : (w.alloc (.cells #[.int .u8 (x : Int)] 5)).ownsRow w.heap.size 5 1 (.slice (some ⟨w.heap.size, 0, none⟩) 1 1) 1 (byteCells (varB x)) := e0 ▸ own_new1 (w := w.alloc (.cells #[.int .u8 (x : Int)] 5)) (base := w.heap.size) (e := 5) (Nat.le_refl _) (World.alloc_heap_new w _)
    have hV := own_bytes2 (l := varB x) (n := 1) (by rw [hfin.out]; rfl) ho
    have HV := hid hV
    clear ho e0 hV
    go_ret
    exact ⟨_, rfl, HV.out, by (repeat (first | exact Below.refl _ _ | assumption | (refine below_alloc ?_ _) | (refine Below.setCell ?_ (by first | omega | (simp; done) | (simp; omega)) _) | (refine Below.drew ?_) | (refine below_drewN ?_ _) | (refine below_then (by assumption) ?_)))⟩
  · have d1 : decide ((x : Int) < 128) = false := by simp; omega
    have HIH := hid (fun (W : World) => ih (x / 128) (by omega) (by omega) W)
    clear ih
    rw [show ((x / 128 : Nat) : Int) = (x : Int) / 128 by omega] at HIH
    have hfin : Hid (varB x = [UInt8.ofNat (128 + x % 128)] ++ varB (x / 128)) := hid (by rw [varB_step h (by omega)]; rfl)
    have hby : Hid (128 + (x : Int) % 128 = ((UInt8.ofNat (128 + x % 128)).toNat : Int)) := hid (by rw [← byte_small (by omega)]; omega)
    have hlb := varB_len (x / 128)
    go_enter Try.func19, Try.ntmps19
    go_wp2_with fail
    refine (HIH.out _).mono ?_
    rintro r w1 ⟨v1, rfl, hr1, hb1⟩
    have ho := own_new1 (w := w.alloc (.cells #[.int .u8 (128 + (x : Int) % 128)] 5)) (base := w.heap.size) (e := 5) (Nat.le_refl _) (World.alloc_heap_new w _)
    have ho1 := own_below ho hb1
    obtain ⟨a1, c1, hv1, hr2, _⟩ := sl_form hr1
    simp only [List.cons.injEq, and_true] at hv1
    subst hv1
    have hr3 := src_bytes (rBytes.mono hr2 (S' := (· < w1.heap.size)) fun b hb => hb.2)
    have HS := hid hr3; have HO := hid ho1; have HONE := hid (byteCells_one (varB (x / 128)))
    have hz1w : w.heap.size + 1 ≤ w1.heap.size := by have := hb1.size; simpa using this
    have hbw1 : Below w.heap.size w w1 := by (repeat (first | exact Below.refl _ _ | assumption | (refine below_alloc ?_ _) | (refine Below.setCell ?_ (by first | omega | (simp; done) | (simp; omega)) _) | (refine Below.drew ?_) | (refine below_drewN ?_ _) | (refine below_then (by assumption) ?_)))
    clear hr1 hr2 hr3 ho ho1
    go_wp2_with (at_builtin; go_loud (refine wpList_append_src rfl _ _ _ rfl w.heap.size 5 i0 (.int .u8 0) 1 1 Try.underlying22 hi hz0 hz1 hz2 rfl (by decide) (.slice (some ⟨w.heap.size, 0, none⟩) 1 1) 1 _ rfl HO.out a1 (varB (x / 128)).length c1 (byteCells (varB (x / 128))) rfl HS.out HONE.out (by simp only [maxLen]; omega) (by omega) (by omega) ?_; intro v' w2 hown2 hgrow2 hat2; have HG := hid hgrow2; have HO2 := hid hown2; clear hgrow2 hown2 hat2))
    have ho := HO2.out
    rw [hby.out, show [Value.int .u8 ((UInt8.ofNat (128 + x % 128)).toNat : Int)] = byteCells [UInt8.ofNat (128 + x % 128)] from rfl, byteCells, byteCells, ← List.map_append, ← hfin.out] at ho
    have hV := own_bytes2 (by rw [hfin.out]; simp; omega) ho
    have hB : Below w.heap.size w w2 := Below.grown hbw1 HG.out (by omega) (fun g e => (HO.out.lt g e).1)
    have HV := hid hV
    clear ho hV
    go_ret
    exact ⟨_, rfl, HV.out, hB⟩
end Go.Proofs.Ytlkpnpbodbokkaa
namespace Go.Proofs.Ytlkpnpbodbokkaa
open Go.RowKit Go.Bs Go.Maps
set_option linter.unusedVariables false
set_option linter.unusedSimpArgs false

/-- Block g is a good pen with a bound that has written J. -/
structure PenAt (w : World) (g base most : Nat) (J : List UInt8) (a : Option Addr) (c : Nat) : Prop where
  blk : Blk w g 92 #[.int .i64 most, .slice a J.length c, .int .i64 0]
  own : w.ownsRow base 5 1 (.slice a J.length c) J.length (byteCells J)
  ne : (Value.slice a J.length c).ownBlock ≠ some g
  lo : base ≤ g
  le : J.length ≤ most
  most : most ≤ 4611686018427387904
  len : J.length ≤ 100000000000000
def PenF (g : Nat) (a : Option Addr) (q : Nat) : Prop := q = g ∨ ∃ p, a = some p ∧ p.block = q
theorem own_slice {a : Option Addr} {n c : Nat} : (Value.slice a n c).ownBlock = a.map Addr.block := by cases a <;> rfl
/-- What writing leaves. -/
def PenStep (w : World) (g base most : Nat) (J' : List UInt8) (a : Option Addr) (w' : World) : Prop :=
  ∃ a' c', PenAt w' g base most J' a' c' ∧ Tch (PenF g a) w w' ∧ (a'.map Addr.block = a.map Addr.block ∨ ∃ q, a'.map Addr.block = some q ∧ w.heap.size ≤ q)
theorem PenStep.refl {w : World} {g base most : Nat} {J : List UInt8} {a : Option Addr} {c : Nat} (h : PenAt w g base most J a c) : PenStep w g base most J a w := ⟨a, c, h, Tch.refl _ _, .inl rfl⟩
theorem penF_is {g : Nat} {a : Option Addr} {q : Nat} : PenF g a q ↔ q = g ∨ a.map Addr.block = some q := by unfold PenF; simp
theorem PenStep.trans {w w1 w2 : World} {g base most : Nat} {J J' : List UInt8} {a a1 : Option Addr} (h1 : Tch (PenF g a) w w1) (h2 : a1.map Addr.block = a.map Addr.block ∨ ∃ q, a1.map Addr.block = some q ∧ w.heap.size ≤ q) (k : PenStep w1 g base most J' a1 w2) : PenStep w g base most J' a w2 := by
  obtain ⟨a2, c2, k1, k2, k3⟩ := k
  have hs := h1.size
  refine ⟨a2, c2, k1, h1.trans k2 fun q hq e => ?_, ?_⟩
  · rw [penF_is] at e ⊢
    rcases e with e | e
    · exact .inl e
    · rcases h2 with h2 | ⟨q', h2, h3⟩
      · exact .inr (h2 ▸ e)
      · rw [h2] at e; simp at e; omega
  · rcases k3 with k3 | ⟨q, k3, k4⟩
    · rcases h2 with h2 | ⟨q', h2, h3⟩
      · exact .inl (k3.trans h2)
      · exact .inr ⟨q', k3.trans h2, h3⟩
    · exact .inr ⟨q, k3, by omega⟩
theorem PenStep.later {w w1 w2 : World} {g base most : Nat} {J' : List UInt8} {a : Option Addr} (h : Below w.heap.size w w1) (k : PenStep w1 g base most J' a w2) : PenStep w g base most J' a w2 := PenStep.trans (J := J') (Tch.of_later h) (.inl rfl) k
theorem PenAt.later {w w1 : World} {g base most : Nat} {J : List UInt8} {a : Option Addr} {c : Nat} (h : PenAt w g base most J a c) (hb : Below w.heap.size w w1) : PenAt w1 g base most J a c :=
  ⟨h.blk.later hb, own_below h.own hb, h.ne, h.lo, h.le, h.most, h.len⟩
theorem PenAt.new (w : World) (most : Nat) (hm : most ≤ 4611686018427387904) : PenAt (w.alloc (.cells #[.int .i64 most, .slice none 0 0, .int .i64 0] 92)) w.heap.size w.heap.size most [] none 0 :=
  ⟨Blk.new w _ _, ⟨rfl, .inl ⟨rfl, rfl⟩⟩, by simp [Value.ownBlock], Nat.le_refl _, Nat.zero_le _, hm, Nat.zero_le _⟩

theorem pen_code (w : World) {g base most : Nat} {J : List UInt8} {a : Option Addr} {c : Nat} (h : PenAt w g base most J a c) :
    Calls Try.prog 56 #[.pointer (some ⟨g, 0, none⟩)] w fun r w' => r = .returned (.int .i64 0) ∧ w = w' := by
  have c2 : w.cell? ⟨g, 2, none⟩ = some (.int .i64 0) := h.blk.cell 2
  clear h
  go_enter Try.func56, Try.ntmps56
  go_wp2
  go_ret
  exact ⟨rfl, rfl⟩
theorem pen_room (w : World) {g base most : Nat} {J : List UInt8} {a : Option Addr} {c : Nat} (h : PenAt w g base most J a c) :
    Calls Try.prog 58 #[.pointer (some ⟨g, 0, none⟩)] w fun r w' => r = .returned (.int .i64 ((most : Int) - J.length)) ∧ Below w.heap.size w w' := by
  have C0 := fun s : Later w => s.cell (h.blk.cell 0)
  have C1 := fun s : Later w => s.cell (h.blk.cell 1)
  simp at C0 C1
  have hle := h.le; have hmo := h.most
  clear h
  go_enter Try.func58, Try.ntmps58
  go_wp2_with fail
  refine wp_region_later (by kernel_rfl) (by kernel_rfl) ?_
  repeat (go_big_quiet_step (fail))
  refine wpQuiet_nil ?_
  rintro W5 ⟨⟨W5', hb5⟩, rfl⟩
  go_wp2
  go_ret
  exact ⟨by first | rfl | simp, hb5⟩
theorem pen_new (w : World) (most : Nat) (hm : most ≤ 4611686018427387904) :
    Calls Try.prog 44 #[.int .i64 most] w fun r w' => r = .returned (.pointer (some ⟨w.heap.size, 0, none⟩)) ∧ PenAt w' w.heap.size w.heap.size most [] none 0 ∧ Below w.heap.size w w' := by
  have hN := hid (PenAt.new w most hm)
  have d1 : max (most : Int) 0 = most := by omega
  have d2 : (if (most : Int) < 0 then (0 : Int) else most) = most := by rw [if_neg (by omega)]
  go_enter Try.func44, Try.ntmps44
  go_wp2
  go_ret
  exact ⟨rfl, hN.out, by (repeat (first | exact Below.refl _ _ | assumption | (refine below_alloc ?_ _) | (refine Below.setCell ?_ (by first | omega | (simp; done) | (simp; omega)) _) | (refine Below.drew ?_) | (refine below_drewN ?_ _) | (refine below_then (by assumption) ?_)))⟩
end Go.Proofs.Ytlkpnpbodbokkaa
namespace Go.Proofs.Ytlkpnpbodbokkaa
open Go.RowKit Go.Bs Go.Maps
set_option linter.unusedVariables false
set_option linter.unusedSimpArgs false

theorem pen_next {w1 w2 : World} {g base most : Nat} {J D : List UInt8} {a : Option Addr} {c : Nat} {a' : Option Addr} {c' : Nat} (h : PenAt w1 g base most J a c) (hfit : J.length + D.length ≤ most) (hlen : J.length + D.length ≤ 100000000000000)
    (hown : w2.ownsRow base 5 1 (.slice a' (J.length + D.length) c') (J.length + D.length) (byteCells J ++ byteCells D)) (hgrow : w1.grownBy w2 (Value.slice a J.length c).ownBlock)
    (hat : (Value.slice a' (J.length + D.length) c').ownBlock = (Value.slice a J.length c).ownBlock ∨ (Value.slice a' (J.length + D.length) c').ownBlock = some w1.heap.size) :
    PenStep w1 g base most (J ++ D) a (w2.setCell ⟨g, 1, none⟩ (.slice a' (J.length + D.length) c')) := by
  have hg := h.blk.lt
  have hs := hgrow.size
  have hn2 : (Value.slice a' (J.length + D.length) c').ownBlock ≠ some g := fun e => by
    rcases hat with h1 | h1
    · rw [h1] at e; exact h.ne e
    · rw [h1] at e; simp at e; omega
  have hsz : (w2.setCell ⟨g, 1, none⟩ (.slice a' (J.length + D.length) c')).heap.size = w2.heap.size := by simp [World.setCell]
  have hll : (J ++ D).length = J.length + D.length := List.length_append
  have hbb : byteCells (J ++ D) = byteCells J ++ byteCells D := by simp [byteCells]
  refine ⟨a', c', ⟨?_, ?_, ?_, h.lo, by omega, h.most, by omega⟩, ?_, ?_⟩
  · rw [hll]
    exact (h.blk.grown hgrow (fun e => h.ne e.symm)).set 1 _
  · rw [hll, hbb]
    exact own_keep hown fun q hq => Below.heap_setCell w2 _ _ q (fun e => hn2 (by rw [hq, e]))
  · rw [hll]; exact hn2
  · refine ⟨hgrow.os, hgrow.tape, hgrow.output, by rw [hsz]; exact hs, fun q hq hf => ?_⟩
    rw [penF_is] at hf
    exact (Below.heap_setCell w2 _ _ q (fun e => hf (.inl e))).trans (hgrow.block q hq (fun e => hf (.inr (by rw [own_slice] at e; exact e.symm))))
  · rw [own_slice, own_slice] at hat
    rcases hat with h1 | h1
    · exact .inl h1
    · exact .inr ⟨_, h1, Nat.le_refl _⟩

set_option maxRecDepth 100000 in
set_option maxHeartbeats 1600000 in
theorem pen_put (w : World) {g base most : Nat} {J : List UInt8} {a : Option Addr} {c : Nat} (h : PenAt w g base most J a c) (D : List UInt8) (ad : Option Addr) (nd cd : Nat) (hD : rBytes.r (· < w.heap.size) w [.slice ad nd cd] D) (hfit : J.length + D.length ≤ most) (hlen : J.length + D.length ≤ 100000000000000) :
    Calls Try.prog 55 #[.pointer (some ⟨g, 0, none⟩), .slice ad nd cd] w fun r w' => r = .returned (.tuple #[]) ∧ PenStep w g base most (J ++ D) a w' := by
  obtain ⟨rfl, hm, _, _⟩ := sl_len hD
  obtain ⟨i0, hi, hz0, hz1, hz2⟩ := info_parts info8
  have HC := hid (pen_code w h)
  have HR := hid (pen_room w h)
  have HP := hid h
  have HD := hid hD
  have HONE := hid (byteCells_one D)
  have hmo := h.most
  have d1 : decide ((most : Int) - (J.length : Int) < (D.length : Int)) = false := by simp; omega
  clear h hD
  go_enter Try.func55, Try.ntmps55
  go_wp2_with fail
  refine HC.out.mono ?_
  rintro r w0 ⟨rfl, rfl⟩
  go_wp2_with fail
  refine HR.out.mono ?_
  rintro r w1 ⟨rfl, hb1⟩
  have hP1 := HP.out.later hb1
  have c1 : w1.cell? ⟨g, 1, none⟩ = some (.slice a J.length c) := hP1.blk.cell 1
  have hg1 := hP1.blk.lt
  have f1 := hP1.blk.free 1
  have hne := hP1.ne
  have hlo := hP1.lo
  have HP1 := hid hP1
  have HS := hid (src_bytes (lift HD.out hb1))
  clear hP1
  go_wp2_with (at_builtin; go_loud (refine wpList_append_src rfl _ _ _ rfl base 5 i0 (.int .u8 0) 1 1 Try.underlying22 hi hz0 hz1 hz2 rfl (by decide) (.slice a J.length c) J.length (byteCells J) rfl HP1.out.own ad D.length cd (byteCells D) rfl HS.out HONE.out (by simp only [maxLen]; omega) (by omega) (by omega) ?_; intro v' w2 hown2 hgrow2 hat2; obtain ⟨a', c', rfl⟩ := own_form hown2; have f2 := (World.frozen?_of_block (a := ⟨g, 1, none⟩) (hgrow2.block g hg1 (fun e => hne e.symm))).trans f1; have e2 := (World.cell?_of_block (a := ⟨g, 1, none⟩) (hgrow2.block g hg1 (fun e => hne e.symm))).trans c1; have hz2' : g < w2.heap.size := Nat.lt_of_lt_of_le hg1 hgrow2.size; have HG := hid hgrow2; have HO := hid hown2; have HAT := hid hat2; clear hgrow2 hown2 hat2))
  have hst := PenStep.later hb1 (pen_next HP1.out hfit hlen HO.out HG.out HAT.out)
  have HST := hid hst
  clear hst
  go_wp2
  go_end0
  exact ⟨rfl, HST.out⟩

set_option maxRecDepth 100000 in
set_option maxHeartbeats 1600000 in
theorem pen_bytes (w : World) {g base most : Nat} {J : List UInt8} {a : Option Addr} {c : Nat} (h : PenAt w g base most J a c) :
    Calls Try.prog 47 #[.pointer (some ⟨g, 0, none⟩)] w fun r w' => ∃ v, r = .returned (.tuple #[v, .int .i64 0]) ∧ rBytes.r (fun q => w.heap.size ≤ q ∧ q < w'.heap.size) w' [v] J ∧ Below w.heap.size w w' := by
  obtain ⟨i0, hi, hz0, hz1, hz2⟩ := info_parts info8
  have HC := hid (pen_code w h)
  have hB := own_bytes2 rfl h.own
  obtain ⟨_, hm, _, _⟩ := sl_len hB
  have HD := hid (rBytes.mono hB (S' := (· < w.heap.size)) fun q hq => hq.2)
  have HONE := hid (byteCells_one J)
  have c1 : w.cell? ⟨g, 1, none⟩ = some (.slice a J.length c) := h.blk.cell 1
  have hg1 := h.blk.lt
  have hle := h.le; have hmo := h.most; have hle14 := h.len
  clear h hB
  go_enter Try.func47, Try.ntmps47
  go_wp2_with fail
  refine HC.out.mono ?_
  rintro r w0 ⟨rfl, rfl⟩
  go_wp2_with (at_builtin; go_loud (refine wpList_append_src rfl _ _ _ rfl w.heap.size 5 i0 (.int .u8 0) 1 1 Try.underlying22 hi hz0 hz1 hz2 rfl (by decide) _ 0 [] rfl (own_empty _ (Nat.le_refl _) rfl) a J.length c (byteCells J) rfl (src_bytes (lift HD.out (by (repeat (first | exact Below.refl _ _ | assumption | (refine below_alloc ?_ _) | (refine Below.setCell ?_ (by first | omega | (simp; done) | (simp; omega)) _) | (refine Below.drew ?_) | (refine below_drewN ?_ _) | (refine below_then (by assumption) ?_)))))) HONE.out (by simp only [maxLen]; omega) (by omega) (by simp) ?_; intro v' w1 hown1 hgrow1 hat1; rw [Nat.zero_add, List.nil_append] at hown1; obtain ⟨a', c', rfl⟩ := own_form hown1; have HG := hid hgrow1; have HO := hid hown1; clear hgrow1 hown1 hat1))
  have hA := own_bytes2 rfl HO.out
  have hb1 : Below w.heap.size w w1 := Below.grown (by (repeat (first | exact Below.refl _ _ | assumption | (refine below_alloc ?_ _) | (refine Below.setCell ?_ (by first | omega | (simp; done) | (simp; omega)) _) | (refine Below.drew ?_) | (refine below_drewN ?_ _) | (refine below_then (by assumption) ?_)))) HG.out (by simp) (fun g e => by
    have e' : some w.heap.size = some g := e
    injection e' with e'
    omega)
  have HA := hid hA
  clear hA
  go_ret2
  exact ⟨_, rfl, HA.out, hb1⟩
end Go.Proofs.Ytlkpnpbodbokkaa
namespace Go.Proofs.Ytlkpnpbodbokkaa
open Go.RowKit Go.Bs Go.Maps
set_option linter.unusedVariables false
set_option linter.unusedSimpArgs false

def rightB (t : Tok) : Bool := runB t || copyB t

set_option maxRecDepth 100000 in
set_option maxHeartbeats 6400000 in
theorem token_right (x : Tok) (a : Option Addr) (c : Nat) (w : World) (hl : x.lit.length ≤ 9223372036854775807) (h1 : -9223372036854775808 ≤ x.off ∧ x.off ≤ 9223372036854775807) (h2 : -9223372036854775808 ≤ x.len ∧ x.len ≤ 9223372036854775807) :
    Calls Try.prog 52 #[.agg #[.slice a x.lit.length c, .int .i64 x.off, .int .i64 x.len]] w fun r w' => r = .returned (.bool (rightB x)) ∧ Below w.heap.size w w' := by
  obtain ⟨D, o, m⟩ := x
  dsimp only at *
  by_cases k0 : o = 0
  · skip
    have k0_0 : (o == 0) = true := beq_iff_eq.2 (by omega)
    by_cases k1 : m = 0
    · skip
      have k1_0 : (m == 0) = true := beq_iff_eq.2 (by omega)
      by_cases k2 : 1 ≤ D.length
      · skip
        have k2_0 : decide ((1 : Int) ≤ (D.length : Int)) = true := decide_eq_true (by omega)
        have k2_1 : decide (1 ≤ D.length) = true := decide_eq_true (by omega)
        by_cases k3 : D.length ≤ 1048576
        · skip
          have k3_0 : decide ((D.length : Int) ≤ 1048576) = true := decide_eq_true (by omega)
          have k3_1 : decide (D.length ≤ 1048576) = true := decide_eq_true (by omega)
          have hff : Hid (rightB ⟨D, o, m⟩ = true) := hid (by simp only [rightB, runB, copyB, Bool.or_eq_true, Bool.and_eq_true, decide_eq_true_eq]; first | omega | (simp; omega))
          clear hl h1 h2
          go_enter Try.func52, Try.ntmps52
          go_wp2
          go_ret
          exact ⟨by rw [hff.out]; rfl, by (repeat (first | exact Below.refl _ _ | assumption | (refine below_alloc ?_ _) | (refine Below.setCell ?_ (by first | omega | (simp; done) | (simp; omega)) _) | (refine Below.drew ?_) | (refine below_drewN ?_ _) | (refine below_then (by assumption) ?_)))⟩
        · skip
          have k3_0 : decide ((D.length : Int) ≤ 1048576) = false := decide_eq_false (by omega)
          have k3_1 : decide (D.length ≤ 1048576) = false := decide_eq_false (by omega)
          have hff : Hid (rightB ⟨D, o, m⟩ = false) := hid (by rw [← Bool.not_eq_true]; simp only [rightB, runB, copyB, Bool.or_eq_true, Bool.and_eq_true, decide_eq_true_eq]; first | omega | (simp; omega))
          clear hl h1 h2
          go_enter Try.func52, Try.ntmps52
          go_wp2
          go_ret
          exact ⟨by rw [hff.out]; rfl, by (repeat (first | exact Below.refl _ _ | assumption | (refine below_alloc ?_ _) | (refine Below.setCell ?_ (by first | omega | (simp; done) | (simp; omega)) _) | (refine Below.drew ?_) | (refine below_drewN ?_ _) | (refine below_then (by assumption) ?_)))⟩
      · skip
        have k2_0 : decide ((1 : Int) ≤ (D.length : Int)) = false := decide_eq_false (by omega)
        have k2_1 : decide (1 ≤ D.length) = false := decide_eq_false (by omega)
        have hff : Hid (rightB ⟨D, o, m⟩ = false) := hid (by rw [← Bool.not_eq_true]; simp only [rightB, runB, copyB, Bool.or_eq_true, Bool.and_eq_true, decide_eq_true_eq]; first | omega | (simp; omega))
        clear hl h1 h2
        go_enter Try.func52, Try.ntmps52
        go_wp2
        go_ret
        exact ⟨by rw [hff.out]; rfl, by (repeat (first | exact Below.refl _ _ | assumption | (refine below_alloc ?_ _) | (refine Below.setCell ?_ (by first | omega | (simp; done) | (simp; omega)) _) | (refine Below.drew ?_) | (refine below_drewN ?_ _) | (refine below_then (by assumption) ?_)))⟩
    · skip
      have k1_0 : (m == 0) = false := beq_eq_false_iff_ne.2 (by omega)
      have hff : Hid (rightB ⟨D, o, m⟩ = false) := hid (by rw [← Bool.not_eq_true]; simp only [rightB, runB, copyB, Bool.or_eq_true, Bool.and_eq_true, decide_eq_true_eq]; first | omega | (simp; omega))
      clear hl h1 h2
      go_enter Try.func52, Try.ntmps52
      go_wp2
      go_ret
      exact ⟨by rw [hff.out]; rfl, by (repeat (first | exact Below.refl _ _ | assumption | (refine below_alloc ?_ _) | (refine Below.setCell ?_ (by first | omega | (simp; done) | (simp; omega)) _) | (refine Below.drew ?_) | (refine below_drewN ?_ _) | (refine below_then (by assumption) ?_)))⟩
  · skip
    have k0_0 : (o == 0) = false := beq_eq_false_iff_ne.2 (by omega)
    by_cases k4 : 0 < D.length
    · skip
      have k4_0 : decide ((0 : Int) < (D.length : Int)) = true := decide_eq_true (by omega)
      have k4_1 : decide (0 < D.length) = true := decide_eq_true (by omega)
      have hff : Hid (rightB ⟨D, o, m⟩ = false) := hid (by rw [← Bool.not_eq_true]; simp only [rightB, runB, copyB, Bool.or_eq_true, Bool.and_eq_true, decide_eq_true_eq]; first | omega | (simp; omega))
      clear hl h1 h2
      go_enter Try.func52, Try.ntmps52
      go_wp2
      go_ret
      exact ⟨by rw [hff.out]; rfl, by (repeat (first | exact Below.refl _ _ | assumption | (refine below_alloc ?_ _) | (refine Below.setCell ?_ (by first | omega | (simp; done) | (simp; omega)) _) | (refine Below.drew ?_) | (refine below_drewN ?_ _) | (refine below_then (by assumption) ?_)))⟩
    · skip
      obtain rfl : D = [] := List.eq_nil_of_length_eq_zero (by omega)
      simp only [List.length_nil] at *
      by_cases k5 : o < 0
      · skip
        have k5_0 : decide (o < 0) = true := decide_eq_true (by omega)
        have hff : Hid (rightB ⟨[], o, m⟩ = false) := hid (by rw [← Bool.not_eq_true]; simp only [rightB, runB, copyB, Bool.or_eq_true, Bool.and_eq_true, decide_eq_true_eq, List.length_nil]; first | omega | (simp; omega))
        clear hl h1 h2
        go_enter Try.func52, Try.ntmps52
        go_wp2
        go_ret
        exact ⟨by rw [hff.out]; rfl, by (repeat (first | exact Below.refl _ _ | assumption | (refine below_alloc ?_ _) | (refine Below.setCell ?_ (by first | omega | (simp; done) | (simp; omega)) _) | (refine Below.drew ?_) | (refine below_drewN ?_ _) | (refine below_then (by assumption) ?_)))⟩
      · skip
        have k5_0 : decide (o < 0) = false := decide_eq_false (by omega)
        by_cases k6 : 65536 < o
        · skip
          have k6_0 : decide ((65536 : Int) < o) = true := decide_eq_true (by omega)
          have hff : Hid (rightB ⟨[], o, m⟩ = false) := hid (by rw [← Bool.not_eq_true]; simp only [rightB, runB, copyB, Bool.or_eq_true, Bool.and_eq_true, decide_eq_true_eq, List.length_nil]; first | omega | (simp; omega))
          clear hl h1 h2
          go_enter Try.func52, Try.ntmps52
          go_wp2
          go_ret
          exact ⟨by rw [hff.out]; rfl, by (repeat (first | exact Below.refl _ _ | assumption | (refine below_alloc ?_ _) | (refine Below.setCell ?_ (by first | omega | (simp; done) | (simp; omega)) _) | (refine Below.drew ?_) | (refine below_drewN ?_ _) | (refine below_then (by assumption) ?_)))⟩
        · skip
          have k6_0 : decide ((65536 : Int) < o) = false := decide_eq_false (by omega)
          by_cases k7 : 4 ≤ m
          · skip
            have k7_0 : decide ((4 : Int) ≤ m) = true := decide_eq_true (by omega)
            by_cases k8 : m ≤ 1048576
            · skip
              have k8_0 : decide (m ≤ 1048576) = true := decide_eq_true (by omega)
              have hff : Hid (rightB ⟨[], o, m⟩ = true) := hid (by simp only [rightB, runB, copyB, Bool.or_eq_true, Bool.and_eq_true, decide_eq_true_eq, List.length_nil]; first | omega | (simp; omega))
              clear hl h1 h2
              go_enter Try.func52, Try.ntmps52
              go_wp2
              go_ret
              exact ⟨by rw [hff.out]; rfl, by (repeat (first | exact Below.refl _ _ | assumption | (refine below_alloc ?_ _) | (refine Below.setCell ?_ (by first | omega | (simp; done) | (simp; omega)) _) | (refine Below.drew ?_) | (refine below_drewN ?_ _) | (refine below_then (by assumption) ?_)))⟩
            · skip
              have k8_0 : decide (m ≤ 1048576) = false := decide_eq_false (by omega)
              have hff : Hid (rightB ⟨[], o, m⟩ = false) := hid (by rw [← Bool.not_eq_true]; simp only [rightB, runB, copyB, Bool.or_eq_true, Bool.and_eq_true, decide_eq_true_eq, List.length_nil]; first | omega | (simp; omega))
              clear hl h1 h2
              go_enter Try.func52, Try.ntmps52
              go_wp2
              go_ret
              exact ⟨by rw [hff.out]; rfl, by (repeat (first | exact Below.refl _ _ | assumption | (refine below_alloc ?_ _) | (refine Below.setCell ?_ (by first | omega | (simp; done) | (simp; omega)) _) | (refine Below.drew ?_) | (refine below_drewN ?_ _) | (refine below_then (by assumption) ?_)))⟩
          · skip
            have k7_0 : decide ((4 : Int) ≤ m) = false := decide_eq_false (by omega)
            have hff : Hid (rightB ⟨[], o, m⟩ = false) := hid (by rw [← Bool.not_eq_true]; simp only [rightB, runB, copyB, Bool.or_eq_true, Bool.and_eq_true, decide_eq_true_eq, List.length_nil]; first | omega | (simp; omega))
            clear hl h1 h2
            go_enter Try.func52, Try.ntmps52
            go_wp2
            go_ret
            exact ⟨by rw [hff.out]; rfl, by (repeat (first | exact Below.refl _ _ | assumption | (refine below_alloc ?_ _) | (refine Below.setCell ?_ (by first | omega | (simp; done) | (simp; omega)) _) | (refine Below.drew ?_) | (refine below_drewN ?_ _) | (refine below_then (by assumption) ?_)))⟩
end Go.Proofs.Ytlkpnpbodbokkaa
namespace Go.Proofs.Ytlkpnpbodbokkaa
open Go.RowKit Go.Bs Go.Maps
set_option linter.unusedVariables false
set_option linter.unusedSimpArgs false

set_option maxRecDepth 100000 in
theorem varint_put (w : World) {g base most : Nat} {J : List UInt8} {a : Option Addr} {c : Nat} (h : PenAt w g base most J a c) (x : Nat) (hx : x < 18446744073709551616) (hfit : J.length + (varB x).length ≤ most) (hlen : J.length + (varB x).length ≤ 100000000000000) :
    Calls Try.prog 54 #[.pointer (some ⟨g, 0, none⟩), .int .u64 x] w fun r w' => r = .returned (.tuple #[]) ∧ PenStep w g base most (J ++ varB x) a w' := by
  have HV := hid (varint_bytes x hx w)
  have HP := hid h
  clear h
  go_enter Try.func54, Try.ntmps54
  go_wp2_with fail
  refine HV.out.mono ?_
  rintro r w1 ⟨v, rfl, hr, hb1⟩
  obtain ⟨a1, c1, hv, hr2, _⟩ := sl_form hr
  simp only [List.cons.injEq, and_true] at hv
  subst hv
  have HQ := hid (pen_put w1 (HP.out.later hb1) (varB x) a1 _ c1 (rBytes.mono hr2 fun q hq => hq.2) hfit hlen)
  clear hr hr2
  go_wp2_with fail
  refine HQ.out.mono ?_
  rintro r w2 ⟨rfl, hst⟩
  have HST := hid (PenStep.later hb1 hst)
  clear hst
  go_wp2
  first | go_end0 | refine bodyPost_ret (results_none rfl _ _ _) rfl ?_
  exact ⟨rfl, HST.out⟩

/-- A token's bytes. -/
def tokB (t : Tok) : List UInt8 := if runB t then varB (2 * t.lit.length - 2) ++ t.lit else varB (2 * t.len.toNat - 7) ++ varB (t.off.toNat - 1)
theorem tokB_run (D : List UInt8) (h1 : 1 ≤ D.length) (h2 : D.length ≤ 1048576) : tokB ⟨D, 0, 0⟩ = varB (2 * D.length - 2) ++ D := by
  unfold tokB
  rw [if_pos]
  simp [runB]; omega
theorem tokB_copy (o m : Nat) (h1 : 1 ≤ o) : tokB ⟨[], (o : Int), (m : Int)⟩ = varB (2 * m - 7) ++ varB (o - 1) := by
  unfold tokB
  rw [if_neg]
  · simp
  · simp [runB]

theorem PenAt.own_lt {w : World} {g base most : Nat} {J : List UInt8} {a : Option Addr} {c : Nat} (h : PenAt w g base most J a c) {q : Nat} (hq : PenF g a q) : base ≤ q ∧ q < w.heap.size := by
  rcases hq with rfl | ⟨p, hp, rfl⟩
  · exact ⟨h.lo, h.blk.lt⟩
  · subst hp
    exact h.own.lt _ rfl

set_option maxRecDepth 100000 in
set_option maxHeartbeats 1600000 in
theorem token_put_run (w : World) {g base most : Nat} {J : List UInt8} {a : Option Addr} {c : Nat} (h : PenAt w g base most J a c) (D : List UInt8) (h1 : 1 ≤ D.length) (h2 : D.length ≤ 1048576) (ad : Option Addr) (cd : Nat)
    (hD : rBytes.r (fun q => q < w.heap.size ∧ ¬ PenF g a q) w [.slice ad D.length cd] D) (hfit : J.length + (tokB ⟨D, 0, 0⟩).length ≤ most) (hlen : J.length + (tokB ⟨D, 0, 0⟩).length ≤ 100000000000000) :
    Calls Try.prog 46 #[.pointer (some ⟨g, 0, none⟩), .agg #[.slice ad D.length cd, .int .i64 0, .int .i64 0]] w fun r w' => r = .returned (.tuple #[]) ∧ PenStep w g base most (J ++ tokB ⟨D, 0, 0⟩) a w' := by
  have HR := hid (fun (W : World) => token_right ⟨D, 0, 0⟩ ad cd W (by dsimp only; omega) ⟨by simp, by simp⟩ ⟨by simp, by simp⟩)
  have hr : rightB ⟨D, 0, 0⟩ = true := by simp [rightB, runB]; omega
  rw [hr] at HR
  have hT := tokB_run D h1 h2
  rw [hT] at hfit hlen ⊢
  rw [List.length_append] at hfit hlen
  have HV := hid (fun (W : World) (hW : Below w.heap.size w W) => varint_put W (h.later hW) (2 * D.length - 2) (by omega) (by omega) (by omega))
  have hno := fun q (hq : PenF g a q) => (h.own_lt hq).2
  have HNO := hid hno
  have HD := hid hD
  have hfit' := hid hfit; have hlen' := hid hlen
  have e0 : (((2 * D.length - 2 : Nat)) : Int) = ((D.length : Int) - 1) * 2 := by omega
  rw [e0] at HV
  clear hr hT h hD hno hfit hlen
  go_enter Try.func46, Try.ntmps46
  go_wp2_with fail
  refine (HR.out _).mono ?_
  rintro r w1 ⟨rfl, hb1⟩
  have B1 : Blk w1 w.heap.size 33 #[.slice ad D.length cd, .int .i64 0, .int .i64 0] := (Blk.new w _ _).later hb1
  have x0 : w1.cell? ⟨w.heap.size, 0, none⟩ = some (.slice ad D.length cd) := B1.cell 0
  have x1 : w1.cell? ⟨w.heap.size, 1, none⟩ = some (.int .i64 0) := B1.cell 1
  have hbw1 : Below w.heap.size w w1 := by (repeat (first | exact Below.refl _ _ | assumption | (refine below_alloc ?_ _) | (refine Below.setCell ?_ (by first | omega | (simp; done) | (simp; omega)) _) | (refine Below.drew ?_) | (refine below_drewN ?_ _) | (refine below_then (by assumption) ?_)))
  go_wp2_with fail
  refine (HV.out _ hbw1).mono ?_
  rintro r w2 ⟨rfl, a2, c2, hp2, ht2, ha2⟩
  have B2 := B1.tch ht2 (fun hf => by have := HNO.out _ hf; omega)
  have y0 : w2.cell? ⟨w.heap.size, 0, none⟩ = some (.slice ad D.length cd) := B2.cell 0
  have hs1 := hbw1.size
  have hD2 : rBytes.r (· < w2.heap.size) w2 [.slice ad D.length cd] D := rBytes.mono (rBytes.keep HD.out fun q hq => (ht2.block q (by omega) hq.2).trans (hbw1.block q hq.1)) fun q hq => Nat.lt_of_lt_of_le hq.1 (by have := ht2.size; omega)
  have HQ := hid (pen_put w2 hp2 D ad _ cd hD2 (by rw [List.length_append]; have := hfit'.out; omega) (by rw [List.length_append]; have := hlen'.out; omega))
  clear x0 x1 hD2
  go_wp2_with fail
  refine HQ.out.mono ?_
  rintro r w3 ⟨rfl, hst⟩
  have hst2 := PenStep.later hbw1 (PenStep.trans (J := J) ht2 ha2 hst)
  rw [List.append_assoc] at hst2
  have HST := hid hst2
  clear hst hst2
  go_wp2
  first | go_end0 | refine bodyPost_ret (results_none rfl _ _ _) rfl ?_
  exact ⟨rfl, HST.out⟩

set_option maxRecDepth 100000 in
set_option maxHeartbeats 1600000 in
theorem token_put_copy (w : World) {g base most : Nat} {J : List UInt8} {a : Option Addr} {c : Nat} (h : PenAt w g base most J a c) (o m : Nat) (h1 : 1 ≤ o) (h2 : o ≤ 65536) (h3 : 4 ≤ m) (h4 : m ≤ 1048576) (ad : Option Addr) (cd : Nat)
    (hfit : J.length + (tokB ⟨[], (o : Int), (m : Int)⟩).length ≤ most) (hlen : J.length + (tokB ⟨[], (o : Int), (m : Int)⟩).length ≤ 100000000000000) :
    Calls Try.prog 46 #[.pointer (some ⟨g, 0, none⟩), .agg #[.slice ad 0 cd, .int .i64 o, .int .i64 m]] w fun r w' => r = .returned (.tuple #[]) ∧ PenStep w g base most (J ++ tokB ⟨[], (o : Int), (m : Int)⟩) a w' := by
  have HR := hid (fun (W : World) => token_right ⟨[], (o : Int), (m : Int)⟩ ad cd W (by simp) (by dsimp only; omega) (by dsimp only; omega))
  have hr : rightB ⟨[], (o : Int), (m : Int)⟩ = true := by simp [rightB, copyB]; omega
  rw [hr] at HR
  have hT := tokB_copy o m h1
  rw [hT] at hfit hlen ⊢
  rw [List.length_append] at hfit hlen
  have HV := hid (fun (W : World) (hW : Below w.heap.size w W) => varint_put W (h.later hW) (2 * m - 7) (by omega) (by omega) (by omega))
  have hno := fun q (hq : PenF g a q) => (h.own_lt hq).2
  have HNO := hid hno
  have hfit' := hid hfit; have hlen' := hid hlen
  have e0 : (((2 * m - 7 : Nat)) : Int) = ((m : Int) - 4) * 2 + 1 := by omega
  rw [e0] at HV
  have d1 : ((o : Int) == 0) = false := by simp; omega
  have d2 : (o == 0) = false := by simp; omega
  simp only [List.length_nil] at HR
  clear hr hT h hno hfit hlen
  go_enter Try.func46, Try.ntmps46
  go_wp2_with fail
  refine (HR.out _).mono ?_
  rintro r w1 ⟨rfl, hb1⟩
  have B1 : Blk w1 w.heap.size 33 #[.slice ad 0 cd, .int .i64 o, .int .i64 m] := (Blk.new w _ _).later hb1
  have x1 : w1.cell? ⟨w.heap.size, 1, none⟩ = some (.int .i64 o) := B1.cell 1
  have x2 : w1.cell? ⟨w.heap.size, 2, none⟩ = some (.int .i64 m) := B1.cell 2
  have hbw1 : Below w.heap.size w w1 := by (repeat (first | exact Below.refl _ _ | assumption | (refine below_alloc ?_ _) | (refine Below.setCell ?_ (by first | omega | (simp; done) | (simp; omega)) _) | (refine Below.drew ?_) | (refine below_drewN ?_ _) | (refine below_then (by assumption) ?_)))
  go_wp2_with fail
  refine (HV.out _ hbw1).mono ?_
  rintro r w2 ⟨rfl, a2, c2, hp2, ht2, ha2⟩
  have B2 := B1.tch ht2 (fun hf => by have := HNO.out _ hf; omega)
  have y1 : w2.cell? ⟨w.heap.size, 1, none⟩ = some (.int .i64 o) := B2.cell 1
  have HQ := hid (varint_put w2 hp2 (o - 1) (by omega) (by rw [List.length_append]; have := hfit'.out; omega) (by rw [List.length_append]; have := hlen'.out; omega))
  rw [show ((o - 1 : Nat) : Int) = (o : Int) - 1 by omega] at HQ
  clear x1 x2
  go_wp2_with fail
  refine HQ.out.mono ?_
  rintro r w3 ⟨rfl, hst⟩
  have hst2 := PenStep.later hbw1 (PenStep.trans (J := J) ht2 ha2 hst)
  rw [List.append_assoc] at hst2
  have HST := hid hst2
  clear hst hst2
  go_wp2
  first | go_end0 | refine bodyPost_ret (results_none rfl _ _ _) rfl ?_
  exact ⟨rfl, HST.out⟩
end Go.Proofs.Ytlkpnpbodbokkaa
namespace Go.Proofs.Ytlkpnpbodbokkaa
open Go.RowKit Go.Bs Go.Maps
set_option linter.unusedVariables false
set_option linter.unusedSimpArgs false

def roomT (xs : List Tok) : Nat := (xs.map fun t => t.lit.length + 20).sum
def tokensB (xs : List Tok) : List UInt8 := (xs.map tokB).flatten
theorem roomT_step (xs : List Tok) (k : Nat) (h : k < xs.length) : roomT (xs.take (k + 1)) = roomT (xs.take k) + (xs[k].lit.length + 20) := by
  unfold roomT
  rw [List.take_succ_eq_append_getElem h, List.map_append, List.sum_append]; simp
theorem tokensB_step (xs : List Tok) (k : Nat) (h : k < xs.length) : tokensB (xs.take (k + 1)) = tokensB (xs.take k) ++ tokB xs[k] := by
  unfold tokensB
  rw [List.take_succ_eq_append_getElem h, List.map_append, List.flatten_append]; simp
theorem roomT_le (xs : List Tok) (hL : ∀ t ∈ xs, t.lit.length ≤ 1048576) (k : Nat) (hk : k ≤ xs.length) : roomT (xs.take k) ≤ k * 1048596 := by
  induction k with
  | zero => simp [roomT]
  | succ k ih =>
    rw [roomT_step xs k (by omega)]
    have := ih (by omega)
    have := hL _ (List.getElem_mem (show k < xs.length by omega))
    omega
theorem roomT_mono (xs : List Tok) (k : Nat) : roomT (xs.take k) ≤ roomT xs := by
  have : roomT xs = roomT (xs.take k) + roomT (xs.drop k) := by
    unfold roomT
    conv => lhs; rw [← List.take_append_drop k xs]
    rw [List.map_append, List.sum_append]
  omega
theorem tokB_len (t : Tok) : (tokB t).length ≤ t.lit.length + 20 := by
  unfold tokB
  split
  · rw [List.length_append]; have := varB_len (2 * t.lit.length - 2); omega
  · rw [List.length_append]; have := varB_len (2 * t.len.toNat - 7); have := varB_len (t.off.toNat - 1); omega
theorem tokensB_len (xs : List Tok) : (tokensB xs).length ≤ roomT xs := by
  unfold tokensB roomT
  induction xs with
  | nil => simp
  | cons t xs ih => simp only [List.map_cons, List.flatten_cons, List.length_append, List.sum_cons]; have := tokB_len t; omega
theorem varB_most : (varB 18446744073709551615).length = 10 := by decide +kernel
theorem right_forms {t : Tok} (h : rightB t = true) : (∃ D, t = ⟨D, 0, 0⟩ ∧ 1 ≤ D.length ∧ D.length ≤ 1048576) ∨ ∃ o m : Nat, t = ⟨[], (o : Int), (m : Int)⟩ ∧ 1 ≤ o ∧ o ≤ 65536 ∧ 4 ≤ m ∧ m ≤ 1048576 := by
  obtain ⟨D, o, m⟩ := t
  simp only [rightB, runB, copyB, Bool.or_eq_true, Bool.and_eq_true, decide_eq_true_eq] at h
  rcases h with ⟨rfl, rfl, h1, h2⟩ | ⟨h0, h1, h2, h3, h4⟩
  · exact .inl ⟨D, rfl, h1, h2⟩
  · refine .inr ⟨o.toNat, m.toNat, ?_, by omega, by omega, by omega, by omega⟩
    rw [List.eq_nil_of_length_eq_zero h0, Int.toNat_of_nonneg (by omega), Int.toNat_of_nonneg (by omega)]

set_option maxRecDepth 100000 in
set_option maxHeartbeats 3200000 in
theorem token_room (xs : List Tok) (a : Option Addr) (n c : Nat) (w : World) (hl : rToks.r (· < w.heap.size) w [.slice a n c] xs) (hx : xs.length ≤ 10000000) (hL : ∀ t ∈ xs, t.lit.length ≤ 1048576) :
    Calls Try.prog 45 #[.slice a n c] w fun r w' => r = .returned (.int .i64 (roomT xs)) ∧ Below w.heap.size w w' := by
  obtain ⟨rfl, hm, _, _⟩ := sl_len hl
  have HL := hid hl; clear hl
  go_enter Try.func45, Try.ntmps45
  go_wp2_with fail
  go_loopw [3, 8] (fun s i wr => ∃ k : Nat, k ≤ xs.length ∧ i = .int .i64 k ∧ (∃ t : Nat, s = .int .i64 t ∧ Hid (t = roomT (xs.take k))) ∧ Below w.heap.size w wr) (fun _ i _ => xs.length - (intOf i).toNat)
  case atStart => exact ⟨0, Nat.zero_le _, rfl, ⟨0, rfl, hid (by simp [roomT])⟩, Below.refl _ _⟩
  case round =>
    obtain ⟨k, hk, rfl, ⟨t, rfl, ht⟩, hb⟩ := hrel
    rcases Nat.lt_or_ge k xs.length with hlt | hge
    · obtain ⟨b, o, hA, hbb, a2, c2, x0, x1, x2, _, _, _⟩ := tok_at HL.out hlt
      subst hA
      have X0 := (hb.cell (p := ⟨b, o + k * 3, none⟩) hbb).trans x0
      have X1 := (hb.cell (p := ⟨b, o + k * 3 + 1, none⟩) hbb).trans x1
      have X2 := (hb.cell (p := ⟨b, o + k * 3 + 2, none⟩) hbb).trans x2
      have hn := hid (roomT_step xs k hlt)
      have hle := roomT_le xs hL k (by omega)
      have hD := hL _ (List.getElem_mem hlt)
      rw [← ht.out] at hle
      clear x0 x1 x2
      generalize xs[k] = y at *
      obtain ⟨D, yo, ym⟩ := y
      dsimp only at *
      have hbs := hb.size
      have i1 : (k : Int) < (xs.length : Int) := by omega
      go_wp2_with fail
      refine wp_world (fun W => Below wr.heap.size wr W ∧ wr.heap.size < W.heap.size ∧ W.cell? ⟨wr.heap.size, 0, none⟩ = some (.slice a2 D.length c2)) ⟨by (repeat (first | exact Below.refl _ _ | assumption | (refine below_alloc ?_ _) | (refine Below.setCell ?_ (by first | omega | (simp; done) | (simp; omega)) _) | (refine Below.drew ?_) | (refine below_drewN ?_ _) | (refine below_then (by assumption) ?_))), by simp, by go_simp⟩ ?_
      intro W ⟨hbW, hzW, u0⟩
      have U0 := fun s : Later W => s.cell u0
      have HS := hid (fun s : Later W => varint_size 18446744073709551615 (by omega) s.at_)
      rw [varB_most] at HS
      have hbw := below_then hbW hb
      clear X0 X1 X2 u0
      refine wp_region_later (by kernel_rfl) (by kernel_rfl) ?_
      repeat (go_big_quiet_step (((go_at_call 43; exact later_of (HS.out _)))))
      refine wpQuiet_nil ?_
      rintro W5 ⟨⟨W5', hb5⟩, rfl⟩
      go_wp2
      go_roundw
      case rel => exact ⟨k + 1, by omega, by go_num, ⟨t + (D.length + 20), by go_num, hid (by rw [hn.out, ht.out])⟩, below_then hb5 hbw⟩
      case measure => simp [intOf]; omega
    · obtain rfl : k = xs.length := by omega
      rw [List.take_length] at ht
      go_wp2
      go_ret
      exact ⟨by rw [← ht.out]; rfl, hb⟩
end Go.Proofs.Ytlkpnpbodbokkaa
namespace Go.Proofs.Ytlkpnpbodbokkaa
open Go.RowKit Go.Bs Go.Maps
set_option linter.unusedVariables false
set_option linter.unusedSimpArgs false

theorem PenAt.below {w w' : World} {g base most : Nat} {J J' : List UInt8} {a : Option Addr} {c B : Nat} (h : PenAt w g base most J a c) (hB : B ≤ base) (hB2 : B ≤ w.heap.size) (k : PenStep w g base most J' a w') : Below B w w' := by
  obtain ⟨a', c', k1, k2, k3⟩ := k
  exact k2.to_below hB2 fun b _ hb => Nat.le_trans hB (h.own_lt hb).1

set_option maxRecDepth 100000 in
set_option maxHeartbeats 3200000 in
theorem token_bytes (xs : List Tok) (a : Option Addr) (n c : Nat) (w : World) (hl : rToks.r (· < w.heap.size) w [.slice a n c] xs) (hx : xs.length ≤ 10000000) (hR : ∀ t ∈ xs, rightB t = true) :
    Calls Try.prog 36 #[.slice a n c] w fun r w' => ∃ v, r = .returned (.tuple #[v, .int .i64 0]) ∧ rBytes.r (fun q => w.heap.size ≤ q ∧ q < w'.heap.size) w' [v] (tokensB xs) ∧ Below w.heap.size w w' := by
  obtain ⟨rfl, hm, _, _⟩ := sl_len hl
  have hL : ∀ t ∈ xs, t.lit.length ≤ 1048576 := fun t ht => by
    rcases right_forms (hR t ht) with ⟨D, rfl, h1, h2⟩ | ⟨o, m, rfl, _⟩
    · exact h2
    · simp
  have HRM := hid (token_room xs a _ c w hl hx hL)
  have hrl := roomT_le xs hL xs.length (Nat.le_refl _)
  rw [List.take_length] at hrl
  have HMO := hid (fun k => roomT_mono xs k)
  have HL := hid hl; have HR := hid hR
  clear hl hR hL
  generalize hM : roomT xs = M at *
  have hMM := hid hM; clear hM
  go_enter Try.func36, Try.ntmps36
  go_wp2_with fail
  refine HRM.out.mono ?_
  rintro r w1 ⟨rfl, hb1⟩
  have HN := hid (pen_new w1 M (by omega))
  go_wp2_with fail
  refine HN.out.mono ?_
  rintro r w2 ⟨rfl, hp2, hb2⟩
  have hs1 := hb1.size
  have hs2 := hb2.size
  have HP2 := hid hp2
  have hbw2 := below_then hb2 hb1
  clear hp2
  generalize hg : w1.heap.size = g at *
  go_wp2_with fail
  go_loopw [12] (fun i wr => ∃ k : Nat, k ≤ xs.length ∧ i = .int .i64 k ∧ Hid (∃ ap cp, PenAt wr g g M (tokensB (xs.take k)) ap cp) ∧ Below g w2 wr) (fun i _ => xs.length - (intOf i).toNat)
  case atStart => exact ⟨0, Nat.zero_le _, rfl, hid ⟨_, _, by simpa [tokensB] using HP2.out⟩, Below.refl _ _⟩
  case round =>
    obtain ⟨k, hk, rfl, hpen, hb⟩ := hrel
    obtain ⟨ap, cp, hP⟩ := hpen.out
    have hbw : Below w.heap.size w wr := ⟨hb.os.trans hbw2.os, hb.tape.trans hbw2.tape, hb.output.trans hbw2.output, by have := hb.size; omega, fun q hq => (hb.block q (by omega)).trans (hbw2.block q hq)⟩
    have hgl := hP.blk.lt
    rcases Nat.lt_or_ge k xs.length with hlt | hge
    · obtain ⟨b, o, hA, hbb, a2, c2, x0, x1, x2, _, _, xl⟩ := tok_at HL.out hlt
      subst hA
      have X0 := (hbw.cell (p := ⟨b, o + k * 3, none⟩) hbb).trans x0
      have X1 := (hbw.cell (p := ⟨b, o + k * 3 + 1, none⟩) hbb).trans x1
      have X2 := (hbw.cell (p := ⟨b, o + k * 3 + 2, none⟩) hbb).trans x2
      have hst := tokensB_step xs k hlt
      have hfit : (tokensB (xs.take k)).length + (tokB xs[k]).length ≤ M := by
        have h1 := tokensB_len (xs.take (k + 1))
        rw [hst, List.length_append] at h1
        have h2 := HMO.out (k + 1)
        omega
      have hr := HR.out _ (List.getElem_mem hlt)
      have HST := hid hst
      have HXL := hid xl
      have HFIT := hid hfit
      clear x0 x1 x2 xl hst hfit
      generalize xs[k] = y at *
      generalize tokensB (xs.take k) = J at *
      have hbs := hb.size
      have i1 : (k : Int) < (xs.length : Int) := by omega
      have HP := hid hP
      clear hP hpen
      rcases right_forms hr with ⟨D, rfl, k1, k2⟩ | ⟨yo, ym, rfl, k1, k2, k3, k4⟩
      · dsimp only at X0 X1 X2 HXL
        clear hr
        go_wp2_with fail
        have hbW : Below wr.heap.size wr (wr.alloc (.cells #[.slice a2 D.length c2, .int .i64 0, .int .i64 0] 33)) := by (repeat (first | exact Below.refl _ _ | assumption | (refine below_alloc ?_ _) | (refine Below.setCell ?_ (by first | omega | (simp; done) | (simp; omega)) _) | (refine Below.drew ?_) | (refine below_drewN ?_ _) | (refine below_then (by assumption) ?_)))
        generalize wr.alloc (.cells #[.slice a2 D.length c2, .int .i64 0, .int .i64 0] 33) = W at *
        have hzW := hbW.size
        have hPW := HP.out.later hbW
        have HQ := hid (token_put_run W hPW D k1 k2 a2 c2 (rBytes.mono (rBytes.keep HXL.out fun q hq => (below_then hbW hbw).block q hq) fun q hq => ⟨Nat.lt_of_lt_of_le hq (by have := hbw.size; omega), fun hf => by have := (hPW.own_lt hf).1; have hq' : q < w.heap.size := hq; omega⟩) HFIT.out (by have := HFIT.out; omega))
        have HPW := hid hPW
        clear X0 X1 X2 hPW
        refine HQ.out.mono ?_
        rintro r w5 ⟨rfl, hps⟩
        have hb5 : Below g w2 w5 := by
          have e1 : Below g W w5 := HPW.out.below (Nat.le_refl _) (by omega) hps
          exact (hb.trans (hbW.mono (by omega))).trans e1
        obtain ⟨a5, c5, hP5, _, _⟩ := hps
        have HP5 := hid (⟨a5, c5, by rw [HST.out]; exact hP5⟩ : ∃ ap cp, PenAt w5 g g M (tokensB (xs.take (k + 1))) ap cp)
        clear hP5
        go_wp2
        go_roundw
        case rel => exact ⟨k + 1, by omega, by go_num, HP5, hb5⟩
        case measure => simp [intOf]; omega
      · dsimp only [List.length_nil] at X0 X1 X2 HXL
        clear hr
        go_wp2_with fail
        have hbW : Below wr.heap.size wr (wr.alloc (.cells #[.slice a2 0 c2, .int .i64 yo, .int .i64 ym] 33)) := by (repeat (first | exact Below.refl _ _ | assumption | (refine below_alloc ?_ _) | (refine Below.setCell ?_ (by first | omega | (simp; done) | (simp; omega)) _) | (refine Below.drew ?_) | (refine below_drewN ?_ _) | (refine below_then (by assumption) ?_)))
        generalize wr.alloc (.cells #[.slice a2 0 c2, .int .i64 yo, .int .i64 ym] 33) = W at *
        have hzW := hbW.size
        have hPW := HP.out.later hbW
        have HQ := hid (token_put_copy W hPW yo ym k1 k2 k3 k4 a2 c2 HFIT.out (by have := HFIT.out; omega))
        have HPW := hid hPW
        clear X0 X1 X2 hPW
        refine HQ.out.mono ?_
        rintro r w5 ⟨rfl, hps⟩
        have hb5 : Below g w2 w5 := by
          have e1 : Below g W w5 := HPW.out.below (Nat.le_refl _) (by omega) hps
          exact (hb.trans (hbW.mono (by omega))).trans e1
        obtain ⟨a5, c5, hP5, _, _⟩ := hps
        have HP5 := hid (⟨a5, c5, by rw [HST.out]; exact hP5⟩ : ∃ ap cp, PenAt w5 g g M (tokensB (xs.take (k + 1))) ap cp)
        clear hP5
        go_wp2
        go_roundw
        case rel => exact ⟨k + 1, by omega, by go_num, HP5, hb5⟩
        case measure => simp [intOf]; omega
    · obtain rfl : k = xs.length := by omega
      rw [List.take_length] at hP
      have HB := hid (pen_bytes wr hP)
      clear hP hpen
      go_wp2_with fail
      refine HB.out.mono ?_
      rintro r w5 ⟨v, rfl, hv, hb5⟩
      have hbe := below_then hb5 hbw
      have HV := hid (rBytes.mono (S' := fun q => w.heap.size ≤ q ∧ q < w5.heap.size) hv fun q hq => ⟨by have := hq.1; have := hbw.size; omega, hq.2⟩)
      clear hv
      go_wp2
      go_ret2
      exact ⟨_, rfl, HV.out, hbe⟩
end Go.Proofs.Ytlkpnpbodbokkaa
namespace Go.Proofs.Ytlkpnpbodbokkaa
open Go.RowKit Go.Bs Go.Maps
set_option linter.unusedVariables false
set_option linter.unusedSimpArgs false

theorem byteCells_app (J D : List UInt8) : byteCells J ++ byteCells D = byteCells (J ++ D) := by simp [byteCells]

set_option maxRecDepth 100000 in
set_option maxHeartbeats 3200000 in
theorem ref11_bytes (xs : List Tok) (a : Option Addr) (n c : Nat) (w : World) (hl : rToks.r (· < w.heap.size) w [.slice a n c] xs) (hx : xs.length ≤ 10000000) (hR : ∀ t ∈ xs, rightB t = true) :
    Calls Try.prog 8 #[.slice a n c] w fun r w' => ∃ v, r = .returned v ∧ rBytes.r (fun q => w.heap.size ≤ q ∧ q < w'.heap.size) w' [v] (tokensB xs) ∧ Below w.heap.size w w' := by
  obtain ⟨rfl, hm, _, _⟩ := sl_len hl
  obtain ⟨i0, hi, hz0, hz1, hz2⟩ := info_parts info8
  have hL : ∀ t ∈ xs, t.lit.length ≤ 1048576 := fun t ht => by
    rcases right_forms (hR t ht) with ⟨D, rfl, h1, h2⟩ | ⟨o, m, rfl, _⟩
    · exact h2
    · simp
  have HRL := hid (fun k (hk : k ≤ xs.length) => Nat.le_trans (tokensB_len (xs.take k)) (roomT_le xs hL k hk))
  have HL := hid hl; have HR := hid hR
  clear hl hR hL
  go_enter Try.func8, Try.ntmps8
  go_wp2_with fail
  go_loopw [3, 4] (fun v i wr => ∃ k : Nat, k ≤ xs.length ∧ i = .int .i64 k ∧ wr.ownsRow w.heap.size 5 1 v (tokensB (xs.take k)).length (byteCells (tokensB (xs.take k))) ∧ Below w.heap.size w wr) (fun _ i _ => xs.length - (intOf i).toNat)
  case atStart => exact ⟨0, Nat.zero_le _, rfl, ⟨rfl, .inl ⟨rfl, rfl⟩⟩, Below.refl _ _⟩
  case round =>
    obtain ⟨k, hk, rfl, hown, hb⟩ := hrel
    have hbs := hb.size
    rcases Nat.lt_or_ge k xs.length with hlt | hge
    · obtain ⟨b, o, hA, hbb, a2, c2, x0, x1, x2, _, _, xl⟩ := tok_at HL.out hlt
      subst hA
      have X0 := (hb.cell (p := ⟨b, o + k * 3, none⟩) hbb).trans x0
      have X1 := (hb.cell (p := ⟨b, o + k * 3 + 1, none⟩) hbb).trans x1
      have X2 := (hb.cell (p := ⟨b, o + k * 3 + 2, none⟩) hbb).trans x2
      have hst := hid (tokensB_step xs k hlt)
      have hle := HRL.out (k + 1) hlt
      rw [hst.out, List.length_append] at hle
      have hr := HR.out _ (List.getElem_mem hlt)
      have HXL := hid xl
      have HX := hid (And.intro x0 (And.intro x1 x2))
      clear x0 x1 x2 xl
      obtain ⟨aJ, cJ, rfl⟩ := own_form hown
      generalize xs[k] = y at *
      generalize tokensB (xs.take k) = J at *
      have i1 : (k : Int) < (xs.length : Int) := by omega
      have HO := hid hown
      clear hown
      rcases right_forms hr with ⟨D, rfl, k1, k2⟩ | ⟨yo, ym, rfl, k1, k2, k3, k4⟩
      · have hrun : runB ⟨D, 0, 0⟩ = true := by simp [runB]; omega
        have HRUN := hid (ref11_run ⟨D, 0, 0⟩ a2 c2 wr (by dsimp only; omega) ⟨by simp, by simp⟩ ⟨by simp, by simp⟩)
        rw [hrun] at HRUN
        have hT := tokB_run D k1 k2
        rw [hT] at hle hst
        rw [List.length_append] at hle
        have HV := hid (fun (W : World) => ref04_bytes (2 * D.length - 2) (by omega) W)
        rw [show (((2 * D.length - 2 : Nat)) : Int) = 2 * (D.length : Int) - 2 by omega] at HV
        dsimp only at X0 X1 X2 HXL HX
        clear hr hrun hT
        go_wp2_with fail
        refine HRUN.out.mono ?_
        rintro r w1 ⟨rfl, hb1⟩
        have hbw1 := below_then hb1 hb
        have Y0 := (hbw1.cell (p := ⟨b, o + k * 3, none⟩) hbb).trans HX.out.1
        have hs1 := hb1.size
        clear X0 X1 X2
        go_wp2_with fail
        refine (HV.out _).mono ?_
        rintro r w2 ⟨v2, rfl, hv2, hb2⟩
        obtain ⟨a3, c3, hv3, hr3, _⟩ := sl_form hv2
        simp only [List.cons.injEq, and_true] at hv3
        subst hv3
        have hs2 := hb2.size
        have hb12 := below_then hb2 hb1
        have hbw2 := below_then hb2 hbw1
        have HO2 := hid (own_below (own_below HO.out hb1) hb2)
        have HS := hid (src_bytes (rBytes.mono (S' := (· < w2.heap.size)) hr3 fun q hq => hq.2))
        generalize varB (2 * D.length - 2) = E at *
        have HONE := hid (byteCells_one E)
        clear hv2 hr3 Y0
        go_wp2_with (first
          | (at_builtin; go_loud (refine wpList_append_src rfl _ _ _ rfl w.heap.size 5 i0 (.int .u8 0) 1 1 Try.underlying22 hi hz0 hz1 hz2 rfl (by decide) (.slice aJ J.length cJ) J.length (byteCells J) rfl HO2.out a3 E.length c3 (byteCells E) rfl HS.out HONE.out (by simp only [maxLen]; omega) (by omega) (by omega) ?_; intro v' w3 hown3 hgrow3 hat3; obtain ⟨a4, c4, rfl⟩ := own_form hown3; have HG3 := hid hgrow3; have HO3 := hid hown3; have hbw3 : Below w.heap.size w w3 := (Below.grown hbw2 hgrow3 (by omega) (fun g e => (HO.out.lt g e).1)); have Z0 := (hbw3.cell (p := ⟨b, o + k * 3, none⟩) hbb).trans HX.out.1; have hs3 := hgrow3.size; have HS3 := hid (src_bytes (lift HXL.out hbw3)); have HONE3 := hid (byteCells_one D); clear hgrow3 hown3 hat3))
          | (at_builtin; go_loud (refine wpList_append_src rfl _ _ _ rfl w.heap.size 5 i0 (.int .u8 0) 1 1 Try.underlying22 hi hz0 hz1 hz2 rfl (by decide) (.slice a4 (J.length + E.length) c4) (J.length + E.length) (byteCells J ++ byteCells E) rfl HO3.out a2 D.length c2 (byteCells D) rfl HS3.out HONE3.out (by simp only [maxLen]; omega) (by omega) (by omega) ?_; intro v' w5 hown5 hgrow5 hat5; have HG5 := hid hgrow5; have HO5 := hid hown5; clear hgrow5 hown5 hat5)))
        have ho := HO5.out
        rw [byteCells_app, byteCells_app, List.append_assoc, ← hst.out] at ho
        have hln : J.length + E.length + D.length = (tokensB (xs.take (k + 1))).length := by rw [hst.out]; simp only [List.length_append]; omega
        rw [hln] at ho
        have HOF := hid ho
        have hbF : Below w.heap.size w w5 := Below.grown hbw3 HG5.out (by omega) (fun g e => (HO3.out.lt g e).1)
        clear ho hln Z0
        go_wp2
        go_roundw
        case rel => exact ⟨k + 1, by omega, by go_num, HOF.out, hbF⟩
        case measure => simp [intOf]; omega
      · have hrun : runB ⟨[], (yo : Int), (ym : Int)⟩ = false := by simp [runB]
        have HRUN := hid (ref11_run ⟨[], (yo : Int), (ym : Int)⟩ a2 c2 wr (by simp) (by dsimp only; omega) (by dsimp only; omega))
        rw [hrun] at HRUN
        have hT := tokB_copy yo ym k1
        rw [hT] at hle hst
        rw [List.length_append] at hle
        have HV := hid (fun (W : World) => ref04_bytes (2 * ym - 7) (by omega) W)
        have HV2 := hid (fun (W : World) => ref04_bytes (yo - 1) (by omega) W)
        rw [show (((2 * ym - 7 : Nat)) : Int) = 2 * (ym : Int) - 7 by omega] at HV
        rw [show (((yo - 1 : Nat)) : Int) = (yo : Int) - 1 by omega] at HV2
        dsimp only [List.length_nil] at X0 X1 X2 HXL HX HRUN
        clear hr hrun hT
        go_wp2_with fail
        refine HRUN.out.mono ?_
        rintro r w1 ⟨rfl, hb1⟩
        have hbw1 := below_then hb1 hb
        have Y2 := (hbw1.cell (p := ⟨b, o + k * 3 + 2, none⟩) hbb).trans HX.out.2.2
        have hs1 := hb1.size
        clear X0 X1 X2
        go_wp2_with fail
        refine (HV.out _).mono ?_
        rintro r w2 ⟨v2, rfl, hv2, hb2⟩
        obtain ⟨a3, c3, hv3, hr3, _⟩ := sl_form hv2
        simp only [List.cons.injEq, and_true] at hv3
        subst hv3
        have hs2 := hb2.size
        have hb12 := below_then hb2 hb1
        have hbw2 := below_then hb2 hbw1
        have HO2 := hid (own_below (own_below HO.out hb1) hb2)
        have HS := hid (src_bytes (rBytes.mono (S' := (· < w2.heap.size)) hr3 fun q hq => hq.2))
        generalize varB (2 * ym - 7) = E at *
        have HONE := hid (byteCells_one E)
        clear hv2 hr3 Y2
        go_wp2_with (at_builtin; go_loud (refine wpList_append_src rfl _ _ _ rfl w.heap.size 5 i0 (.int .u8 0) 1 1 Try.underlying22 hi hz0 hz1 hz2 rfl (by decide) (.slice aJ J.length cJ) J.length (byteCells J) rfl HO2.out a3 E.length c3 (byteCells E) rfl HS.out HONE.out (by simp only [maxLen]; omega) (by omega) (by omega) ?_; intro v' w3 hown3 hgrow3 hat3; obtain ⟨a4, c4, rfl⟩ := own_form hown3; have HG3 := hid hgrow3; have HO3 := hid hown3; have hbw3 : Below w.heap.size w w3 := (Below.grown hbw2 hgrow3 (by omega) (fun g e => (HO.out.lt g e).1)); have Z1 := (hbw3.cell (p := ⟨b, o + k * 3 + 1, none⟩) hbb).trans HX.out.2.1; have hs3 := hgrow3.size; clear hgrow3 hown3 hat3))
        refine (HV2.out _).mono ?_
        rintro r w4 ⟨v4, rfl, hv4, hb4⟩
        obtain ⟨a5, c5, hv5, hr5, _⟩ := sl_form hv4
        simp only [List.cons.injEq, and_true] at hv5
        subst hv5
        have hs4 := hb4.size
        have hbw4 := below_then hb4 hbw3
        have HO4 := hid (own_below HO3.out hb4)
        have HS4 := hid (src_bytes (rBytes.mono (S' := (· < w4.heap.size)) hr5 fun q hq => hq.2))
        generalize varB (yo - 1) = E2 at *
        have HONE4 := hid (byteCells_one E2)
        clear hv4 hr5
        go_wp2_with (at_builtin; go_loud (refine wpList_append_src rfl _ _ _ rfl w.heap.size 5 i0 (.int .u8 0) 1 1 Try.underlying22 hi hz0 hz1 hz2 rfl (by decide) (.slice a4 (J.length + E.length) c4) (J.length + E.length) (byteCells J ++ byteCells E) rfl HO4.out a5 E2.length c5 (byteCells E2) rfl HS4.out HONE4.out (by simp only [maxLen]; omega) (by omega) (by omega) ?_; intro v' w5 hown5 hgrow5 hat5; have HG5 := hid hgrow5; have HO5 := hid hown5; clear hgrow5 hown5 hat5))
        have ho := HO5.out
        rw [byteCells_app, byteCells_app, List.append_assoc, ← hst.out] at ho
        have hln : J.length + E.length + E2.length = (tokensB (xs.take (k + 1))).length := by rw [hst.out]; simp only [List.length_append]; omega
        rw [hln] at ho
        have HOF := hid ho
        have hbF : Below w.heap.size w w5 := Below.grown hbw4 HG5.out (by omega) (fun g e => (HO4.out.lt g e).1)
        clear ho hln Z1
        go_wp2
        go_roundw
        case rel => exact ⟨k + 1, by omega, by go_num, HOF.out, hbF⟩
        case measure => simp [intOf]; omega
    · obtain rfl : k = xs.length := by omega
      rw [List.take_length] at hown
      have hV := own_bytes2 rfl hown
      have HV := hid hV
      clear hV hown
      go_wp2
      go_ret
      exact ⟨_, rfl, HV.out, hb⟩
end Go.Proofs.Ytlkpnpbodbokkaa
namespace Go.Bs
open Go.RowKit
theorem own_bytes3 {w : World} {base : Nat} {e : TypeId} {v : Value} {l : List UInt8} {n : Nat} (hn : n = l.length) (h : w.ownsRow base e 1 v n (byteCells l)) : rBytes.r (fun b => v.ownBlock = some b) w [v] l := by
  subst hn
  rcases h.2 with ⟨rfl, h0⟩ | ⟨g, cap, cur, rfl, hbg, hg, hn, hc, hcur, hx⟩
  · have : l = [] := List.eq_nil_of_length_eq_zero h0
    subst this
    exact rSl_mk rfl (Nat.le_refl _) (Nat.zero_le _) (.inl rfl)
  · refine rSl_mk rfl hn hc (.inr ⟨g, 0, rfl, rfl, fun i x hi => ⟨[.int .u8 (x.toNat : Int)], rfl, fun j v hj => ?_, rfl⟩⟩)
    have hj0 : j = 0 := by
      rcases j with _ | j
      · rfl
      · simp at hj
    subst hj0
    simp at hj
    subst hj
    have hi' : i < l.length := (List.getElem?_eq_some_iff.1 hi).1
    rw [Nat.zero_add, Nat.mul_one, Nat.add_zero, Blk.cell hg i]
    have e1 : cur[i]? = (cur.toList.take (l.length * 1))[i]? := by
      rw [List.getElem?_take, if_pos (by omega)]; simp
    rw [e1, hx]
    simp [byteCells, hi]
end Go.Bs
namespace Go.Proofs.Ytlkpnpbodbokkaa
open Go.RowKit Go.Bs Go.Maps
set_option linter.unusedVariables false
set_option linter.unusedSimpArgs false

/-- A token, or a run whose bytes are still being read. -/
def rTV : Rp (Tok ⊕ Value) :=
  ⟨fun S w cs x => match x with | .inl t => rTok.r S w cs t | .inr v => cs = [v, .int .i64 0, .int .i64 0],
   fun {S w w' cs x} h hk => by cases x with | inl b => exact rTok.keep h hk | inr y => exact h,
   fun {S S' w cs x} h hk => by cases x with | inl b => exact rTok.mono h hk | inr y => exact h⟩

structure TBld (lo : Nat) (w : World) (g c : Nat) (cells : List (List Value)) (ts : List Tok) (D : List UInt8) (vl : Value) : Prop where
  own : OwnElsF (fun x => lo ≤ x ∧ x < w.heap.size ∧ vl.ownBlock ≠ some x) rTV lo 33 3 w (.slice (some ⟨g, 0, none⟩) (ts.length + 1) c) (ts.map .inl ++ [.inr vl]) (cells ++ [[vl, .int .i64 0, .int .i64 0]])
  len : cells.length = ts.length
  last : w.ownsRow lo 5 1 vl D.length (byteCells D)
  ne : vl.ownBlock ≠ some g

theorem tok_inl {w : World} {F : Nat → Prop} {base : Nat} {e : TypeId} {sz : Nat} {v : Value} {xs : List Tok} {cells : List (List Value)} (h : OwnElsF F rTok base e sz w v xs cells) : OwnElsF F rTV base e sz w v (xs.map .inl) cells := by
  obtain ⟨ho, hlen, hsz, hA⟩ := h
  refine ⟨by simpa using ho, by simpa using hlen, hsz, fun i cs x hi hx => ?_⟩
  rw [List.getElem?_map] at hx
  cases hxi : xs[i]? with
  | none => rw [hxi] at hx; cases hx
  | some y => rw [hxi] at hx; cases hx; exact hA i cs y hi hxi

theorem TBld.g_lt {lo : Nat} {w : World} {g c : Nat} {cells : List (List Value)} {ts : List Tok} {D : List UInt8} {vl : Value} (h : TBld lo w g c cells ts D vl) : lo ≤ g ∧ g < w.heap.size := h.own.1.lt g rfl

theorem TBld.close {lo : Nat} {w : World} {g c : Nat} {cells : List (List Value)} {ts : List Tok} {D : List UInt8} {vl : Value} (h : TBld lo w g c cells ts D vl) :
    OwnElsAt lo rTok lo 33 3 w (.slice (some ⟨g, 0, none⟩) (ts.length + 1) c) (ts ++ [⟨D, 0, 0⟩]) (cells ++ [[vl, .int .i64 0, .int .i64 0]]) := by
  obtain ⟨⟨ho, hlen, hsz, hA⟩, h1, h4, h5⟩ := h
  refine ⟨by simpa using ho, by simpa using hlen, hsz, fun i cs x hi hx => ?_⟩
  by_cases hlt : i < ts.length
  · rw [List.getElem?_append_left hlt] at hx
    have := hA i cs (.inl x) hi (by rw [List.getElem?_append_left (by simpa using hlt), List.getElem?_map, hx]; rfl)
    exact rTok.mono this fun b hb => ⟨hb.1.1, hb.1.2.1, hb.2⟩
  · have hii : i = ts.length := by
      have := (List.getElem?_eq_some_iff.1 hx).1
      simp at this
      omega
    subst hii
    rw [List.getElem?_append_right (by omega)] at hi
    rw [List.getElem?_append_right (Nat.le_refl _)] at hx
    simp [h1] at hi
    simp at hx
    subst hi hx
    exact tok_mk (x := ⟨D, 0, 0⟩) (rBytes.mono (own_bytes3 rfl h4) fun b hb => ⟨(h4.lt b hb).1, (h4.lt b hb).2, fun e => h5 (by rw [hb]; exact e.symm)⟩) (by simp) (by simp)

/-- A run of one byte is put behind all tokens. -/
theorem TBld.start {lo : Nat} {w w' : World} {g c : Nat} {v : Value} {ts : List Tok} {y : UInt8} {cells : List (List Value)} (hlo : lo ≤ w.heap.size) (h : OwnElsAt lo rTok lo 33 3 w v ts cells)
    (hown : w'.ownsRow lo 33 3 (.slice (some ⟨g, 0, none⟩) (ts.length + 1) c) (ts.length + 1) (cells.flatten ++ [.slice (some ⟨w.heap.size, 0, none⟩) 1 1, .int .i64 0, .int .i64 0]))
    (hg : ((w.alloc (.cells #[.int .u8 (y.toNat : Int)] 5)).alloc (.cells #[.slice (some ⟨w.heap.size, 0, none⟩) 1 1, .int .i64 0, .int .i64 0] 33)).grownBy w' v.ownBlock)
    (hat : (Value.slice (some ⟨g, 0, none⟩) (ts.length + 1) c).ownBlock = v.ownBlock ∨ (Value.slice (some ⟨g, 0, none⟩) (ts.length + 1) c).ownBlock = some ((w.alloc (.cells #[.int .u8 (y.toNat : Int)] 5)).alloc (.cells #[.slice (some ⟨w.heap.size, 0, none⟩) 1 1, .int .i64 0, .int .i64 0] 33)).heap.size) :
    TBld lo w' g c cells ts [y] (.slice (some ⟨w.heap.size, 0, none⟩) 1 1) := by
  have hv := fun q (hq : v.ownBlock = some q) => (h.1.lt q hq).2
  generalize hW : (w.alloc (.cells #[.int .u8 (y.toNat : Int)] 5)).alloc (.cells #[.slice (some ⟨w.heap.size, 0, none⟩) 1 1, .int .i64 0, .int .i64 0] 33) = W at *
  have keep : ∀ b, b < w.heap.size → W.heap[b]? = w.heap[b]? := fun b hb => by
    rw [← hW, Below.heap_alloc _ _ _ (by simp; omega), Below.heap_alloc _ _ _ hb]
  have hs : W.heap.size = w.heap.size + 2 := by rw [← hW]; simp
  have hnew : W.heap[w.heap.size]? = some (.cells #[.int .u8 (y.toNat : Int)] 5 (0, 0)) := by
    rw [← hW, Below.heap_alloc _ _ _ (by simp)]
    exact World.alloc_heap_new w _
  have hgw : g ≠ w.heap.size := fun e => by
    rcases hat with h1 | h1
    · have := hv g (by rw [← h1]; rfl); omega
    · have := Option.some.inj h1; simp at this; omega
  have hs' := hg.size
  have h1 := tok_inl (((OwnElsF.of h).keep (w' := W) (fun b hb => keep b hb.2) (fun q hq => keep q (hv q hq))).mono (F' := fun x => lo ≤ x ∧ x < W.heap.size ∧ x ≠ w.heap.size) fun b hb => ⟨hb.1, by omega, by omega⟩)
  have h2 := OwnElsF.push (v' := .slice (some ⟨g, 0, none⟩) (ts.length + 1) c) (x := (.inr (.slice (some ⟨w.heap.size, 0, none⟩) 1 1) : Tok ⊕ Value)) h1 (fun b hb => hb.2.1) (news := [.slice (some ⟨w.heap.size, 0, none⟩) 1 1, .int .i64 0, .int .i64 0]) rfl rfl (by simpa using hown) hg hat
  refine ⟨h2.mono fun b hb => ⟨hb.1, by omega, fun e => hb.2.2 (Option.some.inj e).symm⟩, h.2.1, ?_, fun e => hgw (Option.some.inj e).symm⟩
  refine own_new1 hlo ((hg.block w.heap.size (by omega) (fun e => ?_)).trans hnew)
  have := hv w.heap.size e.symm
  omega

/-- The run has grown by one byte. -/
theorem TBld.grow {lo : Nat} {w w' : World} {g c : Nat} {cells : List (List Value)} {ts : List Tok} {D D' : List UInt8} {vl vl' : Value} (h : TBld lo w g c cells ts D vl)
    (hk : ∀ b, b < w.heap.size → vl.ownBlock ≠ some b → w'.heap[b]? = w.heap[b]?) (hs : w.heap.size ≤ w'.heap.size) (hl : w'.ownsRow lo 5 1 vl' D'.length (byteCells D'))
    (hat : vl'.ownBlock = vl.ownBlock ∨ ∃ q, vl'.ownBlock = some q ∧ w.heap.size ≤ q) :
    TBld lo (w'.setCell ⟨g, ts.length * 3, none⟩ vl') g c cells ts D' vl' := by
  have hgl := h.g_lt
  obtain ⟨ho, h1, h4, h5⟩ := h
  have hsame : (w'.setCell ⟨g, ts.length * 3, none⟩ vl').heap.size = w'.heap.size := by simp [World.setCell]
  have hne' : vl'.ownBlock ≠ some g := fun e => by
    rcases hat with h | ⟨q, h, hq⟩
    · exact h5 (h ▸ e)
    · rw [h] at e; have := Option.some.inj e; omega
  have ho' := ho.keep (w' := w') (fun b hb => hk b hb.2.1 hb.2.2) (fun g' hg' => by
    have e : g = g' := by simpa [Value.ownBlock] using hg'
    subst e
    exact hk g hgl.2 h5)
  have h7 := OwnElsF.setLast (x' := (.inr vl' : Tok ⊕ Value)) (j := 0) (u := vl') ho' (by simpa using h1) (by omega) (show _ = _ from rfl)
  rw [Nat.add_zero, List.length_map] at h7
  have h8 : OwnElsF (fun x => lo ≤ x ∧ x < w.heap.size ∧ vl.ownBlock ≠ some x) rTV lo 33 3 (w'.setCell ⟨g, ts.length * 3, none⟩ vl') (.slice (some ⟨g, 0, none⟩) (ts.length + 1) c) (ts.map .inl ++ [.inr vl']) (cells ++ [[vl', .int .i64 0, .int .i64 0]]) := h7
  refine ⟨OwnElsF.mono h8 fun b hb => ⟨hb.1, by rw [hsame]; omega, fun e => ?_⟩, h1, own_keep hl fun q hq => Below.heap_setCell _ _ _ _ (fun e => hne' (by rw [hq]; exact congrArg some e)), hne'⟩
  rcases hat with h | ⟨q, h, hq⟩
  · exact hb.2.2 (h ▸ e)
  · rw [h] at e; have := Option.some.inj e; omega

theorem TBld.later {lo : Nat} {w w' : World} {g c : Nat} {cells : List (List Value)} {ts : List Tok} {D : List UInt8} {vl : Value} (h : TBld lo w g c cells ts D vl) (hb : Below w.heap.size w w') : TBld lo w' g c cells ts D vl := by
  have hgl := h.g_lt
  obtain ⟨ho, h1, h4, h5⟩ := h
  refine ⟨(ho.keep (w' := w') (fun b h => hb.block b h.2.1) (fun g' hg' => hb.block g' (ho.1.lt g' hg').2)).mono fun b hb' => ⟨hb'.1, by have := hb.size; omega, hb'.2.2⟩, h1, own_below h4 hb, h5⟩

theorem TBld.place {lo : Nat} {w : World} {g c : Nat} {cells : List (List Value)} {ts : List Tok} {D : List UInt8} {vl : Value} (h : TBld lo w g c cells ts D vl) :
    w.cell? ⟨g, ts.length * 3, none⟩ = some vl ∧ w.cell? ⟨g, ts.length * 3 + 1, none⟩ = some (.int .i64 0) ∧ w.frozen? ⟨g, ts.length * 3, none⟩ = false := by
  obtain ⟨⟨ho, hlen, hsz, hA⟩, h1, _⟩ := h
  rcases ho.2 with ⟨h0, _⟩ | ⟨g', cap, cur, hv, hbg, hg, hn, hc, hcur, hx⟩
  · cases h0
  · simp at hv
    obtain ⟨rfl, rfl⟩ := hv
    have hf : ∀ j u, [vl, Value.int .i64 0, .int .i64 0][j]? = some u → cur[ts.length * 3 + j]? = some u := fun j u hu => by
      have hf := flatten_at 3 (cells ++ [[vl, .int .i64 0, .int .i64 0]]) hsz ts.length j [vl, .int .i64 0, .int .i64 0] u (by rw [List.getElem?_append_right (by omega), h1]; simp) hu
      rw [← hx, List.getElem?_take] at hf
      split at hf
      · simpa using hf
      · cases hf
    refine ⟨?_, ?_, Blk.free hg _⟩
    · rw [Blk.cell hg]; exact hf 0 vl rfl
    · rw [Blk.cell hg]; exact hf 1 _ rfl
end Go.Proofs.Ytlkpnpbodbokkaa
namespace Go.Proofs.Ytlkpnpbodbokkaa
open Go.RowKit Go.Bs Go.Maps
set_option linter.unusedVariables false
set_option linter.unusedSimpArgs false

/-- What is still to come. -/
def Rest (b : List UInt8) (p i : Nat) (O : List Tok) : Prop := ∃ f, b.length ≤ p + f ∧ toksR b = O ++ toksF b f p i
theorem Rest.copy {b : List UInt8} {p i o m : Nat} {O : List Tok} (h : Rest b p i O) (hp : p < b.length) (hb : bestR b p = (o, m)) (hm : m ≠ 0) : Rest b (p + m) (p + m) (O ++ litT b i p ++ [⟨[], (o : Int), (m : Int)⟩]) := by
  obtain ⟨f, hf, h⟩ := h
  obtain ⟨f, rfl⟩ : ∃ f', f = f' + 1 := ⟨f - 1, by omega⟩
  refine ⟨f, by omega, ?_⟩
  rw [h]
  simp only [toksF, if_pos hp, hb, if_neg hm]
  simp
theorem Rest.none {b : List UInt8} {p i o : Nat} {O : List Tok} (h : Rest b p i O) (hp : p < b.length) (hb : bestR b p = (o, 0)) : Rest b (p + 1) i O := by
  obtain ⟨f, hf, h⟩ := h
  obtain ⟨f, rfl⟩ : ∃ f', f = f' + 1 := ⟨f - 1, by omega⟩
  refine ⟨f, by omega, ?_⟩
  rw [h]
  simp only [toksF, if_pos hp, hb, if_true]
theorem Rest.fin {b : List UInt8} {i : Nat} {O : List Tok} (h : Rest b b.length i O) : toksR b = O ++ litT b i b.length := by
  obtain ⟨f, hf, h⟩ := h
  rw [h]
  cases f with
  | zero => rfl
  | succ f => simp only [toksF, if_neg (Nat.lt_irrefl _)]

def LastCopy (O : List Tok) : Prop := ∀ n, O.length = n + 1 → ∀ t, O[n]? = some t → t.off ≠ 0
theorem LastCopy.snoc (O : List Tok) {o m : Nat} (ho : o ≠ 0) : LastCopy (O ++ [⟨[], (o : Int), (m : Int)⟩]) := fun n hn t ht => by
  have e : n = O.length := by simp at hn; omega
  subst e
  simp at ht
  subst ht
  simpa using ho

/-- The tokens so far. -/
def TOut (lo : Nat) (b : List UInt8) (w : World) (v : Value) (O : List Tok) (i p : Nat) : Prop :=
  (i = p ∧ ∃ cells, OwnElsAt lo rTok lo 33 3 w v O cells) ∨ (i < p ∧ ∃ g c cells vl, v = .slice (some ⟨g, 0, none⟩) (O.length + 1) c ∧ TBld lo w g c cells O ((b.drop i).take (p - i)) vl)
theorem TOut.close {lo : Nat} {b : List UInt8} {w : World} {v : Value} {O : List Tok} {i p : Nat} (h : TOut lo b w v O i p) : ∃ cells, OwnElsAt lo rTok lo 33 3 w v (O ++ litT b i p) cells := by
  rcases h with ⟨rfl, cells, h⟩ | ⟨h0, g, c, cells, vl, rfl, h⟩
  · exact ⟨cells, by simpa [litT] using h⟩
  · exact ⟨_, by have := h.close; simpa [litT, h0] using this⟩
theorem lit_snoc {b : List UInt8} {i p : Nat} (hi : i ≤ p) (hp : p < b.length) : (b.drop i).take (p + 1 - i) = (b.drop i).take (p - i) ++ [b[p]] := by
  rw [show p + 1 - i = (p - i) + 1 by omega, List.take_succ_eq_append_getElem (by simp; omega)]
  congr 2
  simp
  congr 1
  omega

set_option maxRecDepth 100000 in
set_option maxHeartbeats 6400000 in
theorem ref15_tokens (b : List UInt8) (a : Option Addr) (n c : Nat) (w : World) (hl : rBytes.r (· < w.heap.size) w [.slice a n c] b) (hlen : b.length ≤ 1048576) :
    Calls Try.prog 21 #[.slice a n c] w fun r w' => ∃ v, r = .returned v ∧ rToks.r (fun q => w.heap.size ≤ q ∧ q < w'.heap.size) w' [v] (toksR b) ∧ Below w.heap.size w w' := by
  obtain ⟨rfl, hm, _, _⟩ := sl_len hl
  obtain ⟨i0, hi, hz0, hz1, hz2⟩ := info_parts info8
  obtain ⟨j0, hj0, hy0, hy1, hy2⟩ := info_parts infoTok
  have HL := hid hl
  clear hl
  go_enter Try.func21, Try.ntmps21
  go_wp2_with fail
  go_loopw [3, 4] (fun v pv wr => ∃ (p i : Nat) (O : List Tok), pv = .int .i64 p ∧ p ≤ b.length ∧ i ≤ p ∧ O.length ≤ i ∧ Hid (Rest b p i O) ∧ Hid (LastCopy O) ∧ Hid (TOut w.heap.size b wr v O i p) ∧ Below w.heap.size w wr) (fun _ pv _ => b.length - (intOf pv).toNat)
  case atStart => exact ⟨0, 0, [], rfl, Nat.zero_le _, Nat.le_refl _, Nat.le_refl _, hid ⟨b.length, by omega, rfl⟩, hid (fun n hn => by simp at hn), hid (.inl ⟨rfl, OwnEls.nil⟩), Below.refl _ _⟩
  case round =>
    obtain ⟨p, i, O, rfl, hp, hip, hOi, hrest, hlc, hout, hb⟩ := hrel
    have hbs := hb.size
    obtain ⟨cells3, hcl⟩ := hout.out.close
    obtain ⟨av, cv, rfl⟩ := own_form hcl.1
    have hLL : (O ++ litT b i p).length ≤ p := by
      unfold litT
      split <;> simp <;> omega
    rcases Nat.lt_or_ge p b.length with hlt | hge
    · have HB := hid (ref14_best1 b p a _ c wr (lift HL.out hb) hlen)
      have hfc := hid (bestR_facts b p)
      have hroom := bestR_room b p
      generalize hom : bestR b p = om at *
      obtain ⟨o, m⟩ := om
      dsimp only at hroom
      have HOM := hid hom; have HCL := hid hcl
      clear hom hcl
      by_cases hm0 : m = 0
      · subst hm0
        have hrn := hid (hrest.out.none hlt HOM.out)
        have hyb := byte_at HL.out hlt
        obtain ⟨ab, ob, hA, hab, hcb⟩ := hyb
        subst hA
        have hab' : ab < w.heap.size := hab
        rcases hout.out with ⟨hipe, cells, hcl0⟩ | ⟨h0, g, cg, cells, vl, hv, htb⟩
        · subst hipe
          have hlit : litT b i i = [] := by simp [litT]
          have HLS := hid (lit_snoc (Nat.le_refl i) hlt)
          simp only [Nat.sub_self, List.take_zero, List.nil_append] at HLS
          simp only [hlit, List.append_nil] at hcl0 hLL hrn ⊢
          generalize b[i] = y at *
          clear hlit hout HCL
          have HCB := hid hcb
          clear hcb
          rcases Nat.eq_zero_or_pos O.length with hO0 | hO0
          · obtain rfl : O = [] := List.eq_nil_of_length_eq_zero hO0
            clear hO0
            simp only [List.length_nil] at *
            go_wp2_with fail
            refine HB.out.mono ?_
            rintro r w2 ⟨rfl, hb2⟩
            have hs2 := hb2.size
            have hbw2 := below_then hb2 hb
            have HC2 := hid (hcl0.below hb2)
            have Yb := (hbw2.cell (p := ⟨ab, ob + i, none⟩) hab).trans HCB.out
            have i4 : (i : Int) < (b.length : Int) := by omega
            go_wp2_with (at_builtin; go_loud (refine wpList_append_src rfl _ _ _ rfl w.heap.size 33 j0 (.agg #[.slice none 0 0, .int .i64 0, .int .i64 0]) 3 40 Try.underlying25 hj0 hy0 hy1 hy2 rfl (by decide) (.slice av 0 cv) 0 cells.flatten rfl (own_below HC2.out.1 (by (repeat (first | exact Below.refl _ _ | assumption | (refine below_alloc ?_ _) | (refine Below.setCell ?_ (by first | omega | (simp; done) | (simp; omega)) _) | (refine Below.drew ?_) | (refine below_drewN ?_ _) | (refine below_then (by assumption) ?_))))) (some ⟨w2.heap.size + 1, 0, none⟩) 1 1 [.slice (some ⟨w2.heap.size, 0, none⟩) 1 1, .int .i64 0, .int .i64 0] rfl (src_new1 (w2.alloc (.cells #[.int .u8 (y.toNat : Int)] 5)) 33 _ rfl (by simp) rfl) (by intro u hu; simp at hu; rcases hu with rfl | rfl | rfl <;> rfl) (by simp only [maxLen]; omega) (by omega) (by simp; omega) ?_; intro v8 w8 hown8 hgrow8 hat8; obtain ⟨g8, c8, rfl⟩ := own_at hown8; have HG8 := hid hgrow8; have HO8 := hid hown8; have HA8 := hid hat8; clear hgrow8 hown8 hat8))
            have hst := TBld.start (by omega) HC2.out HO8.out HG8.out HA8.out
            have hb8 : Below w.heap.size w w8 := Below.grown (by (repeat (first | exact Below.refl _ _ | assumption | (refine below_alloc ?_ _) | (refine Below.setCell ?_ (by first | omega | (simp; done) | (simp; omega)) _) | (refine Below.drew ?_) | (refine below_drewN ?_ _) | (refine below_then (by assumption) ?_)))) HG8.out (by simp; omega) (fun g e => (HC2.out.1.lt g e).1)
            have hto : TOut w.heap.size b w8 (.slice (some ⟨g8, 0, none⟩) (0 + 1) c8) [] i (i + 1) := .inr ⟨by omega, g8, c8, cells, _, rfl, by rw [HLS.out]; exact hst⟩
            have HTO := hid hto
            clear hto hst
            go_wp2_with fail
            go_roundw
            case rel => exact ⟨i + 1, i, [] , by go_num, by omega, by omega, by omega, hrn, hlc, HTO, hb8⟩
            case measure => simp [intOf]; omega
          · obtain ⟨k, hk⟩ : ∃ k, O.length = k + 1 := ⟨O.length - 1, by omega⟩
            obtain ⟨gt, ot, hA2, hgt, at2, ct2, q0, q1, q2, zz1, zz2, zz3⟩ := tok_at (xs := O) (OwnEls.slice (Nat.le_refl _) ⟨_, hcl0⟩) (i := k) (by omega)
            have hoff := hlc.out k hk O[k] (List.getElem?_eq_getElem (by omega))
            have eo : (O[k].off == 0) = false := by simpa using hoff
            have HQ1 := hid q1
            have t1 : ((O.length : Int) - 1).toNat = k := by omega
            have t2 : (0 : Int) ≤ (O.length : Int) - 1 := by omega
            have t3 : (O.length : Int) - 1 < (O.length : Int) := by omega
            have d5 : decide ((0 : Int) ≤ (O.length : Int) - 1) = true := decide_eq_true t2
            generalize O[k].off = of at *
            have HHK := hid hk
            clear zz1 zz2 zz3 q0 q1 q2 hoff
            clear hk hO0
            have hgt' := hgt
            subst hA2
            go_wp2_with fail
            refine HB.out.mono ?_
            rintro r w2 ⟨rfl, hb2⟩
            have hs2 := hb2.size
            have hbw2 := below_then hb2 hb
            have HC2 := hid (hcl0.below hb2)
            have Q1 := (hb2.cell (p := ⟨gt, ot + k * 3 + 1, none⟩) hgt.2).trans HQ1.out
            have Yb := (hbw2.cell (p := ⟨ab, ob + i, none⟩) hab).trans HCB.out
            have i4 : (i : Int) < (b.length : Int) := by omega
            go_wp2_with (at_builtin; go_loud (refine wpList_append_src rfl _ _ _ rfl w.heap.size 33 j0 (.agg #[.slice none 0 0, .int .i64 0, .int .i64 0]) 3 40 Try.underlying25 hj0 hy0 hy1 hy2 rfl (by decide) (.slice (some ⟨gt, ot, none⟩) O.length cv) O.length cells.flatten rfl (own_below HC2.out.1 (by (repeat (first | exact Below.refl _ _ | assumption | (refine below_alloc ?_ _) | (refine Below.setCell ?_ (by first | omega | (simp; done) | (simp; omega)) _) | (refine Below.drew ?_) | (refine below_drewN ?_ _) | (refine below_then (by assumption) ?_))))) (some ⟨w2.heap.size + 1, 0, none⟩) 1 1 [.slice (some ⟨w2.heap.size, 0, none⟩) 1 1, .int .i64 0, .int .i64 0] rfl (src_new1 (w2.alloc (.cells #[.int .u8 (y.toNat : Int)] 5)) 33 _ rfl (by simp) rfl) (by intro u hu; simp at hu; rcases hu with rfl | rfl | rfl <;> rfl) (by simp only [maxLen]; omega) (by omega) (by simp; omega) ?_; intro v8 w8 hown8 hgrow8 hat8; obtain ⟨g8, c8, rfl⟩ := own_at hown8; have HG8 := hid hgrow8; have HO8 := hid hown8; have HA8 := hid hat8; clear hgrow8 hown8 hat8))
            have hst := TBld.start (by omega) HC2.out HO8.out HG8.out HA8.out
            have hb8 : Below w.heap.size w w8 := Below.grown (by (repeat (first | exact Below.refl _ _ | assumption | (refine below_alloc ?_ _) | (refine Below.setCell ?_ (by first | omega | (simp; done) | (simp; omega)) _) | (refine Below.drew ?_) | (refine below_drewN ?_ _) | (refine below_then (by assumption) ?_)))) HG8.out (by simp; omega) (fun g e => (HC2.out.1.lt g e).1)
            have hto : TOut w.heap.size b w8 (.slice (some ⟨g8, 0, none⟩) (O.length + 1) c8) O i (i + 1) := .inr ⟨by omega, g8, c8, cells, _, rfl, by rw [HLS.out]; exact hst⟩
            have HTO := hid hto
            clear hto hst
            go_wp2_with fail
            go_roundw
            case rel => exact ⟨i + 1, i, O , by go_num, by omega, by omega, by omega, hrn, hlc, HTO, hb8⟩
            case measure => simp [intOf]; omega
        · have hlt1 : (O ++ litT b i p).length = O.length + 1 := by simp [litT, h0]
          rw [hlt1] at *
          have HLS := hid (lit_snoc hip hlt)
          simp only [Value.slice.injEq] at hv
          obtain ⟨rfl, _, rfl⟩ := hv
          generalize hDD : (b.drop i).take (p - i) = D at *
          have hDl : D.length ≤ 1048576 := by rw [← hDD]; simp; omega
          generalize b[p] = y at *
          clear hDD hlt1 hout HCL
          obtain ⟨al, cl, rfl⟩ := own_form htb.last
          have HCB := hid hcb; have HTB := hid htb
          clear hcb htb
          have d5 : decide ((0 : Int) ≤ (O.length : Int)) = true := decide_eq_true (by omega)
          have kk : (O.length : Int) + 1 - 1 = (O.length : Int) := by omega
          have i3 : (O.length : Int) < (O.length : Int) + 1 := by omega
          have i4 : (p : Int) < (b.length : Int) := by omega
          have i5 : (0 : Int) ≤ (O.length : Int) := by omega
          go_wp2_with fail
          refine HB.out.mono ?_
          rintro r w2 ⟨rfl, hb2⟩
          have hs2 := hb2.size
          have hbw2 := below_then hb2 hb
          have HT2 := hid (HTB.out.later hb2)
          obtain ⟨pl0, pl1, pl2⟩ := HT2.out.place
          obtain ⟨hg1, hg2⟩ := HT2.out.g_lt
          have hne := HT2.out.ne
          have hol := fun q (hq : (Value.slice al D.length cl).ownBlock = some q) => HT2.out.last.lt q hq
          have HOL := hid hol; clear hol
          have Yb := (hbw2.cell (p := ⟨ab, ob + p, none⟩) hab).trans HCB.out
          have hab2 : ab < w2.heap.size := by omega
          go_wp2_with fail
          refine wp_region_last_held (fun w' => w'.cell? ⟨g, O.length * 3, none⟩ = some (.slice al D.length cl) ∧ w'.cell? ⟨ab, ob + p, none⟩ = some (.int .u8 (y.toNat : Int))) _ (by kernel_rfl) rfl (by kernel_rfl) ⟨pl0, Yb⟩ (fun hHeld => ?_)
          simp only [noopLast, noopOf]
          refine wpAnyH_take (i := 0) (oi := _) (v := ?_) rfl (by decide +kernel) (by decide +kernel) (by decide +kernel) (fun _ _ _ h => h) (Or.inl ⟨by rfl, ?_⟩) (by assumption) ?_
          rotate_left
          · (intro w hSw; (try dsimp only at hSw); go_simp <;> with_reducible rfl)
          (try simp only [Act.put, List.setIfInBounds_toArray, List.set_cons_zero, List.set_cons_succ])
          refine wpAnyH_take (i := 1) (oi := _) (v := ?_) rfl (by decide +kernel) (by decide +kernel) (by decide +kernel) (fun _ _ _ h => h) (Or.inl ⟨by rfl, ?_⟩) (by assumption) ?_
          rotate_left
          · (intro w hSw; (try dsimp only at hSw); go_simp <;> with_reducible rfl)
          (try simp only [Act.put, List.setIfInBounds_toArray, List.set_cons_zero, List.set_cons_succ])
          refine wpAnyH_take (i := 2) (oi := _) (v := ?_) rfl (by decide +kernel) (by decide +kernel) (by decide +kernel) (fun _ _ _ h => h) (Or.inl ⟨by rfl, ?_⟩) (by assumption) ?_
          rotate_left
          · (intro w hSw; (try dsimp only at hSw); go_simp <;> with_reducible rfl)
          (try simp only [Act.put, List.setIfInBounds_toArray, List.set_cons_zero, List.set_cons_succ])
          refine wpAnyH_take (i := 3) (oi := _) (v := ?_) rfl (by decide +kernel) (by decide +kernel) (by decide +kernel) (fun _ _ _ h => h) (Or.inl ⟨by rfl, ?_⟩) (by assumption) ?_
          rotate_left
          · (intro w hSw; (try dsimp only at hSw); go_simp <;> with_reducible rfl)
          (try simp only [Act.put, List.setIfInBounds_toArray, List.set_cons_zero, List.set_cons_succ])
          refine wpAnyH_take (i := 4) (oi := _) (v := ?_) rfl (by decide +kernel) (by decide +kernel) (by decide +kernel) (fun _ _ _ h => h) (Or.inl ⟨by rfl, ?_⟩) (by assumption) ?_
          rotate_left
          · (intro w hSw; (try dsimp only at hSw); go_simp <;> with_reducible rfl)
          (try simp only [Act.put, List.setIfInBounds_toArray, List.set_cons_zero, List.set_cons_succ])
          refine wpAnyH_take (i := 5) (oi := _) (v := ?_) rfl (by decide +kernel) (by decide +kernel) (by decide +kernel) (fun _ _ _ h => h) (Or.inl ⟨by rfl, ?_⟩) (by assumption) ?_
          rotate_left
          · (intro w hSw; (try dsimp only at hSw); go_simp <;> with_reducible rfl)
          (try simp only [Act.put, List.setIfInBounds_toArray, List.set_cons_zero, List.set_cons_succ])
          refine wpAnyH_take (i := 6) (oi := _) (v := ?_) rfl (by decide +kernel) (by decide +kernel) (by decide +kernel) (fun _ _ _ h => h) (Or.inl ⟨by rfl, ?_⟩) (by assumption) ?_
          rotate_left
          · (intro w hSw; (try dsimp only at hSw); go_simp <;> with_reducible rfl)
          (try simp only [Act.put, List.setIfInBounds_toArray, List.set_cons_zero, List.set_cons_succ])
          refine wpAnyH_take (i := 7) (oi := _) (v := ?_) rfl (by decide +kernel) (by decide +kernel) (by decide +kernel) (fun _ _ _ h => h) (Or.inl ⟨by rfl, ?_⟩) (by assumption) ?_
          rotate_left
          · (intro w hSw; (try dsimp only at hSw); go_simp <;> with_reducible rfl)
          (try simp only [Act.put, List.setIfInBounds_toArray, List.set_cons_zero, List.set_cons_succ])
          refine wpAnyH_take (i := 8) (oi := _) (v := ?_) rfl (by decide +kernel) (by decide +kernel) (by decide +kernel) (fun _ _ _ h => h) (Or.inl ⟨by rfl, ?_⟩) (by assumption) ?_
          rotate_left
          · (intro w hSw; (try dsimp only at hSw); go_simp <;> with_reducible rfl)
          (try simp only [Act.put, List.setIfInBounds_toArray, List.set_cons_zero, List.set_cons_succ])
          refine wpAnyH_take (i := 9) (oi := _) (v := ?_) rfl (by decide +kernel) (by decide +kernel) (by decide +kernel) (fun _ _ _ h => h) (Or.inl ⟨by rfl, ?_⟩) (by assumption) ?_
          rotate_left
          · (intro w hSw; (try dsimp only at hSw); go_simp <;> with_reducible rfl)
          (try simp only [Act.put, List.setIfInBounds_toArray, List.set_cons_zero, List.set_cons_succ])
          refine wpAnyH_take (i := 10) (oi := _) (v := ?_) rfl (by decide +kernel) (by decide +kernel) (by decide +kernel) (fun _ _ _ h => h) (Or.inl ⟨by rfl, ?_⟩) (by assumption) ?_
          rotate_left
          · (intro w hSw; (try dsimp only at hSw); go_simp <;> with_reducible rfl)
          (try simp only [Act.put, List.setIfInBounds_toArray, List.set_cons_zero, List.set_cons_succ])
          refine wpAnyH_ready (rs := [11]) (by decide +kernel) (by simp) ?_
          refine AllReadyH.cons (o := _) rfl (fun K hK => ?_) AllReadyH.nil
          go_simp
          refine hK.out _ _ ?_ (fun hHeld => ?_)
          · ((try dsimp only); refine ⟨?_, ?_⟩ <;> (first | assumption | (go_keep; done)))
          clear hK K
          (try simp only [Act.put, List.setIfInBounds_toArray, List.set_cons_zero, List.set_cons_succ])
          refine wpAnyH_ready (rs := [12]) (by decide +kernel) (by simp) ?_
          refine AllReadyH.cons (o := _) rfl (fun K hK => ?_) AllReadyH.nil
          (refine step_append_src (by rfl) _ _ _ (by rfl) w.heap.size 5 i0 (.int .u8 0) 1 1 Try.underlying22 hi hz0 hz1 hz2 rfl (by decide) (.slice al D.length cl) D.length (byteCells D) (by rfl) (own_below HT2.out.last (by (repeat (first | exact Below.refl _ _ | assumption | (refine below_alloc ?_ _) | (refine Below.setCell ?_ (by first | omega | (simp; done) | (simp; omega)) _) | (refine Below.drew ?_) | (refine below_drewN ?_ _) | (refine below_then (by assumption) ?_))))) (some ⟨w2.heap.size, 0, none⟩) 1 1 [.int .u8 (y.toNat : Int)] (by rfl) (src_new1 w2.drew 5 _ (by rfl) (by rfl) rfl) (by intro u hu; simp at hu; subst hu; rfl) (by simp only [maxLen]; omega) (by omega) (by simp; omega) ?_; intro a8 c8 w8 hown8 hgrow8 hat8; have G := fun b' (hb : b' < w2.heap.size) (hne : (Value.slice al D.length cl).ownBlock ≠ some b') => (hgrow8.block b' (by simp; omega) (fun e => hne e.symm)).trans (Below.heap_alloc w2.drew _ b' (by exact hb)); have m1 := (World.cell?_of_block (a := ⟨g, O.length * 3, none⟩) (G g hg2 hne)).trans pl0; have m2 := (World.frozen?_of_block (a := ⟨g, O.length * 3, none⟩) (G g hg2 hne)).trans pl2; have neb : (Value.slice al D.length cl).ownBlock ≠ some ab := fun e => by { have := (HOL.out _ e).1; omega }; have m3 := (World.cell?_of_block (a := ⟨ab, ob + p, none⟩) (G ab hab2 neb)).trans Yb; have m4 : g < w8.heap.size := Nat.lt_of_lt_of_le hg2 (Nat.le_trans (by simp) hgrow8.size); have HG8 := hid hgrow8; have HO8 := hid hown8; have HA8 := hid hat8; have HGG := hid G; clear hgrow8 hown8 hat8 G neb)
          refine hK.out _ _ ?_ (fun hHeld => ?_)
          · ((try dsimp only); refine ⟨?_, ?_⟩ <;> (first | assumption | (go_keep; done)))
          clear hK K
          (try simp only [Act.put, List.setIfInBounds_toArray, List.set_cons_zero, List.set_cons_succ])
          refine wpAnyH_take (i := 13) (oi := _) (v := ?_) rfl (by decide +kernel) (by decide +kernel) (by decide +kernel) (fun _ _ _ h => h) (Or.inl ⟨by rfl, ?_⟩) (by assumption) ?_
          rotate_left
          · (intro w hSw; (try dsimp only at hSw); go_simp <;> with_reducible rfl)
          (try simp only [Act.put, List.setIfInBounds_toArray, List.set_cons_zero, List.set_cons_succ])
          refine wpAnyH_take (i := 14) (oi := _) (v := ?_) rfl (by decide +kernel) (by decide +kernel) (by decide +kernel) (fun _ _ _ h => h) (Or.inl ⟨by rfl, ?_⟩) (by assumption) ?_
          rotate_left
          · (intro w hSw; (try dsimp only at hSw); go_simp <;> with_reducible rfl)
          (try simp only [Act.put, List.setIfInBounds_toArray, List.set_cons_zero, List.set_cons_succ])
          refine wpAnyH_take (i := 15) (oi := _) (v := ?_) rfl (by decide +kernel) (by decide +kernel) (by decide +kernel) (fun _ _ _ h => h) (Or.inl ⟨by rfl, ?_⟩) (by assumption) ?_
          rotate_left
          · (intro w hSw; (try dsimp only at hSw); go_simp <;> with_reducible rfl)
          (try simp only [Act.put, List.setIfInBounds_toArray, List.set_cons_zero, List.set_cons_succ])
          refine wpAnyH_done (by kernel_rfl) ?_ _
          show wpList _ _ _ _ _ _
          have hs8 : w2.heap.size + 1 ≤ w8.heap.size := by have := HG8.out.size; simpa using this
          have hgr := TBld.grow (w' := w8) (D' := D ++ [y]) (vl' := .slice a8 (D.length + 1) c8) HT2.out (fun q hq hn => HGG.out q hq hn) (by omega) (by rw [List.length_append, ← byteCells_snoc]; exact HO8.out) (by
            rcases HA8.out with h | h
            · exact .inl h
            · exact .inr ⟨_, h, by simp⟩)
          have hb8 : Below w.heap.size w w8 := Below.grown (by (repeat (first | exact Below.refl _ _ | assumption | (refine below_alloc ?_ _) | (refine Below.setCell ?_ (by first | omega | (simp; done) | (simp; omega)) _) | (refine Below.drew ?_) | (refine below_drewN ?_ _) | (refine below_then (by assumption) ?_)))) HG8.out (by simp; omega) (fun g e => (HOL.out g e).1)
          have hb9 : Below w.heap.size w (w8.setCell ⟨g, O.length * 3, none⟩ (.slice a8 (D.length + 1) c8)) := hb8.setCell hg1 _
          have hto : TOut w.heap.size b (w8.setCell ⟨g, O.length * 3, none⟩ (.slice a8 (D.length + 1) c8)) (.slice (some ⟨g, 0, none⟩) (O.length + 1) cv) O i (p + 1) := .inr ⟨by omega, g, cv, cells, _, rfl, by rw [HLS.out]; exact hgr⟩
          have HTO := hid hto
          clear hto hgr
          go_wp2_with fail
          go_roundw
          case rel => exact ⟨p + 1, i, O, by go_num, by omega, by omega, by omega, hrn, hlc, HTO, hb9⟩
          case measure => simp [intOf]; omega
      · have hm4 : 1 ≤ o ∧ 4 ≤ m := by
          rcases hfc.out with h | ⟨o', m', h, h1, h2, h3, _⟩
          · simp only [Prod.mk.injEq] at h; omega
          · simp only [Prod.mk.injEq] at h; omega
        have hrn := hid (hrest.out.copy hlt HOM.out hm0)
        have hls := hid (LastCopy.snoc (O ++ litT b i p) (o := o) (m := m) (by omega))
        have d1 : decide ((0 : Int) < (m : Int)) = true := by simp; omega
        have d1' : decide (0 < m) = true := by simp; omega
        generalize hL3 : O ++ litT b i p = L3 at *
        clear hL3 hm0
        go_wp2_with fail
        refine HB.out.mono ?_
        rintro r w2 ⟨rfl, hb2⟩
        have hs2 := hb2.size
        have hbw2 := below_then hb2 hb
        have HC2 := hid (HCL.out.below hb2)
        go_wp2_with (at_builtin; go_loud (refine wpList_append_src rfl _ _ _ rfl w.heap.size 33 j0 (.agg #[.slice none 0 0, .int .i64 0, .int .i64 0]) 3 40 Try.underlying25 hj0 hy0 hy1 hy2 rfl (by decide) (.slice av L3.length cv) L3.length cells3.flatten rfl (own_below HC2.out.1 (by (repeat (first | exact Below.refl _ _ | assumption | (refine below_alloc ?_ _) | (refine Below.setCell ?_ (by first | omega | (simp; done) | (simp; omega)) _) | (refine Below.drew ?_) | (refine below_drewN ?_ _) | (refine below_then (by assumption) ?_))))) (some ⟨w2.heap.size, 0, none⟩) 1 1 [.slice none 0 0, .int .i64 (o : Int), .int .i64 (m : Int)] rfl (src_new1 w2 33 _ rfl rfl rfl) (by intro u hu; simp at hu; rcases hu with rfl | rfl | rfl <;> rfl) (by simp only [maxLen]; omega) (by omega) (by simp; omega) ?_; intro v8 w8 hown8 hgrow8 hat8; obtain ⟨a8, c8, rfl⟩ := own_form hown8; have HG8 := hid hgrow8; have HO8 := hid hown8; have HA8 := hid hat8; clear hgrow8 hown8 hat8))
        have hx : rTok.r (fun q => w.heap.size ≤ q ∧ q < (w2.alloc (.cells #[.slice none 0 0, .int .i64 (o : Int), .int .i64 (m : Int)] 33)).heap.size ∧ (Value.slice av L3.length cv).ownBlock ≠ some q) (w2.alloc (.cells #[.slice none 0 0, .int .i64 (o : Int), .int .i64 (m : Int)] 33)) [.slice none 0 0, .int .i64 (o : Int), .int .i64 (m : Int)] ⟨[], o, m⟩ :=
          tok_mk (x := ⟨[], o, m⟩) (rSl_mk rfl (Nat.le_refl _) (Nat.zero_le _) (.inl rfl)) (by simp; omega) (by simp; omega)
        have hpu := OwnEls.push (HC2.out.below (by (repeat (first | exact Below.refl _ _ | assumption | (refine below_alloc ?_ _) | (refine Below.setCell ?_ (by first | omega | (simp; done) | (simp; omega)) _) | (refine Below.drew ?_) | (refine below_drewN ?_ _) | (refine below_then (by assumption) ?_))))) rfl hx HO8.out HG8.out HA8.out HG8.out.size
        have hb8 : Below w.heap.size w w8 := Below.grown (by (repeat (first | exact Below.refl _ _ | assumption | (refine below_alloc ?_ _) | (refine Below.setCell ?_ (by first | omega | (simp; done) | (simp; omega)) _) | (refine Below.drew ?_) | (refine below_drewN ?_ _) | (refine below_then (by assumption) ?_)))) HG8.out (by simp; omega) (fun g e => (HC2.out.1.lt g e).1)
        have hto : TOut w.heap.size b w8 (.slice a8 (L3.length + 1) c8) (L3 ++ [⟨[], (o : Int), (m : Int)⟩]) (p + m) (p + m) := .inl ⟨rfl, hpu⟩
        have HTO := hid hto
        clear hto hpu hx
        go_wp2_with fail
        go_roundw
        case rel => exact ⟨p + m, p + m, L3 ++ [⟨[], (o : Int), (m : Int)⟩], by go_num, by omega, Nat.le_refl _, by simp; omega, hrn, hls, HTO, hb8⟩
        case measure => simp [intOf]; omega
    · obtain rfl : p = b.length := by omega
      have hf := hrest.out.fin
      rw [← hf] at hcl
      have hV := OwnEls.slice (Nat.le_refl _) ⟨_, hcl⟩
      rw [← hf] at *
      have HV := hid hV
      clear hV hcl hf
      go_wp2
      go_ret
      exact ⟨_, rfl, HV.out, hb⟩
end Go.Proofs.Ytlkpnpbodbokkaa
namespace Go.Proofs.Ytlkpnpbodbokkaa
open Go.RowKit Go.Bs Go.Maps
set_option linter.unusedVariables false
set_option linter.unusedSimpArgs false

theorem good_right {b : List UInt8} (hb : b.length ≤ 1048576) : ∀ {f : Bool} {p : Nat} {ts : List Tok}, Good b f p ts → ∀ t ∈ ts, rightB t = true
  | _, _, _, .nil, t, ht => by simp at ht
  | _, _, _, .copy (p := p) (o := o) (m := m) hp hbe hm hg, t, ht => by
    rcases List.mem_cons.1 ht with rfl | ht
    · have h1 := bestR_facts b p
      have h2 := (bestR_room b p).1
      rw [hbe] at h1 h2
      simp only at h2
      rcases h1 with h1 | ⟨o', m', h1, g1, g2, g3, _⟩
      · simp only [Prod.mk.injEq] at h1; omega
      · simp only [Prod.mk.injEq] at h1
        unfold reach at g2
        simp [rightB, copyB]
        omega
    · exact good_right hb hg t ht
  | _, _, _, .run (p := p) (q := q) h1 h2 h3 hg, t, ht => by
    rcases List.mem_cons.1 ht with rfl | ht
    · simp [rightB, runB]
      omega
    · exact good_right hb hg t ht
theorem toks_right {b : List UInt8} (hb : b.length ≤ 1048576) : ∀ t ∈ toksR b, rightB t = true := good_right hb (good_toksR b)
theorem toks_len2 {b : List UInt8} (hb : b.length ≤ 1048576) : (toksR b).length ≤ 10000000 := by
  have := toks_len b b.length 0 0
  unfold toksR
  omega

theorem toksB_small {b : List UInt8} (hb : b.length ≤ 1048576) : (tokensB (toksR b)).length ≤ 100000000000000 := by
  have hL : ∀ t ∈ toksR b, t.lit.length ≤ 1048576 := fun t ht => by
    rcases right_forms (toks_right hb t ht) with ⟨D, rfl, h1, h2⟩ | ⟨o, m, rfl, _⟩
    · exact h2
    · simp
  have h1 := tokensB_len (toksR b)
  have h2 := roomT_le (toksR b) hL (toksR b).length (Nat.le_refl _)
  rw [List.take_length] at h2
  have := toks_len2 hb
  omega

end Go.Proofs.Ytlkpnpbodbokkaa
namespace Go.Proofs.Ytlkpnpbodbokkaa
open Go.RowKit Go.Bs Go.Maps
set_option linter.unusedVariables false
set_option linter.unusedSimpArgs false

set_option maxRecDepth 100000 in
theorem ref15_bytes (w : World) (b : List UInt8) (a : Option Addr) (n c : Nat) (hl : rBytes.r (· < w.heap.size) w [.slice a n c] b) (hlen : b.length ≤ 1048576) :
    Calls Try.prog 10 #[.slice a n c] w fun r w' => ∃ v, r = .returned v ∧ rBytes.r (fun q => w.heap.size ≤ q ∧ q < w'.heap.size) w' [v] (tokensB (toksR b)) ∧ Below w.heap.size w w' := by
  obtain ⟨rfl, hm, _, _⟩ := sl_len hl
  have HT := hid (ref15_tokens b a _ c w hl hlen)
  have hri := toks_right hlen
  have hl2 := toks_len2 hlen
  clear hl
  generalize toksR b = T at *
  go_enter Try.func10, Try.ntmps10
  go_wp2_with fail
  refine HT.out.mono ?_
  rintro r w1 ⟨v, rfl, hr, hb1⟩
  obtain ⟨a1, c1, hv, hr2, _⟩ := sl_form hr
  simp only [List.cons.injEq, and_true] at hv
  subst hv
  have HB := hid (ref11_bytes T a1 _ c1 w1 (rToks.mono hr2 fun q hq => hq.2) hl2 hri)
  have hs1 := hb1.size
  clear hr hr2
  go_wp2_with fail
  refine HB.out.mono ?_
  rintro r w2 ⟨v2, rfl, hv2, hb2⟩
  have hbe := below_then hb2 hb1
  have HV := hid (rBytes.mono (S' := fun q => w.heap.size ≤ q ∧ q < w2.heap.size) hv2 fun q hq => ⟨by have := hq.1; omega, hq.2⟩)
  clear hv2
  go_wp2
  go_ret
  exact ⟨_, rfl, HV.out, hbe⟩
end Go.Proofs.Ytlkpnpbodbokkaa
namespace Go.Proofs.Ytlkpnpbodbokkaa
open Go.RowKit Go.Bs Go.Maps
set_option linter.unusedVariables false
set_option linter.unusedSimpArgs false

/-- A place, a code, and the fault's place. -/
structure Rs where
  p : Nat
  k : Int
  f : Int
def Rs.fail (s : Rs) (c at_ : Int) : Rs := if s.k = 0 then ⟨s.p, c, at_⟩ else s
def Rs.skip (L : Nat) (s : Rs) (n : Int) : Bool × Rs :=
  if s.k = 0 then (if n < 0 then (false, ⟨s.p, 17, s.p⟩) else if (L : Int) - s.p < n then (false, ⟨s.p, 1, L⟩) else (true, ⟨s.p + n.toNat, 0, 0⟩)) else (false, s)
def Rs.take (B : List UInt8) (s : Rs) (n : Int) : Rs × List UInt8 := ((s.skip B.length n).2, if (s.skip B.length n).1 then (B.drop s.p).take n.toNat else [])
def Rs.byte (B : List UInt8) (s : Rs) : Rs × UInt8 := ((s.skip B.length 1).2, if (s.skip B.length 1).1 then B.getD s.p 0 else 0)
/-- A sound one. -/
structure Rs.ok (s : Rs) (L : Nat) : Prop where
  le : s.p ≤ L
  zero : s.k = 0 → s.f = 0
section
variable {w w1 w2 : World} {g : Nat} {B : List UInt8} {a : Option Addr} {s s' : Rs}
end

theorem empty_bytes {S : Nat → Prop} {w : World} {a : Option Addr} {m c : Nat} {l : List UInt8} (hl : l = []) (hm : m = 0) (hc : c ≤ 9223372036854775807) : rBytes.r S w [.slice a m c] l := by
  subst hl hm
  exact rSl_mk (xs := []) rfl (Nat.zero_le _) hc (.inl rfl)
/-- A part of a row of bytes. -/
theorem cut_bytes {S : Nat → Prop} {w : World} {a : Option Addr} {B : List UInt8} {c : Nat} (h : rBytes.r S w [.slice a B.length c] B) {lo hi : Nat} (h1 : lo ≤ hi) (h2 : hi ≤ B.length) :
    ∃ A' c', (∀ w' : World, (Instr.slice 22 (.slice a B.length c) (some (.int .i64 (lo : Int))) (some (.int .i64 (hi : Int))) none).run Try.prog w' = .ok (.slice A' (hi - lo) c') w') ∧ rBytes.r S w [.slice A' (hi - lo) c'] ((B.drop lo).take (hi - lo)) := by
  obtain ⟨_, hm, hc, hcm⟩ := sl_len h
  have g1 : (0 : Int) ≤ (lo : Int) := by omega
  have g2 : (lo : Int) ≤ (hi : Int) := by omega
  have g3 : (hi : Int) ≤ (c : Int) := by omega
  rcases Nat.lt_or_ge lo hi with hlt | hge
  · obtain ⟨ga, oa, hA, hga, _⟩ := byte_at h (i := lo) (by omega)
    subst hA
    have hd := sl_drop h (k := lo) (by omega)
    rw [Nat.mul_one] at hd
    have hsub := sl_take hd (k := hi - lo) (by simp; omega)
    refine ⟨some ⟨ga, oa + lo, none⟩, c - lo, fun w' => ?_, hsub⟩
    have g4 : ¬ c = lo := by omega
    clear h hd hsub
    go_simp
  · obtain rfl : lo = hi := by omega
    by_cases g4 : c = lo
    · refine ⟨a, c - lo, fun w' => ?_, empty_bytes (by simp) (by omega) (by omega)⟩
      clear h
      subst g4
      go_simp
    · refine ⟨a.map (·.add (lo * 1)), c - lo, fun w' => ?_, empty_bytes (by simp) (by omega) (by omega)⟩
      clear h
      go_simp
end Go.Proofs.Ytlkpnpbodbokkaa
namespace Go.Proofs.Ytlkpnpbodbokkaa
open Go.RowKit Go.Bs Go.Maps
set_option linter.unusedVariables false
set_option linter.unusedSimpArgs false

theorem f_blk {w : World} {g : Nat} {t : TypeId} {v0 v1 : Value} (h : Blk w g t #[v0, v1]) : w.cell? ⟨g, 0, none⟩ = some v0 ∧ w.cell? ⟨g, 1, none⟩ = some v1 ∧ w.frozen? ⟨g, 0, none⟩ = false ∧ w.frozen? ⟨g, 1, none⟩ = false ∧ g < w.heap.size :=
  ⟨h.cell 0, h.cell 1, h.free 0, h.free 1, h.lt⟩
theorem ref01_at (w : World) (k f : Int) (hk : k ≠ 0) : Calls Try.prog 23 #[.int .i64 k, .int .i64 f] w fun r w' => r = .returned (.agg #[.int .i64 k, .int .i64 f]) ∧ Below w.heap.size w w' := by
  have d1 : (k == (0 : Int)) = false := by simp [hk]
  have d2 : (k != (0 : Int)) = true := by simp [hk]
  go_enter Try.func23, Try.ntmps23
  go_wp2
  refine bodyPost_ret (v := .agg #[.int .i64 k, .int .i64 f]) (by simp [results, Try.results23, go_sem]) rfl ⟨rfl, by (repeat (first | exact Below.refl _ _ | assumption | (refine below_alloc ?_ _) | (refine Below.setCell ?_ (by first | omega | (simp; done) | (simp; omega)) _) | (refine Below.drew ?_) | (refine below_drewN ?_ _) | (refine below_then (by assumption) ?_)))⟩
end Go.Proofs.Ytlkpnpbodbokkaa
namespace Go.Proofs.Ytlkpnpbodbokkaa
open Go.RowKit Go.Bs Go.Maps
set_option linter.unusedVariables false
set_option linter.unusedSimpArgs false

/-- The number that bytes begin with, how many were looked at, the code. -/
def vget : Nat → Nat → List UInt8 → Nat × Nat × Int
  | i, x, [] => (0, i, 1)
  | i, x, c :: l =>
    if i = 9 ∧ 1 < c.toNat then (0, i + 1, 5)
    else if 0 < i ∧ c.toNat = 0 then (0, i + 1, 4)
    else if c.toNat < 128 then (x + c.toNat * 128 ^ i, i + 1, 0)
    else vget (i + 1) (x + c.toNat % 128 * 128 ^ i) l
def Rs.num (B : List UInt8) (s : Rs) : Rs × Nat :=
  if s.k = 0 then
    let r := vget 0 0 (B.drop s.p)
    (⟨s.p + r.2.1, r.2.2, if r.2.2 = 0 then 0 else if r.2.2 = 1 then B.length else s.p + r.2.1 - 1⟩, r.1)
  else (s, 0)
end Go.Proofs.Ytlkpnpbodbokkaa
namespace Go.Proofs.Ytlkpnpbodbokkaa
open Go.RowKit Go.Bs Go.Maps
set_option linter.unusedVariables false
set_option linter.unusedSimpArgs false

def Rs.most (B : List UInt8) (s : Rs) (m : Nat) : Rs × Nat := if m < (s.num B).2 then ((s.num B).1.fail 2 s.p, 0) else s.num B
def Rs.int (B : List UInt8) (s : Rs) (m : Int) : Rs × Nat := if 0 ≤ m then s.most B m.toNat else ((s.num B).1.fail 2 s.p, 0)
def Rs.offset (B : List UInt8) (s : Rs) : Rs × Nat :=
  let t := if 65536 ≤ (s.num B).2 then (s.num B).1.fail 10 s.p else (s.num B).1
  (t, if t.k = 0 then (s.num B).2 + 1 else 0)
end Go.Proofs.Ytlkpnpbodbokkaa
