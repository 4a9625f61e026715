/- What is pressed, run and saved. -/
import Derived.Test.YtgcdbnbdbjaijaaTkB
namespace Go.Proofs.Ytgcdbnbdbjaijaa
open Go.RowKit Go.Bs Go.Maps
set_option linter.unusedVariables false
set_option linter.unusedSimpArgs false

theorem good_right {b : List UInt8} (hb : b.length ≤ 1048576) : ∀ {f : Bool} {p : Nat} {ts : List Tok}, Good b f p ts → ∀ t ∈ ts, rightB t = true
  | _, _, _, .nil, t, ht => by simp at ht
  | _, _, _, .copy (p := p) (o := o) (m := m) hp hbe hm hg, t, ht => by
    rcases List.mem_cons.1 ht with rfl | ht
    · have h1 := bestR_facts b p
      have h2 := (bestR_room b p).1
      rw [hbe] at h1 h2
      simp only at h2
      rcases h1 with h1 | ⟨o', m', h1, g1, g2, g3, _⟩
      · simp only [Prod.mk.injEq] at h1; omega
      · simp only [Prod.mk.injEq] at h1
        unfold reach at g2
        simp [rightB, copyB]
        omega
    · exact good_right hb hg t ht
  | _, _, _, .run (p := p) (q := q) h1 h2 h3 hg, t, ht => by
    rcases List.mem_cons.1 ht with rfl | ht
    · simp [rightB, runB]
      omega
    · exact good_right hb hg t ht
theorem toks_right {b : List UInt8} (hb : b.length ≤ 1048576) : ∀ t ∈ toksR b, rightB t = true := good_right hb (good_toksR b)
theorem toks_len2 {b : List UInt8} (hb : b.length ≤ 1048576) : (toksR b).length ≤ 10000000 := by
  have := toks_len b b.length 0 0
  unfold toksR
  omega

theorem toksB_small {b : List UInt8} (hb : b.length ≤ 1048576) : (tokensB (toksR b)).length ≤ 100000000000000 := by
  have hL : ∀ t ∈ toksR b, t.lit.length ≤ 1048576 := fun t ht => by
    rcases right_forms (toks_right hb t ht) with ⟨D, rfl, h1, h2⟩ | ⟨o, m, rfl, _⟩
    · exact h2
    · simp
  have h1 := tokensB_len (toksR b)
  have h2 := roomT_le (toksR b) hL (toksR b).length (Nat.le_refl _)
  rw [List.take_length] at h2
  have := toks_len2 hb
  omega

set_option maxRecDepth 100000 in
theorem press_bytes (w : World) (b : List UInt8) (a : Option Addr) (n c : Nat) (hl : rBytes.r (· < w.heap.size) w [.slice a n c] b) (hlen : b.length ≤ 1048576) :
    Calls Try.prog 17 #[.slice a n c] w fun r w' => ∃ v, r = .returned (.tuple #[v, .int .i64 0]) ∧ rBytes.r (fun q => w.heap.size ≤ q ∧ q < w'.heap.size) w' [v] (tokensB (toksR b)) ∧ Below w.heap.size w w' := by
  obtain ⟨rfl, hm, _, _⟩ := sl_len hl
  have HT := hid (press_tokens w b a _ c hl hlen)
  have hri := toks_right hlen
  have hl2 := toks_len2 hlen
  clear hl
  generalize toksR b = T at *
  go_enter Try.func17, Try.ntmps17
  go_wp2_with fail
  refine HT.out.mono ?_
  rintro r w1 ⟨v, rfl, hr, hb1⟩
  obtain ⟨a1, c1, hv, hr2, _⟩ := sl_form hr
  simp only [List.cons.injEq, and_true] at hv
  subst hv
  have HB := hid (token_bytes T a1 _ c1 w1 (rToks.mono hr2 fun q hq => hq.2) hl2 hri)
  have hs1 := hb1.size
  clear hr hr2
  go_wp2_with fail
  refine HB.out.mono ?_
  rintro r w2 ⟨v2, rfl, hv2, hb2⟩
  have hbe := below_then hb2 hb1
  have HV := hid (rBytes.mono (S' := fun q => w.heap.size ≤ q ∧ q < w2.heap.size) hv2 fun q hq => ⟨by have := hq.1; omega, hq.2⟩)
  clear hv2
  go_wp2
  go_ret2
  exact ⟨_, rfl, HV.out, hbe⟩

set_option maxRecDepth 100000 in
theorem press_saves (w : World) (b : List UInt8) (a : Option Addr) (n c : Nat) (hl : rBytes.r (· < w.heap.size) w [.slice a n c] b) (hlen : b.length ≤ 1048576) :
    Calls Try.prog 23 #[.slice a n c] w fun r w' => r = .returned (.int .i64 ((b.length : Int) - ((tokensB (toksR b)).length : Int))) ∧ Below w.heap.size w w' := by
  obtain ⟨rfl, hm, _, _⟩ := sl_len hl
  have HB := hid (press_bytes w b a _ c hl hlen)
  have h2 := toksB_small hlen
  clear hl
  generalize hE : tokensB (toksR b) = E at *
  clear hE
  go_enter Try.func23, Try.ntmps23
  go_wp2_with fail
  refine HB.out.mono ?_
  rintro r w1 ⟨v, rfl, hr, hb1⟩
  obtain ⟨a1, c1, hv, hr2, _⟩ := sl_form hr
  simp only [List.cons.injEq, and_true] at hv
  subst hv
  clear hr hr2
  go_wp2
  go_ret
  exact ⟨by first | rfl | simp, hb1⟩

def runsR (b : List UInt8) : List Tok := if b.length = 0 then [] else [⟨b, 0, 0⟩]
theorem tok_one {w : World} {g lo : Nat} {a : Option Addr} {b : List UInt8} {c : Nat} (h : Blk w g 30 #[.slice a b.length c, .int .i64 0, .int .i64 0]) (hlo : lo ≤ g) (hb : rBytes.r (fun q => lo ≤ q ∧ q < w.heap.size) w [.slice a b.length c] b) : rToks.r (fun q => lo ≤ q ∧ q < w.heap.size) w [.slice (some ⟨g, 0, none⟩) 1 1] [⟨b, 0, 0⟩] := by
  refine rSl_mk rfl (Nat.le_refl _) (by decide) (.inr ⟨g, 0, rfl, ⟨hlo, h.lt⟩, fun i x hi => ?_⟩)
  have hi0 : i = 0 := by
    rcases i with _ | i
    · rfl
    · simp at hi
  subst hi0
  simp at hi
  subst hi
  refine ⟨[.slice a b.length c, .int .i64 0, .int .i64 0], rfl, fun j v hj => ?_, tok_mk (x := ⟨b, 0, 0⟩) hb (by simp) (by simp)⟩
  simp only [Nat.zero_mul, Nat.zero_add]
  rw [h.cell j, ← hj]
  rcases j with _ | _ | _ | j <;> rfl

set_option maxRecDepth 100000 in
set_option maxHeartbeats 1600000 in
theorem press_runs (w : World) (b : List UInt8) (a : Option Addr) (n c : Nat) (hl : rBytes.r (· < w.heap.size) w [.slice a n c] b) (hlen : b.length ≤ 1048576) :
    Calls Try.prog 18 #[.slice a n c] w fun r w' => ∃ v, r = .returned (.tuple #[v, .int .i64 0]) ∧ rToks.r (fun q => w.heap.size ≤ q ∧ q < w'.heap.size) w' [v] (runsR b) ∧ Below w.heap.size w w' := by
  obtain ⟨rfl, hm, _, _⟩ := sl_len hl
  obtain ⟨i0, hi, hz0, hz1, hz2⟩ := info_parts info8
  have HS := hid (fun (W : World) (hW : Below w.heap.size w W) => src_bytes (lift hl hW))
  have HONE := hid (byteCells_one b)
  have d1 : decide ((1048576 : Int) < (b.length : Int)) = false := decide_eq_false (by omega)
  clear hl
  by_cases h0 : b.length = 0
  · have hrr : Hid (runsR b = []) := hid (by unfold runsR; rw [if_pos h0])
    have e0 : ((b.length : Int) == 0) = true := beq_iff_eq.2 (by omega)
    have h0' := hid h0
    clear h0
    go_enter Try.func18, Try.ntmps18
    go_wp2
    go_ret2
    exact ⟨_, rfl, by rw [hrr.out]; exact rSl_mk rfl (Nat.le_refl _) (Nat.zero_le _) (.inl rfl), by (repeat (first | exact Below.refl _ _ | assumption | (refine below_alloc ?_ _) | (refine Below.setCell ?_ (by first | omega | (simp; done) | (simp; omega)) _) | (refine Below.drew ?_) | (refine below_drewN ?_ _) | (refine below_then (by assumption) ?_)))⟩
  · have hrr : Hid (runsR b = [⟨b, 0, 0⟩]) := hid (by unfold runsR; rw [if_neg h0])
    have e0 : ((b.length : Int) == 0) = false := beq_eq_false_iff_ne.2 (by omega)
    have e0' : (b.length == 0) = false := beq_eq_false_iff_ne.2 (by omega)
    go_enter Try.func18, Try.ntmps18
    go_wp2_with (at_builtin; go_loud (refine wpList_append_src rfl _ _ _ rfl w.heap.size 5 i0 (.int .u8 0) 1 1 Try.underlying22 hi hz0 hz1 hz2 rfl (by decide) _ 0 [] rfl (own_empty _ (Nat.le_refl _) rfl) a b.length c (byteCells b) rfl (HS.out _ (by (repeat (first | exact Below.refl _ _ | assumption | (refine below_alloc ?_ _) | (refine Below.setCell ?_ (by first | omega | (simp; done) | (simp; omega)) _) | (refine Below.drew ?_) | (refine below_drewN ?_ _) | (refine below_then (by assumption) ?_))))) HONE.out (by simp only [maxLen]; omega) (by omega) (by simp) ?_; intro v' w1 hown1 hgrow1 hat1; rw [Nat.zero_add, List.nil_append] at hown1; obtain ⟨a', c', rfl⟩ := own_form hown1; have hz1' : w.heap.size + 1 ≤ w1.heap.size := (by have := hgrow1.size; simpa using this); have HG := hid hgrow1; have HO := hid hown1; clear hgrow1 hown1 hat1))
    have hb1 : Below w.heap.size w w1 := Below.grown (by (repeat (first | exact Below.refl _ _ | assumption | (refine below_alloc ?_ _) | (refine Below.setCell ?_ (by first | omega | (simp; done) | (simp; omega)) _) | (refine Below.drew ?_) | (refine below_drewN ?_ _) | (refine below_then (by assumption) ?_)))) HG.out (by simp) (fun g e => by
      have e' : some w.heap.size = some g := e
      injection e' with e'
      omega)
    have hA := own_bytes2 rfl HO.out
    have hT : rToks.r (fun q => w.heap.size ≤ q ∧ q < (w1.alloc (.cells #[.slice a' b.length c', .int .i64 0, .int .i64 0] 30)).heap.size) (w1.alloc (.cells #[.slice a' b.length c', .int .i64 0, .int .i64 0] 30)) [.slice (some ⟨w1.heap.size, 0, none⟩) 1 1] [⟨b, 0, 0⟩] :=
      tok_one (Blk.new w1 _ _) (by omega) (rBytes.mono (rBytes.keep hA fun q hq => Below.heap_alloc w1 _ q hq.2) fun q hq => ⟨hq.1, by simp; omega⟩)
    have HT := hid hT
    clear hT hA
    go_ret2
    exact ⟨_, rfl, by rw [hrr.out]; exact HT.out, by (repeat (first | exact Below.refl _ _ | assumption | (refine below_alloc ?_ _) | (refine Below.setCell ?_ (by first | omega | (simp; done) | (simp; omega)) _) | (refine Below.drew ?_) | (refine below_drewN ?_ _) | (refine below_then (by assumption) ?_)))⟩
end Go.Proofs.Ytgcdbnbdbjaijaa
