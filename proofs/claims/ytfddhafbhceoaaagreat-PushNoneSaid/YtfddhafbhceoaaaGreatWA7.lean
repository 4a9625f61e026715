/- Needed by pushNone_walk, part 7: texts put together by shake.py; no condition. -/
import Derived.Test.YtfddhafbhceoaaaGreatWA6
import Derived.Deep.AppendLies
import Derived.Deep.RegionLaw
import Derived.Test.YtfddhafbhceoaaaGreatWA5
import Derived.Deep.Cut
import Derived.Deep.CutRange
import Derived.BigRegion
import Derived.Test.YtfddhafbhceoaaaGreatWA2
import Derived.Laws.Bits64
import Derived.Test.YtfddhafbhceoaaaGreatWA3
import Derived.Scope
import Derived.Test.YtfddhafbhceoaaaGreatWA1
import Derived.Test.YtfddhafbhceoaaaGreatProg
import Derived.WalkKit
import Derived.Deep.WholeRow
import Derived.BigQuiet
namespace Go.Proofs.YtfddhafbhceoaaaGreat
open Go.RowKit Go.Bs Go.Maps
set_option linter.unusedVariables false
set_option linter.unusedSimpArgs false

theorem Rs.tl_of_bad {B : List UInt8} {s : Rs} (h : s.k ≠ 0) : s.tl B = (s, 0) := by
  unfold Rs.tl
  rw [Rs.num_of_bad h, if_neg h]
theorem Rs.ep_of_badm {B : List UInt8} {s : Rs} (h : s.k ≠ 0) : s.ep B = (s, 0) := by
  unfold Rs.ep
  rw [Rs.num_of_bad h, if_neg h]
theorem Rs.most_of_badm {B : List UInt8} {s : Rs} {m : Nat} (h : s.k ≠ 0) : s.most B m = (s, 0) := by
  unfold Rs.most
  rw [Rs.num_of_bad h]
  dsimp only
  rw [Rs.fail_of_bad h]
  split <;> (try split) <;> rfl
theorem Rs.int_of_badm {B : List UInt8} {s : Rs} {m : Int} (h : s.k ≠ 0) : s.int B m = (s, 0) := by
  unfold Rs.int
  split
  · rw [Rs.most_of_badm h]
  · rw [Rs.num_of_bad h]
    dsimp only
    first | rfl | (rw [Rs.fail_of_bad h])
theorem Rs.seal_of_bad {B : List UInt8} {s : Rs} (h : s.k ≠ 0) : s.seal_ B = (s, noSealS) := by
  unfold Rs.seal_
  rw [Rs.ep_of_badm h]
  dsimp only
  rw [Rs.most_of_badm h]
  dsimp only
  rw [Rs.tl_of_bad h]
  dsimp only
  rw [if_neg h]
theorem Rs.many_of_bad {B : List UInt8} {s : Rs} {m : Int} (h : s.k ≠ 0) : s.many B m = (s, 0) := by
  unfold Rs.many
  rw [Rs.int_of_badm h]
  dsimp only
  rw [if_pos rfl, Rs.fail_of_bad h]
theorem Rs.set_of_bad {B : List UInt8} {s : Rs} {O : List (List Int)} (h : s.k ≠ 0) : s.set_ B O = (s, []) := by
  unfold Rs.set_
  rw [Rs.many_of_bad h]
  exact if_neg h
theorem Rs.span_of_bad {B : List UInt8} {s : Rs} {lo : Int} (h : s.k ≠ 0) : s.span B lo = (s, 0) := by
  unfold Rs.span
  dsimp only
  rw [show (if 4611686018427387904 < lo then s.fail 3 s.p else s) = s by rw [Rs.fail_of_bad h]; split <;> rfl, Rs.num_of_bad h]
  dsimp only
  rw [Rs.fail_of_bad h]
  split <;> rfl
theorem Rs.stripe_of_bad {B : List UInt8} {s : Rs} {lo : Int} (h : s.k ≠ 0) : s.stripe_ B lo = (s, noStripe) := by
  unfold Rs.stripe_
  rw [Rs.span_of_bad h]
  dsimp only
  rw [Rs.many_of_bad h]
  exact if_neg h
theorem Rs.proj_of_bad {B : List UInt8} {s : Rs} (h : s.k ≠ 0) : s.proj_ B = (s, noProj) := by
  unfold Rs.proj_
  rw [Rs.ep_of_badm h]
  dsimp only
  rw [Rs.many_of_bad h]
  have e : (if (Rs.stripes_ B 0 s 0 []).2.1 = 4611686018427387904 then (Rs.stripes_ B 0 s 0 []).1 else (Rs.stripes_ B 0 s 0 []).1.fail 3 (Rs.stripes_ B 0 s 0 []).1.p) = s := (if_neg (show ¬ ((0 : Int) = 4611686018427387904) by omega)).trans (Rs.fail_of_bad h)
  rw [e]
  exact if_neg h
theorem Rs.set_k {B : List UInt8} {s : Rs} {O : List (List Int)} (h : (s.set_ B O).1.k = 0) : s.k = 0 :=
  Decidable.byContradiction fun hh => by rw [Rs.set_of_bad hh] at h; exact hh h
theorem Rs.many_k {B : List UInt8} {s : Rs} {m : Int} (h : (s.many B m).1.k = 0) : s.k = 0 :=
  Decidable.byContradiction fun hh => by rw [Rs.many_of_bad hh] at h; exact hh h
theorem Rs.stripe_k {B : List UInt8} {s : Rs} {lo : Int} (h : (s.stripe_ B lo).1.k = 0) : s.k = 0 :=
  Decidable.byContradiction fun hh => by rw [Rs.stripe_of_bad hh] at h; exact hh h
theorem Rs.set_len {B : List UInt8} {s : Rs} {O : List (List Int)} (h : (s.set_ B O).1.k = 0) : (s.set_ B O).2.length ≤ 8 := by
  unfold Rs.set_ at h ⊢
  dsimp only at h ⊢
  have hl := Rs.rise_len (B := B) (s.many B 8).2 (s.many B 8).1 []
  have hm : (s.many B 8).2 ≤ 8 := Rs.many_le (m := 8)
  simp only [List.length_nil, Nat.add_zero] at hl
  generalize Rs.rise B (s.many B 8).2 (s.many B 8).1 [] = f at *
  split at h
  · rename_i h1
    have := hl h1
    rw [if_pos h1]
    split
    · dsimp only; omega
    · split
      · omega
      · dsimp only; omega
  · rename_i h1
    exact absurd h h1

theorem rises_app : ∀ (l : List Int) (x : Int), risesB l = true → (l ≠ [] → l.getLastD 0 < x) → risesB (l ++ [x]) = true
  | [], x, _, _ => rfl
  | [y], x, _, h => by
    have := h (by simp)
    simp [risesB] at this ⊢
    exact this
  | y :: z :: l, x, h, hx => by
    simp only [risesB, Bool.and_eq_true, decide_eq_true_eq] at h
    have hx2 := hx (by simp)
    have := rises_app (z :: l) x h.2 (fun _ => by simpa using hx2)
    simp only [List.cons_append, risesB, Bool.and_eq_true, decide_eq_true_eq] at this ⊢
    exact ⟨h.1, this⟩
theorem Rs.rise_rises {B : List UInt8} : ∀ (n : Nat) (s : Rs) (out : List Int), risesB out = true → (Rs.rise B n s out).1.k = 0 → risesB (Rs.rise B n s out).2 = true
  | 0, s, out, h, _ => h
  | n + 1, s, out, h, hk => by
    unfold Rs.rise at hk ⊢
    split at hk
    · rename_i h1
      rw [if_pos h1]
      split at hk
      · exact absurd hk (Rs.fail_k (by omega))
      · rename_i h2
        rw [if_neg h2]
        refine Rs.rise_rises n _ _ (rises_app _ _ h fun hne => ?_) hk
        rw [if_neg hne]
        omega
    · rename_i h1
      exact absurd hk h1
theorem Rs.set_in {B : List UInt8} {s : Rs} {O : List (List Int)} (h : (s.set_ B O).1.k = 0) : nodesR (s.set_ B O).2 = true ∧ apartR (s.set_ B O).2 O = true := by
  have hle := Rs.set_len h
  unfold Rs.set_ at h hle ⊢
  dsimp only at h hle ⊢
  have hl := Rs.rise_len (B := B) (s.many B 8).2 (s.many B 8).1 []
  have hr := Rs.rise_rises (B := B) (s.many B 8).2 (s.many B 8).1 [] rfl
  have hb := fun hk => Rs.rise_of_bad (B := B) (s := (s.many B 8).1) (out := []) hk (s.many B 8).2
  have hp := Rs.many_pos (B := B) (s := s) (m := 8)
  simp only [List.length_nil, Nat.add_zero] at hl
  generalize Rs.rise B (s.many B 8).2 (s.many B 8).1 [] = f at *
  split at h
  · rename_i h1
    rw [if_pos h1] at hle ⊢
    have hk1 : (s.many B 8).1.k = 0 := Decidable.byContradiction fun hh => hb hh h1
    have := hl h1
    have := hp hk1
    split at h
    · exact absurd h (Rs.fail_k (by omega))
    · rename_i h2
      rw [if_neg h2] at hle ⊢
      split at h
      · rename_i h3
        rw [if_pos h3] at hle ⊢
        refine ⟨?_, h3⟩
        unfold nodesR
        rw [hr h1, decide_eq_true (show 1 ≤ f.2.length ∧ f.2.length ≤ 8 from ⟨by omega, hle⟩), decide_eq_true (by omega)]
        rfl
      · exact absurd h (Rs.fail_k (by omega))
  · rename_i h1
    exact absurd h h1
theorem setR_app {L : List (List Int)} {x : List Int} {i : Nat} (h : i < L.length) : setR (L ++ [x]) i = setR L i := by
  unfold setR
  rw [show (L ++ [x]).getD i [] = L.getD i [] by simp [List.getD_eq_getElem?_getD, List.getElem?_append_left h], List.take_append_of_le_length (by omega)]
theorem setsR_app {L : List (List Int)} {x : List Int} : ∀ n, n ≤ L.length → setsR (L ++ [x]) n = setsR L n
  | 0, _ => rfl
  | n + 1, h => by
    unfold setsR
    rw [setsR_app n (by omega), setR_app (by omega)]
theorem setsR_push {L : List (List Int)} {x : List Int} (h : setsR L L.length = true) (hn : nodesR x = true) (ha : apartR x L = true) : setsR (L ++ [x]) (L ++ [x]).length = true := by
  rw [List.length_append]
  show (setsR (L ++ [x]) L.length && setR (L ++ [x]) L.length) = true
  have e : (L ++ [x]).getD L.length [] = x := by simp [List.getD_eq_getElem?_getD]
  rw [setsR_app _ (Nat.le_refl _), h]
  unfold setR
  rw [e, List.take_left, hn, ha]
  rfl
theorem Rs.sets_in {B : List UInt8} : ∀ (n : Nat) (s : Rs) (out : List (List Int)), setsR out out.length = true → (Rs.sets_ B n s out).1.k = 0 → setsR (Rs.sets_ B n s out).2 (Rs.sets_ B n s out).2.length = true ∧ (Rs.sets_ B n s out).2.length = n + out.length
  | 0, s, out, h, _ => ⟨h, by simp [Rs.sets_]⟩
  | n + 1, s, out, h, hk => by
    unfold Rs.sets_ at hk ⊢
    split at hk
    · rename_i h1
      rw [if_pos h1]
      obtain ⟨h2, h3⟩ := Rs.set_in h1
      obtain ⟨h4, h5⟩ := Rs.sets_in n _ _ (setsR_push h h2 h3) hk
      refine ⟨h4, ?_⟩
      rw [h5, List.length_append]
      simp
      omega
    · rename_i h1
      exact absurd hk h1
theorem Rs.sets_k {B : List UInt8} {s : Rs} (n : Nat) {out : List (List Int)} (h : (Rs.sets_ B n s out).1.k = 0) : s.k = 0 := by
  cases n with
  | zero => exact h
  | succ n =>
    unfold Rs.sets_ at h
    split at h
    · rename_i h1
      exact Rs.set_k h1
    · rename_i h1
      exact absurd h h1
theorem Rs.span_in {B : List UInt8} {s : Rs} {lo : Int} (h : (s.span B lo).1.k = 0) : lo ≤ 4611686018427387904 ∧ lo + (s.span B lo).2 + 1 ≤ 4611686018427387904 := by
  unfold Rs.span at h ⊢
  dsimp only at h ⊢
  by_cases hlo : 4611686018427387904 < lo
  · rw [if_pos hlo] at h
    have hb : (s.fail 3 s.p).k ≠ 0 := Rs.fail_k (by omega)
    rw [Rs.num_of_bad hb] at h
    dsimp only at h
    rw [Rs.fail_of_bad hb] at h
    split at h <;> exact absurd h hb
  · rw [if_neg hlo] at h ⊢
    split at h
    · exact absurd h (Rs.fail_k (by omega))
    · rename_i h2
      constructor
      · omega
      · omega
theorem Rs.stripe_in {B : List UInt8} {s : Rs} {lo : Int} (h : (s.stripe_ B lo).1.k = 0) : stripeR (s.stripe_ B lo).2 = true ∧ (s.stripe_ B lo).2.lo = lo := by
  unfold Rs.stripe_ at h ⊢
  dsimp only at h ⊢
  have h1 := Rs.sets_in (B := B) ((s.span B lo).1.many B 8).2 ((s.span B lo).1.many B 8).1 [] rfl
  have h2 := Rs.sets_k (B := B) (s := ((s.span B lo).1.many B 8).1) ((s.span B lo).1.many B 8).2 (out := [])
  have h3 := Rs.many_k (B := B) (s := (s.span B lo).1) (m := 8)
  have h4 := Rs.many_pos (B := B) (s := (s.span B lo).1) (m := 8)
  have h5 : ((s.span B lo).1.many B 8).2 ≤ 8 := Rs.many_le (m := 8)
  have h6 := Rs.span_in (B := B) (s := s) (lo := lo)
  generalize Rs.sets_ B ((s.span B lo).1.many B 8).2 ((s.span B lo).1.many B 8).1 [] = u at *
  split at h
  · rename_i hk
    rw [if_pos hk]
    obtain ⟨a1, a2⟩ := h1 hk
    have hk2 := h2 hk
    obtain ⟨a3, a4⟩ := h6 (h3 hk2)
    have a5 := h4 hk2
    simp only [List.length_nil, Nat.add_zero] at a2
    refine ⟨?_, rfl⟩
    unfold stripeR
    dsimp only
    rw [a1, decide_eq_true (by omega)]
    rfl
  · rename_i hk
    exact absurd h hk
open Go.RowKit Go.Bs
theorem infoU64s : (Tryz.prog.info? 37).map (fun i => (i.zero, i.size, i.bytes)) = some (some (.slice none 0 0), 1, 24) := by kernel_rfl
theorem infoStripe : (Tryz.prog.info? 219).map (fun i => (i.zero, i.size, i.bytes)) = some (some (.agg #[.int .u64 0, .int .u64 0, .slice none 0 0]), 3, 40) := by kernel_rfl


theorem OwnEls.tchL {w w' : World} {α : Type} {lo : Nat} {A : Rp α} {e : TypeId} {sz : Nat} {v : Value} {xs : List α} {F : Nat → Prop} (h : OwnEls lo A lo e sz w v xs) (hb : Tch F w w') (hF : ∀ b, lo ≤ b → b < w.heap.size → ¬ F b) : OwnEls lo A lo e sz w' v xs := by
  have hk : ∀ b, lo ≤ b → b < w.heap.size → w'.heap[b]? = w.heap[b]? := fun b h1 h2 => hb.block b h2 (hF b h1 h2)
  obtain ⟨cells, ho, hlen, hsz, hA⟩ := h
  refine ⟨cells, ⟨ho.1, ?_⟩, hlen, hsz, fun i cs x hi hx => A.mono (A.keep (hA i cs x hi hx) fun b h => hk b h.1 h.2.1) fun b h => ⟨h.1, Nat.lt_of_lt_of_le h.2.1 hb.size, h.2.2⟩⟩
  rcases ho.2 with h0 | ⟨g', cap, cur, h1, h2, h3, h4⟩
  · exact .inl h0
  · exact .inr ⟨g', cap, cur, h1, h2, (hk _ h2 (Blk.lt h3)).trans h3, h4⟩
theorem s_blk {w : World} {g : Nat} {t : TypeId} {v0 v1 v2 : Value} (h : Blk w g t #[v0, v1, v2]) : w.cell? ⟨g, 0, none⟩ = some v0 ∧ w.cell? ⟨g, 1, none⟩ = some v1 ∧ w.cell? ⟨g, 2, none⟩ = some v2 ∧ w.frozen? ⟨g, 0, none⟩ = false ∧ w.frozen? ⟨g, 1, none⟩ = false ∧ w.frozen? ⟨g, 2, none⟩ = false ∧ g < w.heap.size :=
  ⟨h.cell 0, h.cell 1, h.cell 2, h.free 0, h.free 1, h.free 2, h.lt⟩
theorem fr_blk1 {w : World} {g : Nat} {t : TypeId} {cs : Array Value} (h : Blk w g t cs) (i : Nat) : w.frozen? ⟨g, i, none⟩ = false := h.free i
theorem size_set1 (w : World) (p : Addr) (u : Value) : (w.setCell p u).heap.size = w.heap.size := by simp [World.setCell]

set_option maxRecDepth 100000 in
set_option maxHeartbeats 1600000 in
theorem stripe_read (w : World) {g : Nat} {B : List UInt8} {a : Option Addr} {s : Rs} (h : RdAt w g B a s) (hB : B.length ≤ 1000000000) (lo : Int) (hlo : 0 ≤ lo ∧ lo ≤ 18446744073709551615) :
    Calls Tryz.prog 351 #[.pointer (some ⟨g, 0, none⟩), .int .u64 lo] w fun r w' => ∃ v, r = .returned (.agg #[.int .u64 (s.stripe_ B lo).2.lo, .int .u64 (s.stripe_ B lo).2.hi, v]) ∧ rSets.r (Fresh w w') w' [v] (s.stripe_ B lo).2.sets ∧ RdStep w g B a (s.stripe_ B lo).1 w' := by
  have hlt := h.blk.lt
  have HIN := hid (RdInv.refl h)
  obtain ⟨j0, ji, jz0, jz1, jz2⟩ := info_parts infoU64s
  have hspin := Rs.span_in (B := B) (s := s) (lo := lo)
  unfold Rs.stripe_ Rs.span
  unfold Rs.span at hspin
  dsimp only at *
  obtain ⟨s0, hs0⟩ : ∃ t, t = (if 4611686018427387904 < lo then s.fail 3 s.p else s) := ⟨_, rfl⟩
  rw [← hs0] at hspin ⊢
  have HS0 := hid hs0
  clear hs0
  have HAT := hid (fun (W : World) (hW : RdAt W g B a s) => rd_at W hW)
  have hsp9 := h.ok.le
  have HVR := hid (fun (W : World) (hW : RdAt W g B a s0) => varint_read W hW (by omega))
  have hnn := Rs.num_small (B := B) (s := s0)
  generalize s0.num B = D at *
  obtain ⟨s1, n⟩ := D
  dsimp only at *
  obtain ⟨s2, hs2⟩ : ∃ t, t = (if 4611686018427387904 - min lo 4611686018427387904 ≤ (n : Int) then s1.fail 3 s.p else s1) := ⟨_, rfl⟩
  rw [← hs2] at hspin ⊢
  have HS2 := hid hs2
  clear hs2
  have HMN := hid (fun (W : World) (hW : RdAt W g B a s2) => stripe_many W hW hB 8 (by omega))
  have hmk := Rs.many_k (B := B) (s := s2) (m := 8)
  have hml : (s2.many B 8).2 ≤ 8 := Rs.many_le (m := 8)
  generalize s2.many B 8 = M at *
  obtain ⟨s3, k⟩ := M
  dsimp only at *
  have hsk := Rs.sets_k (B := B) (s := s3) k (out := [])
  obtain ⟨U, hU⟩ : ∃ t, t = Rs.sets_ B k s3 [] := ⟨_, rfl⟩
  rw [← hU] at hsk ⊢
  have HU := hid hU
  have HYY : Hid (U.1.k = 0 → lo ≤ 4611686018427387904 ∧ lo + n + 1 ≤ 4611686018427387904) := hid (fun e => hspin (hmk (hsk e)))
  generalize hRS : (if U.1.k = 0 then (U.1, (⟨lo, lo + n + 1, U.2⟩ : Stripe)) else (U.1, noStripe)) = RES
  have HRZ := hid hRS
  clear h hspin hmk hsk hU hRS
  go_enter Tryz.func351, Tryz.ntmps351
  go_wp2_with fail
  go_step3
  go_wp2_with fail
  refine (HAT.out _ (HIN.out.row (by (repeat (first | with_reducible exact Below.refl _ _ | with_reducible assumption | (with_reducible refine below_alloc ?_ _) | (with_reducible refine Below.setCell ?_ (by first | omega | (simp; done) | (simp; omega)) _) | (with_reducible refine Below.drew ?_) | (with_reducible refine below_drewN ?_ _) | (refine below_then (by with_reducible assumption) ?_))))).rd).mono ?_
  rintro r w1 ⟨rfl, rfl⟩
  go_upto_if 12 with (fail)
  go_cut [] from 11 to 15 (fun V => Hid (RdInv w V g B a s0) ∧ Hid (Blk V w.heap.size 219 #[.int .u64 0, .int .u64 0, .slice none 0 0]))
  case first =>
    by_cases hp : 4611686018427387904 < lo
    · have d1 : decide (4611686018427387904 < lo) = true := decide_eq_true hp
      have HE := HS0.out
      rw [if_pos hp] at HE
      have HE2 := hid HE
      clear HE hp
      rw [d1]
      go_wp2_with fail
      refine (rd_fail _ (HIN.out.row (by (repeat (first | with_reducible exact Below.refl _ _ | with_reducible assumption | (with_reducible refine below_alloc ?_ _) | (with_reducible refine Below.setCell ?_ (by first | omega | (simp; done) | (simp; omega)) _) | (with_reducible refine Below.drew ?_) | (with_reducible refine below_drewN ?_ _) | (refine below_then (by with_reducible assumption) ?_))))).rd 3 (s.p : Int) (by omega)).mono ?_
      rintro r w2 ⟨rfl, hst⟩
      have HB2 := hid (Blk.tch (Blk.new w 219 #[.int .u64 0, .int .u64 0, .slice none 0 0]) hst.2 (by omega))
      have HI2 := hid ((HIN.out.row (by (repeat (first | with_reducible exact Below.refl _ _ | with_reducible assumption | (with_reducible refine below_alloc ?_ _) | (with_reducible refine Below.setCell ?_ (by first | omega | (simp; done) | (simp; omega)) _) | (with_reducible refine Below.drew ?_) | (with_reducible refine below_drewN ?_ _) | (refine below_then (by with_reducible assumption) ?_))))).step hst)
      clear hst
      go_wp2_with fail
      go_meet
      case rel => exact ⟨hid (by rw [HE2.out]; exact HI2.out), HB2⟩
    · have d1 : decide (4611686018427387904 < lo) = false := decide_eq_false hp
      have HE := HS0.out
      rw [if_neg hp] at HE
      have HE2 := hid HE
      clear HE hp
      rw [d1]
      go_wp2_with fail
      go_meet
      case rel => exact ⟨hid (by rw [HE2.out]; exact HIN.out.row (by (repeat (first | with_reducible exact Below.refl _ _ | with_reducible assumption | (with_reducible refine below_alloc ?_ _) | (with_reducible refine Below.setCell ?_ (by first | omega | (simp; done) | (simp; omega)) _) | (with_reducible refine Below.drew ?_) | (with_reducible refine below_drewN ?_ _) | (refine below_then (by with_reducible assumption) ?_))))), hid (Blk.new w _ _)⟩
  case rest =>
    obtain ⟨hI1, hR1⟩ := hcut
    obtain ⟨w1, hwn⟩ : ∃ W : World, W = wc := ⟨_, rfl⟩
    subst hwn
    have hz1 : w.heap.size < w1.heap.size := hR1.out.lt
    go_wp2_with fail
    refine (HVR.out _ (hI1.out.row ((by (repeat (first | with_reducible exact Below.refl _ _ | with_reducible assumption | (with_reducible refine below_alloc ?_ _) | (with_reducible refine Below.setCell ?_ (by first | omega | (simp; done) | (simp; omega)) _) | (with_reducible refine Below.drew ?_) | (with_reducible refine below_drewN ?_ _) | (refine below_then (by with_reducible assumption) ?_))) : Below w1.heap.size w1 _).mono (by omega))).rd).mono ?_
    rintro r w2 ⟨rfl, hst⟩
    have hS2 : Hid (Blk w2 w1.heap.size 219 #[.int .u64 lo, .int .u64 0, .slice none 0 0]) := hid (Blk.tch (Blk.new w1 _ _) hst.2 (by omega))
    have hR2 := hid (Blk.tch (hR1.out.alloc _) hst.2 (by omega))
    have hI2 := hid ((hI1.out.row ((by (repeat (first | with_reducible exact Below.refl _ _ | with_reducible assumption | (with_reducible refine below_alloc ?_ _) | (with_reducible refine Below.setCell ?_ (by first | omega | (simp; done) | (simp; omega)) _) | (with_reducible refine Below.drew ?_) | (with_reducible refine below_drewN ?_ _) | (refine below_then (by with_reducible assumption) ?_))) : Below w1.heap.size w1 _).mono (by omega))).step hst)
    have hz2 : w1.heap.size < w2.heap.size := hS2.out.lt
    clear hst
    go_upto_region 6 with (fail)
    obtain ⟨R, hR⟩ : ∃ R, R = decide (4611686018427387904 - min lo 4611686018427387904 ≤ (n : Int)) := ⟨_, rfl⟩
    have HR := hid hR
    clear hR
    go_cut [24] from 20 to 23 (fun v V => v = .bool R ∧ Hid (V = w2))
    case first =>
      by_cases hp : lo ≤ 4611686018427387904
      · have v1 : 0 ≤ 4611686018427387904 - lo := by omega
        have v2 : 4611686018427387904 - lo ≤ 18446744073709551615 := by omega
        go_wp2_with fail
        go_meet
        case rel => exact ⟨congrArg Value.bool (by rw [HR.out]; first | exact decide_eq_decide.2 (by omega) | exact (decide_eq_true (by omega)).symm), hid rfl⟩
      · have v1 : 4611686018427387904 < lo := by omega
        go_wp2_with fail
        go_meet
        case rel => exact ⟨congrArg Value.bool (by rw [HR.out]; first | exact decide_eq_decide.2 (by omega) | exact (decide_eq_true (by omega)).symm), hid rfl⟩
    case rest =>
    obtain ⟨rfl, hV⟩ := hcut
    have hV' := hV.out.symm
    subst hV'
    go_upto_if 24 with (fail)
    go_cut [] from 25 to 27 (fun V => Hid (RdInv w V g B a s2) ∧ Hid (Blk V w.heap.size 219 #[.int .u64 0, .int .u64 0, .slice none 0 0]) ∧ Hid (Blk V w1.heap.size 219 #[.int .u64 lo, .int .u64 0, .slice none 0 0]))
    case first =>
      have HE := HS2.out
      have hR := HR.out
      cases R
      · rw [if_neg (of_decide_eq_false hR.symm)] at HE
        have HE2 := hid HE
        clear HE hR
        go_wp2_with fail
        go_meet
        case rel => exact ⟨hid (by rw [HE2.out]; exact hI2.out), hR2, hS2⟩
      · rw [if_pos (of_decide_eq_true hR.symm)] at HE
        have HE2 := hid HE
        clear HE hR
        go_wp2_with fail
        refine (rd_fail _ hI2.out.rd 3 (s.p : Int) (by omega)).mono ?_
        rintro r w3 ⟨rfl, hst⟩
        have hI3 := hid (hI2.out.step hst)
        have hR3 := hid (Blk.tch hR2.out hst.2 (by omega))
        have hS3 := hid (Blk.tch hS2.out hst.2 (by omega))
        clear hst
        go_wp2_with fail
        go_meet
        case rel => exact ⟨hid (by rw [HE2.out]; exact hI3.out), hR3, hS3⟩
    case rest =>
      obtain ⟨hI3, hR3, hS3⟩ := hcut
      obtain ⟨w3, hwn⟩ : ∃ W : World, W = wc := ⟨_, rfl⟩
      subst hwn
      obtain ⟨x0, x1, x2, f0, f1, f2, l3⟩ := s_blk hS3.out
      have hg3 : g ≠ w1.heap.size := by omega
      go_upto_region 8 with (fail)
      go_cut [] from 28 to 32 (fun V => ∃ y : Int, Hid (U.1.k = 0 → y = lo + n + 1) ∧ Hid (RdInv w V g B a s2) ∧ Hid (Blk V w.heap.size 219 #[.int .u64 0, .int .u64 0, .slice none 0 0]) ∧ Hid (Blk V w1.heap.size 219 #[.int .u64 lo, .int .u64 y, .slice none 0 0]))
      case first =>
        go_wp2_with fail
        go_meet
        case rel =>
          refine ⟨_, hid (fun e => ?_), hid (hI3.out.row (by (repeat (first | with_reducible exact Below.refl _ _ | with_reducible assumption | (with_reducible refine below_alloc ?_ _) | (with_reducible refine Below.setCell ?_ (by first | omega | (simp; done) | (simp; omega)) _) | (with_reducible refine Below.drew ?_) | (with_reducible refine below_drewN ?_ _) | (refine below_then (by with_reducible assumption) ?_))))), hid (Blk.far hR3.out (by dsimp only; omega) _), hid (hS3.out.set 1 _)⟩
          have := HYY.out e
          rw [IntKind.wrap_u64, IntKind.wrap_u64]
          omega
      case rest =>
        obtain ⟨y, HY, hI4, hR4, hS4⟩ := hcut
        obtain ⟨w4, hwn⟩ : ∃ W : World, W = wc := ⟨_, rfl⟩
        subst hwn
        clear x0 x1 x2 f0 f1 f2 l3
        go_wp2_with fail
        refine (HMN.out _ hI4.out.rd).mono ?_
        rintro r w5 ⟨rfl, hst⟩
        have hS5 := hid (Blk.tch hS4.out hst.2 (by omega))
        have hR5 := hid (Blk.tch hR4.out hst.2 (by omega))
        have hI5 := hid (hI4.out.step hst)
        have hz5 : w1.heap.size < w5.heap.size := hS5.out.lt
        clear hst
        go_wp2_with fail
        go_step3
        go_wp2_with fail
        go_loopw [36] (fun i wr => ∃ (j : Nat) (J : List (List Int)) (st : Rs) (av : Option Addr) (cv : Nat), j ≤ k ∧ i = .int .i64 j ∧ Hid (J.length = j) ∧ Hid (OwnEls w5.heap.size rU64s w5.heap.size 37 1 wr (.slice av J.length cv) J) ∧ Hid (RdInv w wr g B a st) ∧ Hid (Blk wr w.heap.size 219 #[.int .u64 0, .int .u64 0, .slice none 0 0]) ∧ Hid (Blk wr w1.heap.size 219 #[.int .u64 lo, .int .u64 y, .slice av J.length cv]) ∧ Hid (U = Rs.sets_ B (k - j) st J) ∧ w5.heap.size ≤ wr.heap.size) (fun i _ => k - (intOf i).toNat)
        case atStart => exact ⟨0, [], s3, none, 0, Nat.zero_le _, rfl, hid rfl, hid OwnEls.nil, hI5, hR5, hS5, HU, Nat.le_refl _⟩
        case round =>
          obtain ⟨j, J, st, av, cv, hj, rfl, HJ, HO, hIr, hRr, hSr, HSP, hzr⟩ := hrel
          obtain ⟨x0, x1, x2, f0, f1, f2, l8⟩ := s_blk hSr.out
          have lr := hRr.out.lt
          rcases Nat.lt_or_ge j k with hlt2 | hge
          · have i1 : (j : Int) < (k : Int) := by omega
            have d1 : decide ((j : Int) < (k : Int)) = true := decide_eq_true i1
            have hJ9 : J.length ≤ 8 := by have := HJ.out; omega
            have hstep : U = (if (st.set_ B J).1.k = 0 then Rs.sets_ B (k - (j + 1)) (st.set_ B J).1 (J ++ [(st.set_ B J).2]) else ((st.set_ B J).1, [])) := by
              rw [HSP.out, show k - j = (k - (j + 1)) + 1 by omega]; rfl
            have HRS := hid (stripe_readset wr.drew (hIr.out.rd.later (show Below wr.heap.size wr wr.drew from (Below.refl _ _).drew)) hB J av J.length cv (rSets.mono (OwnEls.slice (Nat.le_refl _) (OwnEls.below HO.out (show Below wr.heap.size wr wr.drew from (Below.refl _ _).drew))) fun b hb => ⟨hb.2, by have := hb.1; omega⟩))
            generalize st.set_ B J = T at *
            obtain ⟨s5, L⟩ := T
            dsimp only at *
            have HST := hid hstep
            have HOB : Hid (∀ q, (Value.slice av J.length cv).ownBlock = some q → w5.heap.size ≤ q ∧ q < wr.heap.size) := hid (by
              obtain ⟨cells0, OA0⟩ := HO.out
              exact fun q e => own_lt OA0.1 q e)
            clear hstep
            go_wp2_with fail
            refine wp_region_last_held (fun w' => w'.cell? ⟨w1.heap.size, 2, none⟩ = some (.slice av J.length cv)) _ (by kernel_rfl) rfl (by kernel_rfl) x2 (fun hHeld => ?_)
            simp only [noopLast, noopOf]
            refine wpAnyH_take (i := 0) (oi := _) (v := ?_) rfl (by decide +kernel) (by decide +kernel) (by decide +kernel) (fun _ _ _ h => h) (Or.inl ⟨by rfl, ?_⟩) (by assumption) ?_
            rotate_left
            · (intro w hSw; (try dsimp only at hSw); go_simp <;> with_reducible rfl)
            (try simp only [Act.put, List.setIfInBounds_toArray, List.set_cons_zero, List.set_cons_succ])
            refine wpAnyH_take (i := 1) (oi := _) (v := ?_) rfl (by decide +kernel) (by decide +kernel) (by decide +kernel) (fun _ _ _ h => h) (Or.inl ⟨by rfl, ?_⟩) (by assumption) ?_
            rotate_left
            · (intro w hSw; (try dsimp only at hSw); go_simp <;> with_reducible rfl)
            (try simp only [Act.put, List.setIfInBounds_toArray, List.set_cons_zero, List.set_cons_succ])
            refine wpAnyH_take (i := 2) (oi := _) (v := ?_) rfl (by decide +kernel) (by decide +kernel) (by decide +kernel) (fun _ _ _ h => h) (Or.inl ⟨by rfl, ?_⟩) (by assumption) ?_
            rotate_left
            · (intro w hSw; (try dsimp only at hSw); go_simp <;> with_reducible rfl)
            (try simp only [Act.put, List.setIfInBounds_toArray, List.set_cons_zero, List.set_cons_succ])
            refine wpAnyH_take (i := 3) (oi := _) (v := ?_) rfl (by decide +kernel) (by decide +kernel) (by decide +kernel) (fun _ _ _ h => h) (Or.inl ⟨by rfl, ?_⟩) (by assumption) ?_
            rotate_left
            · (intro w hSw; (try dsimp only at hSw); go_simp <;> with_reducible rfl)
            (try simp only [Act.put, List.setIfInBounds_toArray, List.set_cons_zero, List.set_cons_succ])
            refine wpAnyH_take (i := 4) (oi := _) (v := ?_) rfl (by decide +kernel) (by decide +kernel) (by decide +kernel) (fun _ _ _ h => h) (Or.inl ⟨by rfl, ?_⟩) (by assumption) ?_
            rotate_left
            · (intro w hSw; (try dsimp only at hSw); go_simp <;> with_reducible rfl)
            (try simp only [Act.put, List.setIfInBounds_toArray, List.set_cons_zero, List.set_cons_succ])
            refine wpAnyH_ready (rs := [5]) (by decide +kernel) (by simp) ?_
            refine AllReadyH.cons (o := _) rfl (fun K hK => ?_) AllReadyH.nil
            (go_simp; go_at_call 365; refine HRS.out.mono ?_; rintro e1 w7 ⟨v7, rfl, hv7, hst7⟩; obtain ⟨a7, c7, hfv, _, _⟩ := sl_form hv7; simp only [List.cons.injEq, and_true] at hfv; subst hfv; have hst8 : RdStep wr g B a s5 w7 := ⟨hst7.1, (Tch.refl (· = g) wr).drew.trans hst7.2 fun _ _ e => e⟩; have HV7 := hid hv7; have HI7 := hid (hIr.out.step hst8); have HR7 := hid (Blk.tch hRr.out hst8.2 (by omega)); have HS7 := hid (Blk.tch hSr.out hst8.2 (by omega)); have HO7 := hid (OwnEls.tchL HO.out hst8.2 (fun b h1 h2 e => by omega)); have z7 := hst8.2.size; have m1 : w7.cell? ⟨w1.heap.size, 2, none⟩ = some (.slice av J.length cv) := HS7.out.cell 2; have l7 : w1.heap.size < w7.heap.size := (by omega); clear hst7 hst8 hv7; (try dsimp only))
            refine hK.out _ _ ?_ (fun hHeld => ?_)
            · ((try dsimp only); first | assumption | (go_keep; done))
            clear hK K
            (try simp only [Act.put, List.setIfInBounds_toArray, List.set_cons_zero, List.set_cons_succ])
            refine wpAnyH_ready (rs := [6]) (by decide +kernel) (by simp) ?_
            refine AllReadyH.cons (o := _) rfl (fun K hK => ?_) AllReadyH.nil
            go_simp
            refine hK.out _ _ ?_ (fun hHeld => ?_)
            · ((try dsimp only); first | assumption | (go_keep; done))
            clear hK K
            (try simp only [Act.put, List.setIfInBounds_toArray, List.set_cons_zero, List.set_cons_succ])
            have hb78 : Below w7.heap.size w7 (w7.alloc (.cells #[.slice a7 L.length c7] 37)) := by (repeat (first | with_reducible exact Below.refl _ _ | with_reducible assumption | (with_reducible refine below_alloc ?_ _) | (with_reducible refine Below.setCell ?_ (by first | omega | (simp; done) | (simp; omega)) _) | (with_reducible refine Below.drew ?_) | (with_reducible refine below_drewN ?_ _) | (refine below_then (by with_reducible assumption) ?_)))
            obtain ⟨cells, OA⟩ := OwnEls.below HO7.out hb78
            have hx : rU64s.r (fun b => w5.heap.size ≤ b ∧ b < (w7.alloc (.cells #[.slice a7 L.length c7] 37)).heap.size ∧ (Value.slice av J.length cv).ownBlock ≠ some b) (w7.alloc (.cells #[.slice a7 L.length c7] 37)) [.slice a7 L.length c7] L := by
              refine rU64s.mono (rU64s.keep HV7.out fun b hb => hb78.block b hb.2) fun b hb => ⟨?_, ?_, fun e => ?_⟩
              · have h1 : wr.heap.size ≤ b := hb.1; omega
              · have := hb.2; simp; omega
              · have h1 : wr.heap.size ≤ b := hb.1
                have := (HOB.out b e).2
                omega
            have HX := hid hx
            have HA := hid OA
            have HS9 : Hid (w5.heap.size ≤ (w7.alloc (.cells #[.slice a7 L.length c7] 37)).heap.size) := hid (by simp; omega)
            clear hx OA
            refine wpAnyH_ready (rs := [7]) (by decide +kernel) (by simp) ?_
            refine AllReadyH.cons (o := _) rfl (fun K hK => ?_) AllReadyH.nil
            (refine step_append_src (by rfl) _ _ _ (by rfl) w5.heap.size 37 j0 (.slice none 0 0) 1 24 Tryz.underlying217 ji jz0 jz1 jz2 rfl (by decide) (.slice av J.length cv) J.length _ (by rfl) HA.out.1 (some ⟨w7.heap.size, 0, none⟩) 1 1 [.slice a7 L.length c7] (by rfl) (src_new1 w7 37 _ (by rfl) (by rfl) rfl) (by intro u hu; simp at hu; subst hu; rfl) (by simp only [maxLen]; omega) (by omega) HS9.out ?_; intro a9 c9 w9 hown9 hgrow9 hat9; have OP := hid (OwnEls.push HA.out rfl HX.out hown9 hgrow9 hat9 hgrow9.size); have HB9 := hid (show Below w5.heap.size w7 w9 from Below.grown (hb78.mono (by omega)) hgrow9 HS9.out (fun g e => (HOB.out g e).1)); have hz9 := hgrow9.size; simp at hz9; have HS9b := hid (HS7.out.below HB9.out (by omega)); have m2 : w9.cell? ⟨w1.heap.size, 2, none⟩ = some (.slice av J.length cv) := HS9b.out.cell 2; have m3 := fr_blk1 HS9b.out 2; clear hown9 hgrow9 hat9; (try dsimp only))
            refine hK.out _ _ ?_ (fun hHeld => ?_)
            · ((try dsimp only); first | assumption | (go_keep; done))
            clear hK K
            (try simp only [Act.put, List.setIfInBounds_toArray, List.set_cons_zero, List.set_cons_succ])
            refine wpAnyH_take (i := 8) (oi := _) (v := ?_) rfl (by decide +kernel) (by decide +kernel) (by decide +kernel) (fun _ _ _ h => h) (Or.inl ⟨by rfl, ?_⟩) (by assumption) ?_
            rotate_left
            · (intro w hSw; (try dsimp only at hSw); go_simp <;> with_reducible rfl)
            (try simp only [Act.put, List.setIfInBounds_toArray, List.set_cons_zero, List.set_cons_succ])
            refine wpAnyH_take (i := 9) (oi := _) (v := ?_) rfl (by decide +kernel) (by decide +kernel) (by decide +kernel) (fun _ _ _ h => h) (Or.inl ⟨by rfl, ?_⟩) (by assumption) ?_
            rotate_left
            · (intro w hSw; (try dsimp only at hSw); go_simp <;> with_reducible rfl)
            (try simp only [Act.put, List.setIfInBounds_toArray, List.set_cons_zero, List.set_cons_succ])
            refine wpAnyH_done (by kernel_rfl) ?_ _
            show wpList _ _ _ _ _ _
            have HIW := hid (show RdInv w (w9.setCell ⟨w1.heap.size, 2, none⟩ (.slice a9 (J.length + 1) c9)) g B a s5 from (HI7.out.row (HB9.out.mono (by omega))).row (by (repeat (first | with_reducible exact Below.refl _ _ | with_reducible assumption | (with_reducible refine below_alloc ?_ _) | (with_reducible refine Below.setCell ?_ (by first | omega | (simp; done) | (simp; omega)) _) | (with_reducible refine Below.drew ?_) | (with_reducible refine below_drewN ?_ _) | (refine below_then (by with_reducible assumption) ?_)))))
            have HOW := hid (OwnEls.tchL OP.out ((Tch.refl (· = w1.heap.size) w9).setCell (p := ⟨w1.heap.size, 2, none⟩) (fun _ => rfl) (.slice a9 (J.length + 1) c9)) (fun b h1 h2 e => by omega))
            have HSW := hid (HS9b.out.set 2 (.slice a9 (J.length + 1) c9))
            have HRW := hid (Blk.far (HR7.out.below HB9.out (by omega)) (p := ⟨w1.heap.size, 2, none⟩) (by dsimp only; omega) (.slice a9 (J.length + 1) c9))
            by_cases hk : s5.k = 0
            · have HE := HST.out
              rw [if_pos hk] at HE
              have HSP2 := hid HE
              have HG := rd_good _ HIW.out.rd
              rw [decide_eq_true hk] at HG
              have HGG := hid HG
              clear HE HG hk
              go_wp2_with fail
              refine HGG.out.mono ?_
              rintro r w10 ⟨rfl, hb10⟩
              have hz10 := hb10.size
              rw [size_set1] at hz10
              have HI10 := hid (HIW.out.row (hb10.mono (by rw [size_set1]; omega)))
              have HR10 := hid (HRW.out.later hb10)
              have HS10 := hid (HSW.out.later hb10)
              have HO10 := hid (OwnEls.below HOW.out hb10)
              clear hb10
              go_wp2_with fail
              go_roundw
              case rel => exact ⟨j + 1, J ++ [L], s5, a9, c9, by omega, by go_num, hid (by rw [List.length_append, HJ.out]; rfl), hid (by rw [List.length_append]; exact HO10.out), HI10, HR10, hid (by rw [List.length_append]; exact HS10.out), HSP2, by omega⟩
              case measure => (simp [intOf]; try omega)
            · have HE := HST.out
              rw [if_neg hk] at HE
              have HRES : Hid (RES = (s5, noStripe)) := hid (by rw [← HRZ.out, HE]; exact if_neg hk)
              have HG := hid (fun (W : World) (hW : RdAt W g B a s5) => (by have := rd_good W hW; rw [decide_eq_false hk] at this; exact this : Calls Tryz.prog 112 #[.pointer (some ⟨g, 0, none⟩)] W fun r w' => r = .returned (.bool false) ∧ Below W.heap.size W w'))
              clear HE hk
              go_wp2_with fail
              refine (HG.out _ HIW.out.rd).mono ?_
              rintro r w10 ⟨rfl, hb10⟩
              have hz10 := hb10.size
              rw [size_set1] at hz10
              have HI10 := hid (HIW.out.row (hb10.mono (by rw [size_set1]; omega)))
              have HR10 := hid (HRW.out.later hb10)
              clear hb10
              go_wp2_with fail
              refine (HG.out _ HI10.out.rd).mono ?_
              rintro r w11 ⟨rfl, hb11⟩
              have HI11 := hid (HI10.out.row (hb11.mono (by omega)))
              have HR11 := hid (HR10.out.later hb11)
              clear hb11
              obtain ⟨r0, r1, r2, g0, g1, g2, lr2⟩ := s_blk HR11.out
              go_wp2_with fail
              obtain ⟨n0, n1, n2, _, _, _, ln⟩ := s_blk (((HR11.out.set 0 (.int .u64 0)).set 1 (.int .u64 0)).set 2 (.slice none 0 0))
              simp only [Exit.noGoto]
              go_wp2_with fail
              rw [HRES.out]
              refine bodyPost_ret (v := .agg #[.int .u64 0, .int .u64 0, .slice none 0 0]) (by simp [results, Tryz.results351, go_sem, n0, n1, n2, ln]) rfl ⟨_, rfl, rSl_mk (xs := []) rfl (Nat.le_refl _) (Nat.zero_le _) (.inl rfl), (HI11.out.row (by (repeat (first | with_reducible exact Below.refl _ _ | with_reducible assumption | (with_reducible refine below_alloc ?_ _) | (with_reducible refine Below.setCell ?_ (by first | omega | (simp; done) | (simp; omega)) _) | (with_reducible refine Below.drew ?_) | (with_reducible refine below_drewN ?_ _) | (refine below_then (by with_reducible assumption) ?_))))).to⟩
          · obtain rfl : j = k := by omega
            have d1 : decide ((j : Int) < (j : Int)) = false := decide_eq_false (by omega)
            have HE := HSP.out
            rw [Nat.sub_self] at HE
            have HE2 : U = (st, J) := HE
            clear HE
            by_cases hk : st.k = 0
            · have hy := HY.out (by rw [HE2]; exact hk)
              have HRES : Hid (RES = (st, ⟨lo, y, J⟩)) := hid (by rw [← HRZ.out, HE2, hy]; exact if_pos hk)
              have HG := hid (fun (W : World) (hW : RdAt W g B a st) => (by have := rd_good W hW; rw [decide_eq_true hk] at this; exact this : Calls Tryz.prog 112 #[.pointer (some ⟨g, 0, none⟩)] W fun r w' => r = .returned (.bool true) ∧ Below W.heap.size W w'))
              clear HE2 hk hy
              go_wp2_with fail
              refine (HG.out _ hIr.out.rd).mono ?_
              rintro r w11 ⟨rfl, hb11⟩
              have hz11 := hb11.size
              have HI11 := hid (hIr.out.row (hb11.mono (by omega)))
              have HS11 := hSr.out.later hb11
              have HR11 := hRr.out.later hb11
              have HO11 := hid (OwnEls.slice (Nat.le_refl _) (OwnEls.below HO.out hb11))
              clear x0 x1 x2 f0 f1 f2 l8 hb11
              obtain ⟨x0, x1, x2, f0, f1, f2, l8⟩ := s_blk HS11
              obtain ⟨r0, r1, r2, g0, g1, g2, lr2⟩ := s_blk HR11
              go_wp2_with fail
              obtain ⟨n0, n1, n2, _, _, _, ln⟩ := s_blk (((HR11.set 0 (.int .u64 lo)).set 1 (.int .u64 y)).set 2 (.slice av J.length cv))
              simp only [Exit.noGoto]
              go_wp2_with fail
              rw [HRES.out]
              refine bodyPost_ret (v := .agg #[.int .u64 lo, .int .u64 y, .slice av J.length cv]) (by simp [results, Tryz.results351, go_sem, n0, n1, n2, ln]) rfl ⟨_, rfl, ?_, (HI11.out.row (by (repeat (first | with_reducible exact Below.refl _ _ | with_reducible assumption | (with_reducible refine below_alloc ?_ _) | (with_reducible refine Below.setCell ?_ (by first | omega | (simp; done) | (simp; omega)) _) | (with_reducible refine Below.drew ?_) | (with_reducible refine below_drewN ?_ _) | (refine below_then (by with_reducible assumption) ?_))))).to⟩
              refine rSets.mono (rSets.keep HO11.out fun b hb => ?_) fun b hb => ⟨by have := hb.1; omega, by have := hb.2; simp; omega⟩
              have := hb.1
              repeat rw [Below.heap_setCell _ _ _ _ (by dsimp only; omega)]
            · have HRES : Hid (RES = (st, noStripe)) := hid (by rw [← HRZ.out, HE2]; exact if_neg hk)
              have HG := hid (fun (W : World) (hW : RdAt W g B a st) => (by have := rd_good W hW; rw [decide_eq_false hk] at this; exact this : Calls Tryz.prog 112 #[.pointer (some ⟨g, 0, none⟩)] W fun r w' => r = .returned (.bool false) ∧ Below W.heap.size W w'))
              clear HE2 hk
              go_wp2_with fail
              refine (HG.out _ hIr.out.rd).mono ?_
              rintro r w11 ⟨rfl, hb11⟩
              have hz11 := hb11.size
              have HI11 := hid (hIr.out.row (hb11.mono (by omega)))
              have HR11 := hid (hRr.out.later hb11)
              clear x0 x1 x2 f0 f1 f2 l8 hb11
              obtain ⟨r0, r1, r2, g0, g1, g2, lr2⟩ := s_blk HR11.out
              go_wp2_with fail
              obtain ⟨n0, n1, n2, _, _, _, ln⟩ := s_blk (((HR11.out.set 0 (.int .u64 0)).set 1 (.int .u64 0)).set 2 (.slice none 0 0))
              simp only [Exit.noGoto]
              go_wp2_with fail
              rw [HRES.out]
              refine bodyPost_ret (v := .agg #[.int .u64 0, .int .u64 0, .slice none 0 0]) (by simp [results, Tryz.results351, go_sem, n0, n1, n2, ln]) rfl ⟨_, rfl, rSl_mk (xs := []) rfl (Nat.le_refl _) (Nat.zero_le _) (.inl rfl), (HI11.out.row (by (repeat (first | with_reducible exact Below.refl _ _ | with_reducible assumption | (with_reducible refine below_alloc ?_ _) | (with_reducible refine Below.setCell ?_ (by first | omega | (simp; done) | (simp; omega)) _) | (with_reducible refine Below.drew ?_) | (with_reducible refine below_drewN ?_ _) | (refine below_then (by with_reducible assumption) ?_))))).to⟩

/-- What stays while the sets are read. -/
structure Sets19 (w : World) (a : Option Addr) (n c : Nat) (g6 g8 L0 : Nat) (lo y : Int) (st : Rs) (v : Value) (J : List (List Int)) (W : World) : Prop where
  d : Blk W g6 91 #[.slice a n c, .int .i64 (st.p : Int), .int .i64 st.k, .int .i64 st.f]
  s : Blk W g8 219 #[.int .u64 lo, .int .u64 y, v]
  r4 : Blk W (w.heap.size + 1) 91 #[.slice none 0 0, .int .i64 0, .int .i64 0, .int .i64 0]
  r5 : Blk W (w.heap.size + 1 + 1) 219 #[.int .u64 0, .int .u64 0, .slice none 0 0]
  own : OwnEls L0 rU64s L0 37 1 W v J
  bel : Below w.heap.size w W
  le : L0 ≤ W.heap.size
theorem Sets19.later {w W W' : World} {a : Option Addr} {n c g6 g8 L0 : Nat} {lo y : Int} {st : Rs} {v : Value} {J : List (List Int)} (h : Sets19 w a n c g6 g8 L0 lo y st v J W) (hb : Below W.heap.size W W') : Sets19 w a n c g6 g8 L0 lo y st v J W' :=
  ⟨h.d.later hb, h.s.later hb, h.r4.later hb, h.r5.later hb, OwnEls.below h.own hb, below_then hb h.bel, Nat.le_trans h.le hb.size⟩


theorem Rs.stripe_none {B : List UInt8} {s : Rs} {lo : Int} (h : (s.stripe_ B lo).1.k ≠ 0) : (s.stripe_ B lo).2 = noStripe := by
  unfold Rs.stripe_ at h ⊢
  dsimp only at h ⊢
  split at h
  · rename_i h1
    exact absurd h1 h
  · rename_i h1
    rw [if_neg h1]
theorem Rs.stripe_u {B : List UInt8} {s : Rs} {lo : Int} (h0 : 0 ≤ lo) : inU (s.stripe_ B lo).2.lo ∧ inU (s.stripe_ B lo).2.hi := by
  by_cases hk : (s.stripe_ B lo).1.k = 0
  · obtain ⟨h1, h2⟩ := Rs.stripe_in hk
    simp only [stripeR, Bool.and_eq_true, decide_eq_true_eq] at h1
    unfold inU
    omega
  · rw [Rs.stripe_none hk]
    exact ⟨⟨by decide, by decide⟩, ⟨by decide, by decide⟩⟩
theorem p2_blk {w : World} {g : Nat} {t : TypeId} {v0 v1 : Value} (h : Blk w g t #[v0, v1]) : w.cell? ⟨g, 0, none⟩ = some v0 ∧ w.cell? ⟨g, 1, none⟩ = some v1 ∧ w.frozen? ⟨g, 0, none⟩ = false ∧ w.frozen? ⟨g, 1, none⟩ = false ∧ g < w.heap.size :=
  ⟨h.cell 0, h.cell 1, h.free 0, h.free 1, h.lt⟩

theorem Rs.stripes_of_bad {B : List UInt8} {s : Rs} {lo : Int} {out : List Stripe} (h : s.k ≠ 0) : ∀ n, (Rs.stripes_ B n s lo out).1 = s
  | 0 => rfl
  | n + 1 => by
    unfold Rs.stripes_
    rw [Rs.stripe_of_bad h, if_neg h]

set_option maxRecDepth 100000 in
set_option maxHeartbeats 1600000 in
theorem proj_read (w : World) {g : Nat} {B : List UInt8} {a : Option Addr} {s : Rs} (h : RdAt w g B a s) (hB : B.length ≤ 1000000000) :
    Calls Tryz.prog 319 #[.pointer (some ⟨g, 0, none⟩)] w fun r w' => ∃ v, r = .returned (.agg #[.int .u64 (s.proj_ B).2.epoch, v]) ∧ rStripes.r (Fresh w w') w' [v] (s.proj_ B).2.stripes ∧ RdStep w g B a (s.proj_ B).1 w' := by
  have hlt := h.blk.lt
  have HIN := hid (RdInv.refl h)
  obtain ⟨j0, ji, jz0, jz1, jz2⟩ := info_parts infoStripe
  have HEP := hid (fun (W : World) (hW : RdAt W g B a s) => epoch_read W hW hB)
  unfold Rs.proj_ Rs.many
  clear h
  generalize s.ep B = E at *
  obtain ⟨s1, e⟩ := E
  dsimp only at *
  have HAT := hid (fun (W : World) (hW : RdAt W g B a s1) => rd_at W hW)
  have HVI := hid (fun (W : World) (hW : RdAt W g B a s1) => varint_int W hW (by omega) 64 (by omega))
  have hn64 := Rs.int_le (B := B) (s := s1) (m := 64)
  generalize s1.int B 64 = I at *
  obtain ⟨s2, n⟩ := I
  dsimp only at *
  have hn : n ≤ 64 := by omega
  clear hn64
  obtain ⟨s3, hs3⟩ : ∃ t, t = (if n = 0 then s2.fail 3 s1.p else s2) := ⟨_, rfl⟩
  rw [← hs3]
  have HS3 := hid hs3
  clear hs3
  obtain ⟨U, hU⟩ : ∃ t, t = Rs.stripes_ B n s3 0 [] := ⟨_, rfl⟩
  rw [← hU]
  have HU := hid hU
  clear hU
  generalize hRES : (if (if U.2.1 = 4611686018427387904 then U.1 else U.1.fail 3 U.1.p).k = 0 then ((if U.2.1 = 4611686018427387904 then U.1 else U.1.fail 3 U.1.p), (⟨(e : Int), U.2.2⟩ : Projn)) else ((if U.2.1 = 4611686018427387904 then U.1 else U.1.fail 3 U.1.p), noProj)) = RES
  have HRES := hid hRES
  clear hRES
  go_enter Tryz.func319, Tryz.ntmps319
  go_wp2_with fail
  refine (HEP.out _ (HIN.out.row (by (repeat (first | with_reducible exact Below.refl _ _ | with_reducible assumption | (with_reducible refine below_alloc ?_ _) | (with_reducible refine Below.setCell ?_ (by first | omega | (simp; done) | (simp; omega)) _) | (with_reducible refine Below.drew ?_) | (with_reducible refine below_drewN ?_ _) | (refine below_then (by with_reducible assumption) ?_))))).rd).mono ?_
  rintro r w1 ⟨rfl, hst⟩
  have hR1 := hid (Blk.tch (Blk.new w 43 #[.int .u64 0, .slice none 0 0]) hst.2 (by omega))
  have hI1 := hid ((HIN.out.row (by (repeat (first | with_reducible exact Below.refl _ _ | with_reducible assumption | (with_reducible refine below_alloc ?_ _) | (with_reducible refine Below.setCell ?_ (by first | omega | (simp; done) | (simp; omega)) _) | (with_reducible refine Below.drew ?_) | (with_reducible refine below_drewN ?_ _) | (refine below_then (by with_reducible assumption) ?_))))).step hst)
  have hz1 : w.heap.size < w1.heap.size := hR1.out.lt
  clear hst
  go_wp2_with fail
  refine (HAT.out _ (hI1.out.row ((by (repeat (first | with_reducible exact Below.refl _ _ | with_reducible assumption | (with_reducible refine below_alloc ?_ _) | (with_reducible refine Below.setCell ?_ (by first | omega | (simp; done) | (simp; omega)) _) | (with_reducible refine Below.drew ?_) | (with_reducible refine below_drewN ?_ _) | (refine below_then (by with_reducible assumption) ?_))) : Below w1.heap.size w1 _).mono (by omega))).rd).mono ?_
  rintro r w1' ⟨rfl, rfl⟩
  go_wp2_with fail
  refine (HVI.out _ (hI1.out.row ((by (repeat (first | with_reducible exact Below.refl _ _ | with_reducible assumption | (with_reducible refine below_alloc ?_ _) | (with_reducible refine Below.setCell ?_ (by first | omega | (simp; done) | (simp; omega)) _) | (with_reducible refine Below.drew ?_) | (with_reducible refine below_drewN ?_ _) | (refine below_then (by with_reducible assumption) ?_))) : Below w1.heap.size w1 _).mono (by omega))).rd).mono ?_
  rintro r w2 ⟨rfl, hst⟩
  have hP2 := hid (Blk.tch (Blk.new w1 43 #[.int .u64 (e : Int), .slice none 0 0]) hst.2 (by omega))
  have hR2 := hid (Blk.tch (hR1.out.alloc _) hst.2 (by omega))
  have hI2 := hid ((hI1.out.row ((by (repeat (first | with_reducible exact Below.refl _ _ | with_reducible assumption | (with_reducible refine below_alloc ?_ _) | (with_reducible refine Below.setCell ?_ (by first | omega | (simp; done) | (simp; omega)) _) | (with_reducible refine Below.drew ?_) | (with_reducible refine below_drewN ?_ _) | (refine below_then (by with_reducible assumption) ?_))) : Below w1.heap.size w1 _).mono (by omega))).step hst)
  have hz2 : w1.heap.size < w2.heap.size := hP2.out.lt
  clear hst
  go_upto_if 16 with (fail)
  go_cut [] from 15 to 19 (fun V => Hid (RdInv w V g B a s3) ∧ Hid (Blk V w.heap.size 43 #[.int .u64 0, .slice none 0 0]) ∧ Hid (Blk V w1.heap.size 43 #[.int .u64 (e : Int), .slice none 0 0]))
  case first =>
    by_cases hp : n = 0
    · have HE := HS3.out
      rw [if_pos hp] at HE
      have HE2 := hid HE
      have d1 : ((n : Int) == 0) = true := by simp [hp]
      clear HE hp
      rw [d1]
      go_wp2_with fail
      refine (rd_fail _ hI2.out.rd 3 (s1.p : Int) (by omega)).mono ?_
      rintro r w3 ⟨rfl, hst⟩
      have hI3 := hid (hI2.out.step hst)
      have hR3 := hid (Blk.tch hR2.out hst.2 (by omega))
      have hP3 := hid (Blk.tch hP2.out hst.2 (by omega))
      clear hst
      go_wp2_with fail
      go_meet
      case rel => exact ⟨hid (by rw [HE2.out]; exact hI3.out), hR3, hP3⟩
    · have HE := HS3.out
      rw [if_neg hp] at HE
      have HE2 := hid HE
      have d1 : ((n : Int) == 0) = false := by simp [hp]
      clear HE hp
      rw [d1]
      go_wp2_with fail
      go_meet
      case rel => exact ⟨hid (by rw [HE2.out]; exact hI2.out), hR2, hP2⟩
  case rest =>
    obtain ⟨hI3, hR3, hP3⟩ := hcut
    obtain ⟨w3, hwn⟩ : ∃ W : World, W = wc := ⟨_, rfl⟩
    subst hwn
    have lP3 := hP3.out.lt
    go_wp2_with fail
    go_loopw [6, 21] (fun f i wr => ∃ (j : Nat) (J : List Stripe) (st : Rs) (lo : Int) (av : Option Addr) (cv : Nat), j ≤ n ∧ i = .int .i64 j ∧ f = .int .u64 lo ∧ 0 ≤ lo ∧ lo ≤ 18446744073709551615 ∧ Hid (J.length = j) ∧ Hid (OwnEls w3.heap.size rStripe w3.heap.size 219 3 wr (.slice av J.length cv) J) ∧ Hid (RdInv w wr g B a st) ∧ Hid (Blk wr w.heap.size 43 #[.int .u64 0, .slice none 0 0]) ∧ Hid (Blk wr w1.heap.size 43 #[.int .u64 (e : Int), .slice av J.length cv]) ∧ Hid (st.k = 0 → U = Rs.stripes_ B (n - j) st lo J) ∧ Hid (st.k ≠ 0 → U.1 = st) ∧ w3.heap.size ≤ wr.heap.size) (fun _ i _ => n - (intOf i).toNat)
    case atStart => exact ⟨0, [], s3, 0, none, 0, Nat.zero_le _, rfl, rfl, by omega, by omega, hid rfl, hid OwnEls.nil, hI3, hR3, hP3, hid (fun _ => HU.out), hid (fun hk => by rw [HU.out]; exact Rs.stripes_of_bad hk n), Nat.le_refl _⟩
    case round =>
      obtain ⟨j, J, st, lo, av, cv, hj, rfl, rfl, hl0, hl1, HJ, HO, hIr, hRr, hPr, HSP, HSN, hzr⟩ := hrel
      obtain ⟨x0, x1, f0, f1, l8⟩ := p2_blk hPr.out
      have lr := hRr.out.lt
      have hJ9 : J.length ≤ 64 := by have := HJ.out; omega
      rcases Nat.lt_or_ge j n with hlt2 | hge
      · have i1 : (j : Int) < (n : Int) := by omega
        have d1 : decide ((j : Int) < (n : Int)) = true := decide_eq_true i1
        have hsp1 : (st.stripe_ B lo).1.k = 0 → U = Rs.stripes_ B (n - (j + 1)) (st.stripe_ B lo).1 (st.stripe_ B lo).2.hi (J ++ [(st.stripe_ B lo).2]) := fun hk => by
          rw [HSP.out (Rs.stripe_k hk), show n - j = (n - (j + 1)) + 1 by omega]
          exact if_pos hk
        have hsn1 : (st.stripe_ B lo).1.k ≠ 0 → U.1 = (st.stripe_ B lo).1 := fun hk => by
          by_cases hs : st.k = 0
          · rw [HSP.out hs, show n - j = (n - (j + 1)) + 1 by omega]
            exact congrArg Prod.fst (if_neg hk)
          · rw [Rs.stripe_of_bad hs]
            exact HSN.out hs
        have hbu := Rs.stripe_u (B := B) (s := st) hl0
        have HSR := hid (stripe_read wr hIr.out.rd hB lo ⟨hl0, hl1⟩)
        generalize st.stripe_ B lo = T at *
        obtain ⟨s5, z⟩ := T
        dsimp only at *
        have HS1 := hid hsp1
        have HS2 := hid hsn1
        have HOB : Hid (∀ q, (Value.slice av J.length cv).ownBlock = some q → w3.heap.size ≤ q ∧ q < wr.heap.size) := hid (by
          obtain ⟨cells0, OA0⟩ := HO.out
          exact fun q e => own_lt OA0.1 q e)
        clear hsp1 hsn1
        go_wp2_with fail
        refine HSR.out.mono ?_
        rintro r w5 ⟨v5, rfl, hv5, hst⟩
        obtain ⟨a5, c5, hfv, hv5', _⟩ := sl_form hv5
        simp only [List.cons.injEq, and_true] at hfv
        subst hfv
        have hI5 := hid (hIr.out.step hst)
        have hR5 := hid (Blk.tch hRr.out hst.2 (by omega))
        have hP5 := hid (Blk.tch hPr.out hst.2 (by omega))
        have hO5 := hid (OwnEls.tchL HO.out hst.2 (fun b h1 h2 e => by omega))
        have hz5 := hst.2.size
        obtain ⟨y0, y1, g0, g1, l5⟩ := p2_blk hP5.out
        have hb68 : Below w5.heap.size w5 ((w5.alloc (.cells #[.int .u64 z.lo, .int .u64 z.hi, .slice a5 z.sets.length c5] 219)).alloc (.cells #[.int .u64 z.lo, .int .u64 z.hi, .slice a5 z.sets.length c5] 219)) := by (repeat (first | with_reducible exact Below.refl _ _ | with_reducible assumption | (with_reducible refine below_alloc ?_ _) | (with_reducible refine Below.setCell ?_ (by first | omega | (simp; done) | (simp; omega)) _) | (with_reducible refine Below.drew ?_) | (with_reducible refine below_drewN ?_ _) | (refine below_then (by with_reducible assumption) ?_)))
        obtain ⟨cells, OA⟩ := OwnEls.below hO5.out hb68
        have hx : rStripe.r (fun b => w3.heap.size ≤ b ∧ b < ((w5.alloc (.cells #[.int .u64 z.lo, .int .u64 z.hi, .slice a5 z.sets.length c5] 219)).alloc (.cells #[.int .u64 z.lo, .int .u64 z.hi, .slice a5 z.sets.length c5] 219)).heap.size ∧ (Value.slice av J.length cv).ownBlock ≠ some b) ((w5.alloc (.cells #[.int .u64 z.lo, .int .u64 z.hi, .slice a5 z.sets.length c5] 219)).alloc (.cells #[.int .u64 z.lo, .int .u64 z.hi, .slice a5 z.sets.length c5] 219)) [.int .u64 z.lo, .int .u64 z.hi, .slice a5 z.sets.length c5] z := by
          refine stripe_mk hbu.1 hbu.2 (rSets.mono (rSets.keep hv5 fun b hb => hb68.block b hb.2) fun b hb => ⟨?_, ?_, fun e => ?_⟩)
          · have := hb.1; omega
          · have := hb.2; simp; omega
          · have := (HOB.out b e).2; have := hb.1; omega
        have HX := hid hx
        have HA := hid OA
        have HS9 : Hid (w3.heap.size ≤ ((w5.alloc (.cells #[.int .u64 z.lo, .int .u64 z.hi, .slice a5 z.sets.length c5] 219)).alloc (.cells #[.int .u64 z.lo, .int .u64 z.hi, .slice a5 z.sets.length c5] 219)).heap.size) := hid (by simp; omega)
        have Q6 : Blk ((w5.alloc (.cells #[.int .u64 z.lo, .int .u64 z.hi, .slice a5 z.sets.length c5] 219)).alloc (.cells #[.int .u64 z.lo, .int .u64 z.hi, .slice a5 z.sets.length c5] 219)) w5.heap.size 219 #[.int .u64 z.lo, .int .u64 z.hi, .slice a5 z.sets.length c5] := by (repeat (first | assumption | exact Blk.newAt _ _ _ (by first | (simp; done) | (simp; omega)) | refine Blk.alloc ?_ _ | refine Blk.drew ?_ | refine Blk.drewN ?_ _ | refine Blk.far ?_ (by first | (simp; done) | (simp; omega)) _))
        have HQ6 := hid Q6
        clear hx OA hst hv5 hv5' Q6 x0 x1 f0 f1
        go_wp2_with (at_builtin; go_loud (refine wpList_append_src rfl _ _ _ rfl w3.heap.size 219 j0 (.agg #[.int .u64 0, .int .u64 0, .slice none 0 0]) 3 40 Tryz.underlying41 ji jz0 jz1 jz2 rfl (by decide) (.slice av J.length cv) J.length _ rfl HA.out.1 (some ⟨w5.heap.size + 1, 0, none⟩) 1 1 [.int .u64 z.lo, .int .u64 z.hi, .slice a5 z.sets.length c5] rfl (src_new1 (w5.alloc (.cells #[.int .u64 z.lo, .int .u64 z.hi, .slice a5 z.sets.length c5] 219)) 219 _ rfl (by simp) rfl) (by intro u hu; simp at hu; rcases hu with rfl | rfl | rfl <;> rfl) (by simp only [maxLen]; omega) (by omega) HS9.out ?_; intro v9 w9 hown9 hgrow9 hat9; obtain ⟨a9, c9, rfl⟩ := own_form hown9; have OP := hid (OwnEls.push HA.out rfl HX.out hown9 hgrow9 hat9 hgrow9.size); have hb9 := hid (show Below w3.heap.size w5 w9 from Below.grown (hb68.mono (by omega)) hgrow9 HS9.out (fun g e => (HOB.out g e).1)); have hz9 := hgrow9.size; simp at hz9; have hQ9 : Blk w9 w5.heap.size 219 #[.int .u64 z.lo, .int .u64 z.hi, .slice a5 z.sets.length c5] := (hgrow9.block w5.heap.size (by simp; omega) (fun e => by have := (HOB.out _ e.symm).2; omega)).trans HQ6.out; have hP9 := hP5.out.below hb9.out (by omega); obtain ⟨n0, n1, n2, n3, n4⟩ := p2_blk hP9; obtain ⟨q0, q1, q2, _, _, _, lq⟩ := s_blk (Blk.far hQ9 (p := ⟨w1.heap.size, 1, none⟩) (by dsimp only; omega) (.slice a9 (J.length + 1) c9)); have HP9 := hid hP9; clear hown9 hgrow9 hat9 hQ9 hP9 y0 y1 g0 g1 l5))
        have HO9 := hid (OwnEls.tchL OP.out ((Tch.refl (· = w1.heap.size) w9).setCell (p := ⟨w1.heap.size, 1, none⟩) (fun _ => rfl) (.slice a9 (J.length + 1) c9)) (fun b h1 h2 e => by omega))
        go_roundw
        case rel => exact ⟨j + 1, J ++ [z], s5, z.hi, a9, c9, by omega, by go_num, rfl, hbu.2.1, hbu.2.2, hid (by rw [List.length_append, HJ.out]; rfl), hid (by rw [List.length_append]; exact HO9.out), hid ((hI5.out.row (hb9.out.mono (by omega))).row (by (repeat (first | with_reducible exact Below.refl _ _ | with_reducible assumption | (with_reducible refine below_alloc ?_ _) | (with_reducible refine Below.setCell ?_ (by first | omega | (simp; done) | (simp; omega)) _) | (with_reducible refine Below.drew ?_) | (with_reducible refine below_drewN ?_ _) | (refine below_then (by with_reducible assumption) ?_))))), hid (Blk.far (hR5.out.below hb9.out (by omega)) (by dsimp only; omega) _), hid (by rw [List.length_append]; exact HP9.out.set 1 _), HS1, HS2, by rw [size_set1]; omega⟩
        case measure => (simp [intOf]; try omega)
      · obtain rfl : j = n := by omega
        have d1 : decide ((j : Int) < (j : Int)) = false := decide_eq_false (by omega)
        by_cases hk : st.k = 0
        · have HE := HSP.out hk
          rw [Nat.sub_self] at HE
          have HE2 : U = (st, lo, J) := HE
          clear HE
          by_cases hm : lo = 4611686018427387904
          · have HR2 : Hid (RES = (st, ⟨(e : Int), J⟩)) := hid (by
              rw [← HRES.out, HE2]
              dsimp only
              rw [if_pos hm]
              exact if_pos hk)
            have dn : (lo != 4611686018427387904) = false := by simp [hm]
            have HG := hid (fun (W : World) (hW : RdAt W g B a st) => (by have := rd_good W hW; rw [decide_eq_true hk] at this; exact this : Calls Tryz.prog 112 #[.pointer (some ⟨g, 0, none⟩)] W fun r w' => r = .returned (.bool true) ∧ Below W.heap.size W w'))
            clear hm hk HE2
            go_wp2_with fail
            refine (HG.out _ hIr.out.rd).mono ?_
            rintro r w11 ⟨rfl, hb11⟩
            have hz11 := hb11.size
            have HI11 := hid (hIr.out.row (hb11.mono (by omega)))
            have HP11 := hPr.out.later hb11
            have HR11 := hRr.out.later hb11
            have HO11 := hid (OwnEls.slice (Nat.le_refl _) (OwnEls.below HO.out hb11))
            clear x0 x1 f0 f1 l8 hb11
            obtain ⟨x0, x1, f0, f1, l8⟩ := p2_blk HP11
            obtain ⟨r0, r1, g0, g1, lr2⟩ := p2_blk HR11
            go_wp2_with fail
            obtain ⟨n0, n1, _, _, ln⟩ := p2_blk ((HR11.set 0 (.int .u64 (e : Int))).set 1 (.slice av J.length cv))
            rw [HR2.out]
            refine bodyPost_ret (v := .agg #[.int .u64 (e : Int), .slice av J.length cv]) (by simp [results, Tryz.results319, go_sem, n0, n1, ln]) rfl ⟨_, rfl, ?_, (HI11.out.row (by (repeat (first | with_reducible exact Below.refl _ _ | with_reducible assumption | (with_reducible refine below_alloc ?_ _) | (with_reducible refine Below.setCell ?_ (by first | omega | (simp; done) | (simp; omega)) _) | (with_reducible refine Below.drew ?_) | (with_reducible refine below_drewN ?_ _) | (refine below_then (by with_reducible assumption) ?_))))).to⟩
            refine rStripes.mono (rStripes.keep HO11.out fun b hb => ?_) fun b hb => ⟨by have := hb.1; omega, by have := hb.2; simp; omega⟩
            have := hb.1
            repeat rw [Below.heap_setCell _ _ _ _ (by dsimp only; omega)]
          · have hfk : (st.fail 3 (st.p : Int)).k ≠ 0 := Rs.fail_k (by omega)
            have HR2 : Hid (RES = (st.fail 3 (st.p : Int), noProj)) := hid (by
              rw [← HRES.out, HE2]
              dsimp only
              rw [if_neg hm]
              exact if_neg hfk)
            have dn : (lo != 4611686018427387904) = true := by simp [hm]
            have HFA := hid (fun (W : World) (hW : RdAt W g B a st) => rd_fail W hW 3 (st.p : Int) (by omega))
            have HAS := hid (fun (W : World) (hW : RdAt W g B a st) => rd_at W hW)
            have HG := hid (fun (W : World) (hW : RdAt W g B a (st.fail 3 (st.p : Int))) => (by have := rd_good W hW; rw [decide_eq_false hfk] at this; exact this : Calls Tryz.prog 112 #[.pointer (some ⟨g, 0, none⟩)] W fun r w' => r = .returned (.bool false) ∧ Below W.heap.size W w'))
            clear hm hk hfk HE2
            go_wp2_with fail
            refine (HAS.out _ hIr.out.rd).mono ?_
            rintro r wr' ⟨rfl, rfl⟩
            go_wp2_with fail
            refine (HFA.out _ hIr.out.rd).mono ?_
            rintro r w10 ⟨rfl, hst⟩
            have hI10 := hid (hIr.out.step hst)
            have hR10 := hid (Blk.tch hRr.out hst.2 (by omega))
            clear hst
            go_wp2_with fail
            refine (HG.out _ hI10.out.rd).mono ?_
            rintro r w11 ⟨rfl, hb11⟩
            have HI11 := hid (hI10.out.row (hb11.mono (by have := hI10.out.tch.size; omega)))
            have HR11 := hid (hR10.out.later hb11)
            clear hb11 x0 x1 f0 f1 l8
            obtain ⟨r0, r1, g0, g1, lr2⟩ := p2_blk HR11.out
            go_wp2_with fail
            obtain ⟨n0, n1, _, _, ln⟩ := p2_blk ((HR11.out.set 0 (.int .u64 0)).set 1 (.slice none 0 0))
            rw [HR2.out]
            refine bodyPost_ret (v := .agg #[.int .u64 0, .slice none 0 0]) (by simp [results, Tryz.results319, go_sem, n0, n1, ln]) rfl ⟨_, rfl, rSl_mk (xs := []) rfl (Nat.le_refl _) (Nat.zero_le _) (.inl rfl), (HI11.out.row (by (repeat (first | with_reducible exact Below.refl _ _ | with_reducible assumption | (with_reducible refine below_alloc ?_ _) | (with_reducible refine Below.setCell ?_ (by first | omega | (simp; done) | (simp; omega)) _) | (with_reducible refine Below.drew ?_) | (with_reducible refine below_drewN ?_ _) | (refine below_then (by with_reducible assumption) ?_))))).to⟩
        · have HE := HSN.out hk
          have hfb : st.fail 3 (st.p : Int) = st := Rs.fail_of_bad hk
          have HR2 : Hid (RES = (st, noProj)) := hid (by
            rw [← HRES.out, HE, hfb, ite_self]
            exact if_neg hk)
          have HG := hid (fun (W : World) (hW : RdAt W g B a st) => (by have := rd_good W hW; rw [decide_eq_false hk] at this; exact this : Calls Tryz.prog 112 #[.pointer (some ⟨g, 0, none⟩)] W fun r w' => r = .returned (.bool false) ∧ Below W.heap.size W w'))
          have HFB := hid hfb
          clear hk HE hfb
          by_cases hm : lo = 4611686018427387904
          · have dn : (lo != 4611686018427387904) = false := by simp [hm]
            clear hm
            go_wp2_with fail
            refine (HG.out _ hIr.out.rd).mono ?_
            rintro r w11 ⟨rfl, hb11⟩
            have HI11 := hid (hIr.out.row (hb11.mono (by omega)))
            have HR11 := hid (hRr.out.later hb11)
            clear hb11 x0 x1 f0 f1 l8
            obtain ⟨r0, r1, g0, g1, lr2⟩ := p2_blk HR11.out
            go_wp2_with fail
            obtain ⟨n0, n1, _, _, ln⟩ := p2_blk ((HR11.out.set 0 (.int .u64 0)).set 1 (.slice none 0 0))
            rw [HR2.out]
            refine bodyPost_ret (v := .agg #[.int .u64 0, .slice none 0 0]) (by simp [results, Tryz.results319, go_sem, n0, n1, ln]) rfl ⟨_, rfl, rSl_mk (xs := []) rfl (Nat.le_refl _) (Nat.zero_le _) (.inl rfl), (HI11.out.row (by (repeat (first | with_reducible exact Below.refl _ _ | with_reducible assumption | (with_reducible refine below_alloc ?_ _) | (with_reducible refine Below.setCell ?_ (by first | omega | (simp; done) | (simp; omega)) _) | (with_reducible refine Below.drew ?_) | (with_reducible refine below_drewN ?_ _) | (refine below_then (by with_reducible assumption) ?_))))).to⟩
          · have dn : (lo != 4611686018427387904) = true := by simp [hm]
            clear hm
            have HFA := hid (fun (W : World) (hW : RdAt W g B a st) => (by have := rd_fail W hW 3 (st.p : Int) (by omega); rw [HFB.out] at this; exact this : Calls Tryz.prog 124 #[.pointer (some ⟨g, 0, none⟩), .int .i64 3, .int .i64 (st.p : Int)] W fun r w' => r = .returned (.tuple #[]) ∧ RdStep W g B a st w'))
            have HAS := hid (fun (W : World) (hW : RdAt W g B a st) => rd_at W hW)
            go_wp2_with fail
            refine (HAS.out _ hIr.out.rd).mono ?_
            rintro r wr' ⟨rfl, rfl⟩
            go_wp2_with fail
            refine (HFA.out _ hIr.out.rd).mono ?_
            rintro r w10 ⟨rfl, hst⟩
            have hI10 := hid (hIr.out.step hst)
            have hR10 := hid (Blk.tch hRr.out hst.2 (by omega))
            clear hst
            go_wp2_with fail
            refine (HG.out _ hI10.out.rd).mono ?_
            rintro r w11 ⟨rfl, hb11⟩
            have HI11 := hid (hI10.out.row (hb11.mono (by have := hI10.out.tch.size; omega)))
            have HR11 := hid (hR10.out.later hb11)
            clear hb11 x0 x1 f0 f1 l8
            obtain ⟨r0, r1, g0, g1, lr2⟩ := p2_blk HR11.out
            go_wp2_with fail
            obtain ⟨n0, n1, _, _, ln⟩ := p2_blk ((HR11.out.set 0 (.int .u64 0)).set 1 (.slice none 0 0))
            rw [HR2.out]
            refine bodyPost_ret (v := .agg #[.int .u64 0, .slice none 0 0]) (by simp [results, Tryz.results319, go_sem, n0, n1, ln]) rfl ⟨_, rfl, rSl_mk (xs := []) rfl (Nat.le_refl _) (Nat.zero_le _) (.inl rfl), (HI11.out.row (by (repeat (first | with_reducible exact Below.refl _ _ | with_reducible assumption | (with_reducible refine below_alloc ?_ _) | (with_reducible refine Below.setCell ?_ (by first | omega | (simp; done) | (simp; omega)) _) | (with_reducible refine Below.drew ?_) | (with_reducible refine below_drewN ?_ _) | (refine below_then (by with_reducible assumption) ?_))))).to⟩

/-- What stays while the stripes are read. -/
structure Prj20 (w : World) (a : Option Addr) (n c : Nat) (g6 g8 L0 : Nat) (e : Int) (st : Rs) (v : Value) (J : List Stripe) (W : World) : Prop where
  d : Blk W g6 91 #[.slice a n c, .int .i64 (st.p : Int), .int .i64 st.k, .int .i64 st.f]
  s : Blk W g8 43 #[.int .u64 e, v]
  r4 : Blk W (w.heap.size + 1) 91 #[.slice none 0 0, .int .i64 0, .int .i64 0, .int .i64 0]
  r5 : Blk W (w.heap.size + 1 + 1) 43 #[.int .u64 0, .slice none 0 0]
  own : OwnEls L0 rStripe L0 219 3 W v J
  bel : Below w.heap.size w W
  le : L0 ≤ W.heap.size
theorem Prj20.later {w W W' : World} {a : Option Addr} {n c g6 g8 L0 : Nat} {e : Int} {st : Rs} {v : Value} {J : List Stripe} (h : Prj20 w a n c g6 g8 L0 e st v J W) (hb : Below W.heap.size W W') : Prj20 w a n c g6 g8 L0 e st v J W' :=
  ⟨h.d.later hb, h.s.later hb, h.r4.later hb, h.r5.later hb, OwnEls.below h.own hb, below_then hb h.bel, Nat.le_trans h.le hb.size⟩


theorem setsR_pre (L : List (List Int)) : ∀ n k, k ≤ n → setsR L n = true → setsR L k = true
  | 0, k, h, hs => by rw [show k = 0 by omega]; rfl
  | n + 1, k, h, hs => by
    by_cases hk : k = n + 1
    · rw [hk]; exact hs
    · simp only [setsR, Bool.and_eq_true] at hs
      exact setsR_pre L n k (by omega) hs.1

set_option maxRecDepth 100000 in
set_option maxHeartbeats 6400000 in
theorem stripe_right (lo hi : Int) (L : List (List Int)) (a : Option Addr) (n c : Nat) (w : World) (hl : rSets.r (· < w.heap.size) w [.slice a n c] L) :
    Calls Tryz.prog 341 #[.agg #[.int .u64 lo, .int .u64 hi, .slice a n c]] w fun r w' => r = .returned (.bool (stripeR ⟨lo, hi, L⟩)) ∧ Below w.heap.size w w' := by
  obtain ⟨rfl, hm, hcc, hcm⟩ := sl_len hl
  have HL := hid hl
  clear hl
  by_cases h1 : lo < hi
  · have d1' : decide (lo < hi) = true := decide_eq_true h1
    by_cases h2 : hi ≤ 4611686018427387904
    · have d2' : decide (hi ≤ 4611686018427387904) = true := decide_eq_true h2
      by_cases h3 : 1 ≤ L.length
      · have d3' : decide ((1 : Int) ≤ (L.length : Int)) = true := decide_eq_true (by omega)
        by_cases h4 : L.length ≤ 8
        · have d4' : decide ((L.length : Int) ≤ 8) = true := decide_eq_true (by omega)
          have hG : decide (lo < hi ∧ hi ≤ 4611686018427387904 ∧ 1 ≤ L.length ∧ L.length ≤ 8) = true := decide_eq_true ⟨h1, h2, h3, h4⟩
          go_enter Tryz.func341, Tryz.ntmps341
          have hff : Hid (stripeR ⟨lo, hi, L⟩ = (true && setsR L L.length)) := hid (by unfold stripeR; dsimp only; rw [hG])
          have x0 : (w.alloc (.cells #[.int .u64 lo, .int .u64 hi, .slice a L.length c] 219)).cell? ⟨w.heap.size, 2, none⟩ = some (.slice a L.length c) := by simp
          have hb0 : Below w.heap.size w (w.alloc (.cells #[.int .u64 lo, .int .u64 hi, .slice a L.length c] 219)) := by (repeat (first | exact Below.refl _ _ | assumption | (refine below_alloc ?_ _) | (refine Below.setCell ?_ (by first | omega | (simp; done) | (simp; omega)) _) | (refine Below.drew ?_) | (refine below_drewN ?_ _) | (refine below_then (by assumption) ?_)))
          have hs0 : w.heap.size < (w.alloc (.cells #[.int .u64 lo, .int .u64 hi, .slice a L.length c] 219)).heap.size := by simp
          go_wp2_with fail
          refine wp_scope_straight ?_
          go_wp2_with fail
          refine wp_label ?_
          go_wp2_with fail
          generalize w.alloc (.cells #[.int .u64 lo, .int .u64 hi, .slice a L.length c] 219) = w0 at *
          have HB0 := hid hb0
          clear hb0
          go_loopw [3, 31] (fun g i wr => ∃ k : Nat, k ≤ L.length ∧ i = .int .i64 k ∧ g = .bool (true && setsR L k) ∧ Below w0.heap.size w0 wr) (fun _ i _ => L.length - (intOf i).toNat)
          case atStart => exact ⟨0, Nat.zero_le _, rfl, by simp [setsR], Below.refl _ _⟩
          case round =>
            obtain ⟨k, hk, rfl, rfl, hb⟩ := hrel
            have HB := hid hb
            have HBW := hid (HB0.out.trans (hb.mono HB0.out.size))
            have hsz := hb.size
            by_cases hlt : k < L.length
            · have i1 : (k : Int) < (L.length : Int) := by omega
              have i2 : (k : Int) ≤ (c : Int) := by omega
              have d1 : decide ((k : Int) < (L.length : Int)) = true := decide_eq_true i1
              have X0 := (hb.cell (p := ⟨w.heap.size, 2, none⟩) hs0).trans x0
              obtain ⟨b, o, hA, hbb, ak, ck, u0, xl⟩ := set_at (lift HL.out HBW.out) hlt
              subst hA
              have hmono : (true && setsR L k) = false → (true && setsR L L.length) = false := fun h => by
                cases hg : true
                · rfl
                · rw [hg] at h
                  rcases hh : setsR L L.length with _ | _
                  · rfl
                  · exfalso
                    have := setsR_pre L L.length k (by omega) hh
                    rw [this] at h; cases h
              have hstep : setsR L (k + 1) = (setsR L k && (nodesR L[k] && apartR L[k] (L.take k))) := by
                show (setsR L k && setR L k) = _
                unfold setR; rw [getD_at L k [] hlt]
              have HN := hid (stripe_nodes L[k] ak _ ck wr xl)
              have HAP := hid (fun (W : World) (hW : Below wr.heap.size wr W) => stripe_apart L[k] (L.take k) ak _ ck (some ⟨b, o, none⟩) k c W (lift xl hW) (sl_take (lift (lift HL.out HBW.out) hW) (by omega)))
              have HMO := hid hmono
              have HST := hid hstep
              have hc0 : k ≤ c := by omega
              obtain ⟨s1, hs1⟩ : ∃ s1, setsR L (k + 1) = s1 := ⟨_, rfl⟩
              have HS1 := hid hs1
              rw [hs1] at HST
              clear hs1
              generalize setsR L k = s0 at *
              generalize nodesR L[k] = nn at *
              generalize apartR L[k] (L.take k) = ap at *
              generalize L[k] = X at *
              clear hb xl hmono hstep
              rcases hg : (true && s0) with _ | _
              · have hfin := hid (HMO.out hg)
                clear hg
                go_wp2_with fail
                (try simp only [Exit.noGoto])
                (try go_wp2_with fail)
                go_ret
                exact ⟨by rw [hff.out, hfin.out]; rfl, HBW.out⟩
              · have hg2 : (true && s1) = (nn && ap) := by
                  rw [HST.out, ← Bool.and_assoc, hg, Bool.true_and]
                have HG2 := hid hg2
                clear hg hg2
                cases nn
                · go_wp2_with fail
                  refine HN.out.mono ?_
                  rintro r w3 ⟨rfl, hb3⟩
                  have hbe := below_then hb3 HB.out
                  go_wp2_with fail
                  go_roundw
                  case rel => exact ⟨k + 1, by omega, by go_num, by rw [HS1.out, HG2.out]; rfl, hbe⟩
                  case measure => (simp [intOf]; try omega)
                · go_wp2_with fail
                  refine HN.out.mono ?_
                  rintro r w3 ⟨rfl, hb3⟩
                  have Y0 := (hb3.cell (p := ⟨w.heap.size, 2, none⟩) (by dsimp only; omega)).trans X0
                  have hbe := below_then hb3 HB.out
                  have HA2 := hid (HAP.out w3 hb3)
                  go_wp2_with fail
                  refine HA2.out.mono ?_
                  rintro r w4 ⟨rfl, hb4⟩
                  have hbf := below_then hb4 hbe
                  go_wp2_with fail
                  go_roundw
                  case rel => exact ⟨k + 1, by omega, by go_num, by rw [HS1.out, HG2.out]; rfl, hbf⟩
                  case measure => (simp [intOf]; try omega)
            · obtain rfl : k = L.length := by omega
              have d1 : decide ((L.length : Int) < (L.length : Int)) = false := decide_eq_false (by omega)
              clear hb
              go_wp2_with fail
              (try simp only [Exit.noGoto])
              (try go_wp2_with fail)
              go_ret
              exact ⟨by rw [hff.out]; first | done | rfl | (simp; done) | simp [Exit.noGoto], HBW.out⟩
        · have d4' : decide ((L.length : Int) ≤ 8) = false := decide_eq_false (by omega)
          have hG : decide (lo < hi ∧ hi ≤ 4611686018427387904 ∧ 1 ≤ L.length ∧ L.length ≤ 8) = false := decide_eq_false (by omega)
          go_enter Tryz.func341, Tryz.ntmps341
          have hff : Hid (stripeR ⟨lo, hi, L⟩ = (false && setsR L L.length)) := hid (by unfold stripeR; dsimp only; rw [hG])
          have x0 : (w.alloc (.cells #[.int .u64 lo, .int .u64 hi, .slice a L.length c] 219)).cell? ⟨w.heap.size, 2, none⟩ = some (.slice a L.length c) := by simp
          have hb0 : Below w.heap.size w (w.alloc (.cells #[.int .u64 lo, .int .u64 hi, .slice a L.length c] 219)) := by (repeat (first | exact Below.refl _ _ | assumption | (refine below_alloc ?_ _) | (refine Below.setCell ?_ (by first | omega | (simp; done) | (simp; omega)) _) | (refine Below.drew ?_) | (refine below_drewN ?_ _) | (refine below_then (by assumption) ?_)))
          have hs0 : w.heap.size < (w.alloc (.cells #[.int .u64 lo, .int .u64 hi, .slice a L.length c] 219)).heap.size := by simp
          go_wp2_with fail
          refine wp_scope_straight ?_
          go_wp2_with fail
          refine wp_label ?_
          go_wp2_with fail
          generalize w.alloc (.cells #[.int .u64 lo, .int .u64 hi, .slice a L.length c] 219) = w0 at *
          have HB0 := hid hb0
          clear hb0
          go_loopw [3, 31] (fun g i wr => ∃ k : Nat, k ≤ L.length ∧ i = .int .i64 k ∧ g = .bool (false && setsR L k) ∧ Below w0.heap.size w0 wr) (fun _ i _ => L.length - (intOf i).toNat)
          case atStart => exact ⟨0, Nat.zero_le _, rfl, by simp [setsR], Below.refl _ _⟩
          case round =>
            obtain ⟨k, hk, rfl, rfl, hb⟩ := hrel
            have HB := hid hb
            have HBW := hid (HB0.out.trans (hb.mono HB0.out.size))
            have hsz := hb.size
            by_cases hlt : k < L.length
            · have i1 : (k : Int) < (L.length : Int) := by omega
              have i2 : (k : Int) ≤ (c : Int) := by omega
              have d1 : decide ((k : Int) < (L.length : Int)) = true := decide_eq_true i1
              have X0 := (hb.cell (p := ⟨w.heap.size, 2, none⟩) hs0).trans x0
              obtain ⟨b, o, hA, hbb, ak, ck, u0, xl⟩ := set_at (lift HL.out HBW.out) hlt
              subst hA
              have hmono : (false && setsR L k) = false → (false && setsR L L.length) = false := fun _ => rfl
              have hstep : setsR L (k + 1) = (setsR L k && (nodesR L[k] && apartR L[k] (L.take k))) := by
                show (setsR L k && setR L k) = _
                unfold setR; rw [getD_at L k [] hlt]
              have HN := hid (stripe_nodes L[k] ak _ ck wr xl)
              have HAP := hid (fun (W : World) (hW : Below wr.heap.size wr W) => stripe_apart L[k] (L.take k) ak _ ck (some ⟨b, o, none⟩) k c W (lift xl hW) (sl_take (lift (lift HL.out HBW.out) hW) (by omega)))
              have HMO := hid hmono
              have HST := hid hstep
              have hc0 : k ≤ c := by omega
              obtain ⟨s1, hs1⟩ : ∃ s1, setsR L (k + 1) = s1 := ⟨_, rfl⟩
              have HS1 := hid hs1
              rw [hs1] at HST
              clear hs1
              generalize setsR L k = s0 at *
              generalize nodesR L[k] = nn at *
              generalize apartR L[k] (L.take k) = ap at *
              generalize L[k] = X at *
              clear hb xl hmono hstep
              rcases hg : (false && s0) with _ | _
              · have hfin := hid (HMO.out hg)
                clear hg
                go_wp2_with fail
                (try simp only [Exit.noGoto])
                (try go_wp2_with fail)
                go_ret
                exact ⟨by rw [hff.out, hfin.out]; rfl, HBW.out⟩
              · exfalso; simp at hg
            · obtain rfl : k = L.length := by omega
              have d1 : decide ((L.length : Int) < (L.length : Int)) = false := decide_eq_false (by omega)
              clear hb
              go_wp2_with fail
              (try simp only [Exit.noGoto])
              (try go_wp2_with fail)
              go_ret
              exact ⟨by rw [hff.out]; first | done | rfl | (simp; done) | simp [Exit.noGoto], HBW.out⟩
      · have d3' : decide ((1 : Int) ≤ (L.length : Int)) = false := decide_eq_false (by omega)
        have hG : decide (lo < hi ∧ hi ≤ 4611686018427387904 ∧ 1 ≤ L.length ∧ L.length ≤ 8) = false := decide_eq_false (by omega)
        go_enter Tryz.func341, Tryz.ntmps341
        have hff : Hid (stripeR ⟨lo, hi, L⟩ = (false && setsR L L.length)) := hid (by unfold stripeR; dsimp only; rw [hG])
        have x0 : (w.alloc (.cells #[.int .u64 lo, .int .u64 hi, .slice a L.length c] 219)).cell? ⟨w.heap.size, 2, none⟩ = some (.slice a L.length c) := by simp
        have hb0 : Below w.heap.size w (w.alloc (.cells #[.int .u64 lo, .int .u64 hi, .slice a L.length c] 219)) := by (repeat (first | exact Below.refl _ _ | assumption | (refine below_alloc ?_ _) | (refine Below.setCell ?_ (by first | omega | (simp; done) | (simp; omega)) _) | (refine Below.drew ?_) | (refine below_drewN ?_ _) | (refine below_then (by assumption) ?_)))
        have hs0 : w.heap.size < (w.alloc (.cells #[.int .u64 lo, .int .u64 hi, .slice a L.length c] 219)).heap.size := by simp
        go_wp2_with fail
        refine wp_scope_straight ?_
        go_wp2_with fail
        refine wp_label ?_
        go_wp2_with fail
        generalize w.alloc (.cells #[.int .u64 lo, .int .u64 hi, .slice a L.length c] 219) = w0 at *
        have HB0 := hid hb0
        clear hb0
        go_loopw [3, 31] (fun g i wr => ∃ k : Nat, k ≤ L.length ∧ i = .int .i64 k ∧ g = .bool (false && setsR L k) ∧ Below w0.heap.size w0 wr) (fun _ i _ => L.length - (intOf i).toNat)
        case atStart => exact ⟨0, Nat.zero_le _, rfl, by simp [setsR], Below.refl _ _⟩
        case round =>
          obtain ⟨k, hk, rfl, rfl, hb⟩ := hrel
          have HB := hid hb
          have HBW := hid (HB0.out.trans (hb.mono HB0.out.size))
          have hsz := hb.size
          by_cases hlt : k < L.length
          · have i1 : (k : Int) < (L.length : Int) := by omega
            have i2 : (k : Int) ≤ (c : Int) := by omega
            have d1 : decide ((k : Int) < (L.length : Int)) = true := decide_eq_true i1
            have X0 := (hb.cell (p := ⟨w.heap.size, 2, none⟩) hs0).trans x0
            obtain ⟨b, o, hA, hbb, ak, ck, u0, xl⟩ := set_at (lift HL.out HBW.out) hlt
            subst hA
            have hmono : (false && setsR L k) = false → (false && setsR L L.length) = false := fun _ => rfl
            have hstep : setsR L (k + 1) = (setsR L k && (nodesR L[k] && apartR L[k] (L.take k))) := by
              show (setsR L k && setR L k) = _
              unfold setR; rw [getD_at L k [] hlt]
            have HN := hid (stripe_nodes L[k] ak _ ck wr xl)
            have HAP := hid (fun (W : World) (hW : Below wr.heap.size wr W) => stripe_apart L[k] (L.take k) ak _ ck (some ⟨b, o, none⟩) k c W (lift xl hW) (sl_take (lift (lift HL.out HBW.out) hW) (by omega)))
            have HMO := hid hmono
            have HST := hid hstep
            have hc0 : k ≤ c := by omega
            obtain ⟨s1, hs1⟩ : ∃ s1, setsR L (k + 1) = s1 := ⟨_, rfl⟩
            have HS1 := hid hs1
            rw [hs1] at HST
            clear hs1
            generalize setsR L k = s0 at *
            generalize nodesR L[k] = nn at *
            generalize apartR L[k] (L.take k) = ap at *
            generalize L[k] = X at *
            clear hb xl hmono hstep
            rcases hg : (false && s0) with _ | _
            · have hfin := hid (HMO.out hg)
              clear hg
              go_wp2_with fail
              (try simp only [Exit.noGoto])
              (try go_wp2_with fail)
              go_ret
              exact ⟨by rw [hff.out, hfin.out]; rfl, HBW.out⟩
            · exfalso; simp at hg
          · obtain rfl : k = L.length := by omega
            have d1 : decide ((L.length : Int) < (L.length : Int)) = false := decide_eq_false (by omega)
            clear hb
            go_wp2_with fail
            (try simp only [Exit.noGoto])
            (try go_wp2_with fail)
            go_ret
            exact ⟨by rw [hff.out]; first | done | rfl | (simp; done) | simp [Exit.noGoto], HBW.out⟩
    · have d2' : decide (hi ≤ 4611686018427387904) = false := decide_eq_false h2
      have hG : decide (lo < hi ∧ hi ≤ 4611686018427387904 ∧ 1 ≤ L.length ∧ L.length ≤ 8) = false := decide_eq_false (by omega)
      go_enter Tryz.func341, Tryz.ntmps341
      have hff : Hid (stripeR ⟨lo, hi, L⟩ = (false && setsR L L.length)) := hid (by unfold stripeR; dsimp only; rw [hG])
      have x0 : (w.alloc (.cells #[.int .u64 lo, .int .u64 hi, .slice a L.length c] 219)).cell? ⟨w.heap.size, 2, none⟩ = some (.slice a L.length c) := by simp
      have hb0 : Below w.heap.size w (w.alloc (.cells #[.int .u64 lo, .int .u64 hi, .slice a L.length c] 219)) := by (repeat (first | exact Below.refl _ _ | assumption | (refine below_alloc ?_ _) | (refine Below.setCell ?_ (by first | omega | (simp; done) | (simp; omega)) _) | (refine Below.drew ?_) | (refine below_drewN ?_ _) | (refine below_then (by assumption) ?_)))
      have hs0 : w.heap.size < (w.alloc (.cells #[.int .u64 lo, .int .u64 hi, .slice a L.length c] 219)).heap.size := by simp
      go_wp2_with fail
      refine wp_scope_straight ?_
      go_wp2_with fail
      refine wp_label ?_
      go_wp2_with fail
      generalize w.alloc (.cells #[.int .u64 lo, .int .u64 hi, .slice a L.length c] 219) = w0 at *
      have HB0 := hid hb0
      clear hb0
      go_loopw [3, 31] (fun g i wr => ∃ k : Nat, k ≤ L.length ∧ i = .int .i64 k ∧ g = .bool (false && setsR L k) ∧ Below w0.heap.size w0 wr) (fun _ i _ => L.length - (intOf i).toNat)
      case atStart => exact ⟨0, Nat.zero_le _, rfl, by simp [setsR], Below.refl _ _⟩
      case round =>
        obtain ⟨k, hk, rfl, rfl, hb⟩ := hrel
        have HB := hid hb
        have HBW := hid (HB0.out.trans (hb.mono HB0.out.size))
        have hsz := hb.size
        by_cases hlt : k < L.length
        · have i1 : (k : Int) < (L.length : Int) := by omega
          have i2 : (k : Int) ≤ (c : Int) := by omega
          have d1 : decide ((k : Int) < (L.length : Int)) = true := decide_eq_true i1
          have X0 := (hb.cell (p := ⟨w.heap.size, 2, none⟩) hs0).trans x0
          obtain ⟨b, o, hA, hbb, ak, ck, u0, xl⟩ := set_at (lift HL.out HBW.out) hlt
          subst hA
          have hmono : (false && setsR L k) = false → (false && setsR L L.length) = false := fun _ => rfl
          have hstep : setsR L (k + 1) = (setsR L k && (nodesR L[k] && apartR L[k] (L.take k))) := by
            show (setsR L k && setR L k) = _
            unfold setR; rw [getD_at L k [] hlt]
          have HN := hid (stripe_nodes L[k] ak _ ck wr xl)
          have HAP := hid (fun (W : World) (hW : Below wr.heap.size wr W) => stripe_apart L[k] (L.take k) ak _ ck (some ⟨b, o, none⟩) k c W (lift xl hW) (sl_take (lift (lift HL.out HBW.out) hW) (by omega)))
          have HMO := hid hmono
          have HST := hid hstep
          have hc0 : k ≤ c := by omega
          obtain ⟨s1, hs1⟩ : ∃ s1, setsR L (k + 1) = s1 := ⟨_, rfl⟩
          have HS1 := hid hs1
          rw [hs1] at HST
          clear hs1
          generalize setsR L k = s0 at *
          generalize nodesR L[k] = nn at *
          generalize apartR L[k] (L.take k) = ap at *
          generalize L[k] = X at *
          clear hb xl hmono hstep
          rcases hg : (false && s0) with _ | _
          · have hfin := hid (HMO.out hg)
            clear hg
            go_wp2_with fail
            (try simp only [Exit.noGoto])
            (try go_wp2_with fail)
            go_ret
            exact ⟨by rw [hff.out, hfin.out]; rfl, HBW.out⟩
          · exfalso; simp at hg
        · obtain rfl : k = L.length := by omega
          have d1 : decide ((L.length : Int) < (L.length : Int)) = false := decide_eq_false (by omega)
          clear hb
          go_wp2_with fail
          (try simp only [Exit.noGoto])
          (try go_wp2_with fail)
          go_ret
          exact ⟨by rw [hff.out]; first | done | rfl | (simp; done) | simp [Exit.noGoto], HBW.out⟩
  · have d1' : decide (lo < hi) = false := decide_eq_false h1
    have hG : decide (lo < hi ∧ hi ≤ 4611686018427387904 ∧ 1 ≤ L.length ∧ L.length ≤ 8) = false := decide_eq_false (by omega)
    go_enter Tryz.func341, Tryz.ntmps341
    have hff : Hid (stripeR ⟨lo, hi, L⟩ = (false && setsR L L.length)) := hid (by unfold stripeR; dsimp only; rw [hG])
    have x0 : (w.alloc (.cells #[.int .u64 lo, .int .u64 hi, .slice a L.length c] 219)).cell? ⟨w.heap.size, 2, none⟩ = some (.slice a L.length c) := by simp
    have hb0 : Below w.heap.size w (w.alloc (.cells #[.int .u64 lo, .int .u64 hi, .slice a L.length c] 219)) := by (repeat (first | exact Below.refl _ _ | assumption | (refine below_alloc ?_ _) | (refine Below.setCell ?_ (by first | omega | (simp; done) | (simp; omega)) _) | (refine Below.drew ?_) | (refine below_drewN ?_ _) | (refine below_then (by assumption) ?_)))
    have hs0 : w.heap.size < (w.alloc (.cells #[.int .u64 lo, .int .u64 hi, .slice a L.length c] 219)).heap.size := by simp
    go_wp2_with fail
    refine wp_scope_straight ?_
    go_wp2_with fail
    refine wp_label ?_
    go_wp2_with fail
    generalize w.alloc (.cells #[.int .u64 lo, .int .u64 hi, .slice a L.length c] 219) = w0 at *
    have HB0 := hid hb0
    clear hb0
    go_loopw [3, 31] (fun g i wr => ∃ k : Nat, k ≤ L.length ∧ i = .int .i64 k ∧ g = .bool (false && setsR L k) ∧ Below w0.heap.size w0 wr) (fun _ i _ => L.length - (intOf i).toNat)
    case atStart => exact ⟨0, Nat.zero_le _, rfl, by simp [setsR], Below.refl _ _⟩
    case round =>
      obtain ⟨k, hk, rfl, rfl, hb⟩ := hrel
      have HB := hid hb
      have HBW := hid (HB0.out.trans (hb.mono HB0.out.size))
      have hsz := hb.size
      by_cases hlt : k < L.length
      · have i1 : (k : Int) < (L.length : Int) := by omega
        have i2 : (k : Int) ≤ (c : Int) := by omega
        have d1 : decide ((k : Int) < (L.length : Int)) = true := decide_eq_true i1
        have X0 := (hb.cell (p := ⟨w.heap.size, 2, none⟩) hs0).trans x0
        obtain ⟨b, o, hA, hbb, ak, ck, u0, xl⟩ := set_at (lift HL.out HBW.out) hlt
        subst hA
        have hmono : (false && setsR L k) = false → (false && setsR L L.length) = false := fun _ => rfl
        have hstep : setsR L (k + 1) = (setsR L k && (nodesR L[k] && apartR L[k] (L.take k))) := by
          show (setsR L k && setR L k) = _
          unfold setR; rw [getD_at L k [] hlt]
        have HN := hid (stripe_nodes L[k] ak _ ck wr xl)
        have HAP := hid (fun (W : World) (hW : Below wr.heap.size wr W) => stripe_apart L[k] (L.take k) ak _ ck (some ⟨b, o, none⟩) k c W (lift xl hW) (sl_take (lift (lift HL.out HBW.out) hW) (by omega)))
        have HMO := hid hmono
        have HST := hid hstep
        have hc0 : k ≤ c := by omega
        obtain ⟨s1, hs1⟩ : ∃ s1, setsR L (k + 1) = s1 := ⟨_, rfl⟩
        have HS1 := hid hs1
        rw [hs1] at HST
        clear hs1
        generalize setsR L k = s0 at *
        generalize nodesR L[k] = nn at *
        generalize apartR L[k] (L.take k) = ap at *
        generalize L[k] = X at *
        clear hb xl hmono hstep
        rcases hg : (false && s0) with _ | _
        · have hfin := hid (HMO.out hg)
          clear hg
          go_wp2_with fail
          (try simp only [Exit.noGoto])
          (try go_wp2_with fail)
          go_ret
          exact ⟨by rw [hff.out, hfin.out]; rfl, HBW.out⟩
        · exfalso; simp at hg
      · obtain rfl : k = L.length := by omega
        have d1 : decide ((L.length : Int) < (L.length : Int)) = false := decide_eq_false (by omega)
        clear hb
        go_wp2_with fail
        (try simp only [Exit.noGoto])
        (try go_wp2_with fail)
        go_ret
        exact ⟨by rw [hff.out]; first | done | rfl | (simp; done) | simp [Exit.noGoto], HBW.out⟩

theorem chain_step (l : List Stripe) (p : Int) (k : Nat) (h : k < l.length) : chainP p (l.drop k) = (decide (l[k].lo = p) && (stripeR l[k] && chainP l[k].hi (l.drop (k + 1)))) := by
  rw [List.drop_eq_getElem_cons h]; rfl
set_option maxRecDepth 100000 in
set_option maxHeartbeats 6400000 in
theorem proj_right (ep : Int) (l : List Stripe) (a : Option Addr) (n c : Nat) (w : World) (hl : rStripes.r (· < w.heap.size) w [.slice a n c] l) :
    Calls Tryz.prog 290 #[.agg #[.int .u64 ep, .slice a n c]] w fun r w' => r = .returned (.bool (projR ⟨ep, l⟩)) ∧ Below w.heap.size w w' := by
  obtain ⟨rfl, hm, hcc, hcm⟩ := sl_len hl
  have HL := hid hl
  have HE := hid (fun W : World => epoch_right ep W)
  have hP : projR ⟨ep, l⟩ = (epR ep && (decide (1 ≤ l.length ∧ l.length ≤ 64) && chainP 0 l)) := rfl
  generalize epR ep = E at *
  clear hl
  cases E
  · have hff : Hid (projR ⟨ep, l⟩ = false) := hid (by rw [hP]; rfl)
    clear hP
    go_enter Tryz.func290, Tryz.ntmps290
    go_wp2_with fail
    refine (HE.out _).mono ?_
    rintro r w1 ⟨rfl, rfl⟩
    go_wp2_with fail
    go_ret
    exact ⟨by rw [hff.out]; rfl, by (repeat (first | exact Below.refl _ _ | assumption | (refine below_alloc ?_ _) | (refine Below.setCell ?_ (by first | omega | (simp; done) | (simp; omega)) _) | (refine Below.drew ?_) | (refine below_drewN ?_ _) | (refine below_then (by assumption) ?_)))⟩
  · by_cases h1 : 1 ≤ l.length
    · have d1 : decide ((l.length : Int) < 1) = false := decide_eq_false (by omega)
      by_cases h2 : l.length ≤ 64
      · have d2 : decide ((64 : Int) < (l.length : Int)) = false := decide_eq_false (by omega)
        have hff0 : Hid (projR ⟨ep, l⟩ = chainP 0 (l.drop 0)) := hid (by rw [hP, decide_eq_true (⟨h1, h2⟩ : 1 ≤ l.length ∧ l.length ≤ 64)]; simp)
        have x1 : (w.alloc (.cells #[.int .u64 ep, .slice a l.length c] 43)).cell? ⟨w.heap.size, 1, none⟩ = some (.slice a l.length c) := by simp
        have hb0 : Below w.heap.size w (w.alloc (.cells #[.int .u64 ep, .slice a l.length c] 43)) := by (repeat (first | exact Below.refl _ _ | assumption | (refine below_alloc ?_ _) | (refine Below.setCell ?_ (by first | omega | (simp; done) | (simp; omega)) _) | (refine Below.drew ?_) | (refine below_drewN ?_ _) | (refine below_then (by assumption) ?_)))
        clear hP
        go_enter Tryz.func290, Tryz.ntmps290
        go_wp2_with fail
        refine (HE.out _).mono ?_
        rintro r w1 ⟨rfl, rfl⟩
        go_wp2_with fail
        generalize (w.alloc (.cells #[.int .u64 ep, .slice a l.length c] 43)) = w0 at *
        have HB0 := hid hb0
        clear hb0 x1
        go_loopw [3, 25] (fun f i wr => ∃ (k : Nat) (p : Int), k ≤ l.length ∧ i = .int .i64 k ∧ f = .int .u64 p ∧ Hid (projR ⟨ep, l⟩ = chainP p (l.drop k)) ∧ Below w0.heap.size w0 wr) (fun _ i _ => l.length - (intOf i).toNat)
        case atStart => exact ⟨0, 0, Nat.zero_le _, rfl, rfl, hff0, Below.refl _ _⟩
        case round =>
          obtain ⟨k, p, hk, rfl, rfl, hf, hb⟩ := hrel
          have HBW := hid (HB0.out.trans (hb.mono HB0.out.size))
          have HB := hid hb
          by_cases hlt : k < l.length
          · have i1 : (k : Int) < (l.length : Int) := by omega
            have e0 : decide ((k : Int) < (l.length : Int)) = true := decide_eq_true i1
            obtain ⟨b, o, hA, hbb, ak, ck, u0, u1, u2, ub0, ub1, xl⟩ := stripe_at (lift HL.out HBW.out) hlt
            subst hA
            have hst := hid (chain_step l p k hlt)
            have HR := hid (fun (W : World) (hW : Below wr.heap.size wr W) => stripe_right l[k].lo l[k].hi l[k].sets ak _ ck W (lift xl hW))
            have hbl : b < wr.heap.size := World.block_lt_of_cell? _ _ u0
            clear hb xl
            generalize l[k] = X at *
            have hX : (⟨X.lo, X.hi, X.sets⟩ : Stripe) = X := rfl
            simp only [hX] at HR
            by_cases hlo : X.lo = p
            · have e1 : (X.lo != p) = false := by simp [hlo]
              generalize stripeR X = R at *
              cases R
              · have hff : Hid (projR ⟨ep, l⟩ = false) := hid (by rw [hf.out, hst.out]; simp)
                clear hlo hX
                go_wp2_with fail
                refine (HR.out _ (by (repeat (first | with_reducible exact Below.refl _ _ | with_reducible assumption | (with_reducible refine below_alloc ?_ _) | (with_reducible refine Below.setCell ?_ (by first | omega | (simp; done) | (simp; omega)) _) | (with_reducible refine Below.drew ?_) | (with_reducible refine below_drewN ?_ _) | (refine below_then (by with_reducible assumption) ?_))))).mono ?_
                rintro r w3 ⟨rfl, hb3⟩
                have hbe : Below w0.heap.size w0 w3 := below_then hb3 (below_alloc HB.out _)
                have hbf : Below w.heap.size w w3 := HB0.out.trans (hbe.mono HB0.out.size)
                go_wp2_with fail
                go_ret
                exact ⟨by rw [hff.out]; rfl, hbf⟩
              · have hff : Hid (projR ⟨ep, l⟩ = chainP X.hi (l.drop (k + 1))) := hid (by rw [hf.out, hst.out, decide_eq_true hlo]; rfl)
                clear hlo hX
                go_wp2_with fail
                refine (HR.out _ (by (repeat (first | with_reducible exact Below.refl _ _ | with_reducible assumption | (with_reducible refine below_alloc ?_ _) | (with_reducible refine Below.setCell ?_ (by first | omega | (simp; done) | (simp; omega)) _) | (with_reducible refine Below.drew ?_) | (with_reducible refine below_drewN ?_ _) | (refine below_then (by with_reducible assumption) ?_))))).mono ?_
                rintro r w3 ⟨rfl, hb3⟩
                have z1 := hb3.cell (p := ⟨wr.heap.size, 1, none⟩) (by simp)
                simp at z1
                have hbe : Below w0.heap.size w0 w3 := below_then hb3 (below_alloc HB.out _)
                clear hb3
                go_wp2_with fail
                go_roundw
                case rel => exact ⟨k + 1, X.hi, by omega, by go_num, rfl, hff, hbe⟩
                case measure => (simp [intOf]; try omega)
            · have e1 : (X.lo != p) = true := by simpa using hlo
              have hff : Hid (projR ⟨ep, l⟩ = false) := hid (by rw [hf.out, hst.out, decide_eq_false hlo]; rfl)
              clear hlo hX
              go_wp2_with fail
              go_ret
              exact ⟨by rw [hff.out]; rfl, by have := HBW.out; (repeat (first | with_reducible exact Below.refl _ _ | with_reducible assumption | (with_reducible refine below_alloc ?_ _) | (with_reducible refine Below.setCell ?_ (by first | omega | (simp; done) | (simp; omega)) _) | (with_reducible refine Below.drew ?_) | (with_reducible refine below_drewN ?_ _) | (refine below_then (by with_reducible assumption) ?_)))⟩
          · obtain rfl : k = l.length := by omega
            have e0 : decide ((l.length : Int) < (l.length : Int)) = false := decide_eq_false (by omega)
            have hff : Hid (projR ⟨ep, l⟩ = decide (p = 4611686018427387904)) := hid (by rw [hf.out, List.drop_length]; rfl)
            have hbq : (p == 4611686018427387904) = decide (p = 4611686018427387904) := by
              by_cases h : p = 4611686018427387904
              · subst h; rfl
              · rw [decide_eq_false h]; simpa using h
            generalize decide (p = 4611686018427387904) = Q at *
            clear hb
            go_wp2_with fail
            go_ret
            exact ⟨by rw [hff.out]; first | rfl | (rw [← hbq]; rfl) | (simp only [hbq]; rfl), HBW.out⟩
      · have d2 : decide ((64 : Int) < (l.length : Int)) = true := decide_eq_true (by omega)
        have hff : Hid (projR ⟨ep, l⟩ = false) := hid (by rw [hP, decide_eq_false (fun h => h2 h.2 : ¬ (1 ≤ l.length ∧ l.length ≤ 64))]; rfl)
        clear hP h2
        go_enter Tryz.func290, Tryz.ntmps290
        go_wp2_with fail
        refine (HE.out _).mono ?_
        rintro r w1 ⟨rfl, rfl⟩
        go_wp2_with fail
        go_ret
        exact ⟨by rw [hff.out]; rfl, by (repeat (first | exact Below.refl _ _ | assumption | (refine below_alloc ?_ _) | (refine Below.setCell ?_ (by first | omega | (simp; done) | (simp; omega)) _) | (refine Below.drew ?_) | (refine below_drewN ?_ _) | (refine below_then (by assumption) ?_)))⟩
    · have d1 : decide ((l.length : Int) < 1) = true := decide_eq_true (by omega)
      have hff : Hid (projR ⟨ep, l⟩ = false) := hid (by rw [hP, decide_eq_false (fun h => h1 h.1 : ¬ (1 ≤ l.length ∧ l.length ≤ 64))]; rfl)
      clear hP h1
      go_enter Tryz.func290, Tryz.ntmps290
      go_wp2_with fail
      refine (HE.out _).mono ?_
      rintro r w1 ⟨rfl, rfl⟩
      go_wp2_with fail
      go_ret
      exact ⟨by rw [hff.out]; rfl, by (repeat (first | exact Below.refl _ _ | assumption | (refine below_alloc ?_ _) | (refine Below.setCell ?_ (by first | omega | (simp; done) | (simp; omega)) _) | (refine Below.drew ?_) | (refine below_drewN ?_ _) | (refine below_then (by assumption) ?_)))⟩


def kT : Array Value := #[.string ⟨#[]⟩, .int .i64 0, .int .i64 0, .string ⟨#[114, 101, 97, 100]⟩, .int .i64 1, .int .i64 9, .string ⟨#[119, 114, 105, 116, 101]⟩, .int .i64 33, .int .i64 10, .string ⟨#[115, 101, 97, 108]⟩, .int .i64 0, .int .i64 11, .string ⟨#[116, 114, 105, 109]⟩, .int .i64 1, .int .i64 10, .string ⟨#[102, 105, 108, 108]⟩, .int .i64 1, .int .i64 10, .string ⟨#[116, 97, 107, 101]⟩, .int .i64 10, .int .i64 12, .string ⟨#[103, 101, 116]⟩, .int .i64 0, .int .i64 13, .string ⟨#[112, 117, 116]⟩, .int .i64 128, .int .i64 10, .string ⟨#[118, 97, 108, 117, 101]⟩, .int .i64 36, .int .i64 0, .string ⟨#[100, 111, 110, 101]⟩, .int .i64 0, .int .i64 0, .string ⟨#[115, 101, 97, 108, 101, 100]⟩, .int .i64 64, .int .i64 0, .string ⟨#[116, 97, 107, 101, 110]⟩, .int .i64 17, .int .i64 0, .string ⟨#[112, 114, 111, 106]⟩, .int .i64 128, .int .i64 0, .string ⟨#[102, 97, 105, 108, 101, 100]⟩, .int .i64 4, .int .i64 0]
def kZ : Array Value := #[.string ⟨#[]⟩, .int .i64 0, .int .i64 0, .string ⟨#[]⟩, .int .i64 0, .int .i64 0, .string ⟨#[]⟩, .int .i64 0, .int .i64 0, .string ⟨#[]⟩, .int .i64 0, .int .i64 0, .string ⟨#[]⟩, .int .i64 0, .int .i64 0, .string ⟨#[]⟩, .int .i64 0, .int .i64 0, .string ⟨#[]⟩, .int .i64 0, .int .i64 0, .string ⟨#[]⟩, .int .i64 0, .int .i64 0, .string ⟨#[]⟩, .int .i64 0, .int .i64 0, .string ⟨#[]⟩, .int .i64 0, .int .i64 0, .string ⟨#[]⟩, .int .i64 0, .int .i64 0, .string ⟨#[]⟩, .int .i64 0, .int .i64 0, .string ⟨#[]⟩, .int .i64 0, .int .i64 0, .string ⟨#[]⟩, .int .i64 0, .int .i64 0, .string ⟨#[]⟩, .int .i64 0, .int .i64 0]
theorem uponk_val {P : Program} {o : Oper} {a : Act} {K : Act → World → Prop} {Q : Exit → Act → World → Prop} {r : Result Next} {v : Value} {w' : World} (h : r = .ok (.value v) w') (hk : K (a.put o.dst v) w') : o.upon P a K Q r := by rw [h]; exact hk
theorem uponk_skp {P : Program} {o : Oper} {a : Act} {K : Act → World → Prop} {Q : Exit → Act → World → Prop} {r : Result Next} {w' : World} (h : r = .ok .skip w') (hk : K (a.put o.dst undef) w') : o.upon P a K Q r := by rw [h]; exact hk

set_option maxRecDepth 100000 in
set_option maxHeartbeats 3200000 in
theorem kind_table (w : World) : Calls Tryz.prog 370 #[] w fun r w' => r = .returned (.agg kT) ∧ Below w.heap.size w w' := by
  go_enter Tryz.func370, Tryz.ntmps370
  go_upto_region 1 with (fail)
  refine wp_region_lit ?_
  generalize hW1 : w.alloc (.cells _ 376) = W1
  have hW2 : W1 = w.alloc (.cells kZ 376) := hW1.symm.trans rfl
  clear hW1
  refine wpList_plain rfl fun K hK => ?_
  unfold Oper.wp
  refine uponk_val (v := (.agg #[.string ⟨#[114, 101, 97, 100]⟩, .int .i64 1, .int .i64 9])) (w' := W1) (by kernel_rfl) ?_
  refine hK _ _ ?_
  clear hK K
  simp only [Act.put, List.setIfInBounds_toArray, List.set_cons_zero, List.set_cons_succ]
  refine wpList_plain rfl fun K hK => ?_
  unfold Oper.wp
  refine uponk_val (v := (.agg #[.string ⟨#[119, 114, 105, 116, 101]⟩, .int .i64 33, .int .i64 10])) (w' := W1) (by kernel_rfl) ?_
  refine hK _ _ ?_
  clear hK K
  simp only [Act.put, List.setIfInBounds_toArray, List.set_cons_zero, List.set_cons_succ]
  refine wpList_plain rfl fun K hK => ?_
  unfold Oper.wp
  refine uponk_val (v := (.agg #[.string ⟨#[115, 101, 97, 108]⟩, .int .i64 0, .int .i64 11])) (w' := W1) (by kernel_rfl) ?_
  refine hK _ _ ?_
  clear hK K
  simp only [Act.put, List.setIfInBounds_toArray, List.set_cons_zero, List.set_cons_succ]
  refine wpList_plain rfl fun K hK => ?_
  unfold Oper.wp
  refine uponk_val (v := (.agg #[.string ⟨#[116, 114, 105, 109]⟩, .int .i64 1, .int .i64 10])) (w' := W1) (by kernel_rfl) ?_
  refine hK _ _ ?_
  clear hK K
  simp only [Act.put, List.setIfInBounds_toArray, List.set_cons_zero, List.set_cons_succ]
  refine wpList_plain rfl fun K hK => ?_
  unfold Oper.wp
  refine uponk_val (v := (.agg #[.string ⟨#[102, 105, 108, 108]⟩, .int .i64 1, .int .i64 10])) (w' := W1) (by kernel_rfl) ?_
  refine hK _ _ ?_
  clear hK K
  simp only [Act.put, List.setIfInBounds_toArray, List.set_cons_zero, List.set_cons_succ]
  refine wpList_plain rfl fun K hK => ?_
  unfold Oper.wp
  refine uponk_val (v := (.agg #[.string ⟨#[116, 97, 107, 101]⟩, .int .i64 10, .int .i64 12])) (w' := W1) (by kernel_rfl) ?_
  refine hK _ _ ?_
  clear hK K
  simp only [Act.put, List.setIfInBounds_toArray, List.set_cons_zero, List.set_cons_succ]
  refine wpList_plain rfl fun K hK => ?_
  unfold Oper.wp
  refine uponk_val (v := (.agg #[.string ⟨#[103, 101, 116]⟩, .int .i64 0, .int .i64 13])) (w' := W1) (by kernel_rfl) ?_
  refine hK _ _ ?_
  clear hK K
  simp only [Act.put, List.setIfInBounds_toArray, List.set_cons_zero, List.set_cons_succ]
  refine wpList_plain rfl fun K hK => ?_
  unfold Oper.wp
  refine uponk_val (v := (.agg #[.string ⟨#[112, 117, 116]⟩, .int .i64 128, .int .i64 10])) (w' := W1) (by kernel_rfl) ?_
  refine hK _ _ ?_
  clear hK K
  simp only [Act.put, List.setIfInBounds_toArray, List.set_cons_zero, List.set_cons_succ]
  refine wpList_plain rfl fun K hK => ?_
  unfold Oper.wp
  refine uponk_val (v := (.agg #[.string ⟨#[118, 97, 108, 117, 101]⟩, .int .i64 36, .int .i64 0])) (w' := W1) (by kernel_rfl) ?_
  refine hK _ _ ?_
  clear hK K
  simp only [Act.put, List.setIfInBounds_toArray, List.set_cons_zero, List.set_cons_succ]
  refine wpList_plain rfl fun K hK => ?_
  unfold Oper.wp
  refine uponk_val (v := (.agg #[.string ⟨#[100, 111, 110, 101]⟩, .int .i64 0, .int .i64 0])) (w' := W1) (by kernel_rfl) ?_
  refine hK _ _ ?_
  clear hK K
  simp only [Act.put, List.setIfInBounds_toArray, List.set_cons_zero, List.set_cons_succ]
  refine wpList_plain rfl fun K hK => ?_
  unfold Oper.wp
  refine uponk_val (v := (.agg #[.string ⟨#[115, 101, 97, 108, 101, 100]⟩, .int .i64 64, .int .i64 0])) (w' := W1) (by kernel_rfl) ?_
  refine hK _ _ ?_
  clear hK K
  simp only [Act.put, List.setIfInBounds_toArray, List.set_cons_zero, List.set_cons_succ]
  refine wpList_plain rfl fun K hK => ?_
  unfold Oper.wp
  refine uponk_val (v := (.agg #[.string ⟨#[116, 97, 107, 101, 110]⟩, .int .i64 17, .int .i64 0])) (w' := W1) (by kernel_rfl) ?_
  refine hK _ _ ?_
  clear hK K
  simp only [Act.put, List.setIfInBounds_toArray, List.set_cons_zero, List.set_cons_succ]
  refine wpList_plain rfl fun K hK => ?_
  unfold Oper.wp
  refine uponk_val (v := (.agg #[.string ⟨#[112, 114, 111, 106]⟩, .int .i64 128, .int .i64 0])) (w' := W1) (by kernel_rfl) ?_
  refine hK _ _ ?_
  clear hK K
  simp only [Act.put, List.setIfInBounds_toArray, List.set_cons_zero, List.set_cons_succ]
  refine wpList_plain rfl fun K hK => ?_
  unfold Oper.wp
  refine uponk_val (v := (.agg #[.string ⟨#[102, 97, 105, 108, 101, 100]⟩, .int .i64 4, .int .i64 0])) (w' := W1) (by kernel_rfl) ?_
  refine hK _ _ ?_
  clear hK K
  simp only [Act.put, List.setIfInBounds_toArray, List.set_cons_zero, List.set_cons_succ]
  refine wpList_plain rfl fun K hK => ?_
  unfold Oper.wp
  refine uponk_val (v := .agg kT) (w' := W1) (by kernel_rfl) ?_
  subst hW2
  refine hK _ _ ?_
  clear hK K
  simp only [Act.put, List.setIfInBounds_toArray, List.set_cons_zero, List.set_cons_succ]
  have h := run_storeAt_new (P := Tryz.prog) w 376 kZ kT (by kernel_rfl) (by rfl) (by kernel_rfl)
  have hld := run_loadVar_new (P := Tryz.prog) w 376 kT 15 368 Tryz.underlying376 (by kernel_rfl)
  generalize hS : kT = S at *
  generalize kZ = Z at *
  have HS := hid hS
  clear hS
  refine wpList_plain rfl fun K hK => ?_
  unfold Oper.wp
  refine uponk_skp (w' := w.alloc (.cells S 376)) ?_ ?_
  · simp only [execOp, Act.eval, Act.put, Sem.run_bind]
    change (Sem.run Tryz.prog (Instr.storeAt 376 (.pointer (some ⟨w.heap.size, 0, none⟩)) (.agg S)) (w.alloc (.cells Z 376))).andThen _ = _
    rw [h]
    rfl
  refine hK _ _ ?_
  clear hK K
  (try simp only [Act.put, List.setIfInBounds_toArray, List.set_cons_zero, List.set_cons_succ])
  refine wpList_nil ?_
  go_wp2_with fail
  refine bodyPost_ret (v := .agg S) ?_ rfl ⟨by rw [HS.out], by (repeat (first | exact Below.refl _ _ | assumption | (refine below_alloc ?_ _) | (refine Below.setCell ?_ (by first | omega | (simp; done) | (simp; omega)) _) | (refine Below.drew ?_) | (refine below_drewN ?_ _) | (refine below_then (by assumption) ?_)))⟩
  simp [results, Tryz.results370, hld, Act.put, asAddr, Result.andThen]

/-- The row of a kind. -/
def kRow (c : Nat) : Value := match c with
  | 0 => .agg #[.string ⟨#[]⟩, .int .i64 0, .int .i64 0]
  | 1 => .agg #[.string ⟨#[114, 101, 97, 100]⟩, .int .i64 1, .int .i64 9]
  | 2 => .agg #[.string ⟨#[119, 114, 105, 116, 101]⟩, .int .i64 33, .int .i64 10]
  | 3 => .agg #[.string ⟨#[115, 101, 97, 108]⟩, .int .i64 0, .int .i64 11]
  | 4 => .agg #[.string ⟨#[116, 114, 105, 109]⟩, .int .i64 1, .int .i64 10]
  | 5 => .agg #[.string ⟨#[102, 105, 108, 108]⟩, .int .i64 1, .int .i64 10]
  | 6 => .agg #[.string ⟨#[116, 97, 107, 101]⟩, .int .i64 10, .int .i64 12]
  | 7 => .agg #[.string ⟨#[103, 101, 116]⟩, .int .i64 0, .int .i64 13]
  | 8 => .agg #[.string ⟨#[112, 117, 116]⟩, .int .i64 128, .int .i64 10]
  | 9 => .agg #[.string ⟨#[118, 97, 108, 117, 101]⟩, .int .i64 36, .int .i64 0]
  | 10 => .agg #[.string ⟨#[100, 111, 110, 101]⟩, .int .i64 0, .int .i64 0]
  | 11 => .agg #[.string ⟨#[115, 101, 97, 108, 101, 100]⟩, .int .i64 64, .int .i64 0]
  | 12 => .agg #[.string ⟨#[116, 97, 107, 101, 110]⟩, .int .i64 17, .int .i64 0]
  | 13 => .agg #[.string ⟨#[112, 114, 111, 106]⟩, .int .i64 128, .int .i64 0]
  | 14 => .agg #[.string ⟨#[102, 97, 105, 108, 101, 100]⟩, .int .i64 4, .int .i64 0]
  | _ => .nilFunc
theorem kRow_is : ∀ c : Nat, c < 15 → ∃ s a, kRow c = .agg #[.string s, .int .i64 ((partsK (c : Int) : Nat) : Int), .int .i64 a]
  | 0, _ => ⟨_, _, rfl⟩
  | 1, _ => ⟨_, _, rfl⟩
  | 2, _ => ⟨_, _, rfl⟩
  | 3, _ => ⟨_, _, rfl⟩
  | 4, _ => ⟨_, _, rfl⟩
  | 5, _ => ⟨_, _, rfl⟩
  | 6, _ => ⟨_, _, rfl⟩
  | 7, _ => ⟨_, _, rfl⟩
  | 8, _ => ⟨_, _, rfl⟩
  | 9, _ => ⟨_, _, rfl⟩
  | 10, _ => ⟨_, _, rfl⟩
  | 11, _ => ⟨_, _, rfl⟩
  | 12, _ => ⟨_, _, rfl⟩
  | 13, _ => ⟨_, _, rfl⟩
  | 14, _ => ⟨_, _, rfl⟩
  | n + 15, h => absurd h (by omega)
theorem kind_ix (W : World) : ∀ c : Nat, c < 15 → (Instr.index 376 (.agg kT) (.int .i64 (c : Int))).run Tryz.prog W = .ok (kRow c) W
  | 0, _ => by kernel_rfl
  | 1, _ => by kernel_rfl
  | 2, _ => by kernel_rfl
  | 3, _ => by kernel_rfl
  | 4, _ => by kernel_rfl
  | 5, _ => by kernel_rfl
  | 6, _ => by kernel_rfl
  | 7, _ => by kernel_rfl
  | 8, _ => by kernel_rfl
  | 9, _ => by kernel_rfl
  | 10, _ => by kernel_rfl
  | 11, _ => by kernel_rfl
  | 12, _ => by kernel_rfl
  | 13, _ => by kernel_rfl
  | 14, _ => by kernel_rfl
  | n + 15, h => absurd h (by omega)

set_option maxRecDepth 100000 in
set_option maxHeartbeats 1600000 in
theorem kind_right (k : Int) (w : World) : Calls Tryz.prog 247 #[.int .i64 k] w fun r w' => r = .returned (.bool (decide (1 ≤ k ∧ k ≤ 14))) ∧ w = w' := by
  by_cases h0 : 1 ≤ k
  · by_cases h1 : k ≤ 14
    · have d1 : decide ((1 : Int) ≤ k) = true := decide_eq_true h0
      have d2 : decide (k ≤ 14) = true := decide_eq_true h1
      rw [decide_eq_true (⟨h0, h1⟩ : 1 ≤ k ∧ k ≤ 14)]
      go_enter Tryz.func247, Tryz.ntmps247
      go_wp2
      go_ret
      exact ⟨rfl, rfl⟩
    · have d1 : decide ((1 : Int) ≤ k) = true := decide_eq_true h0
      have d2 : decide (k ≤ 14) = false := decide_eq_false h1
      rw [decide_eq_false (fun h => h1 h.2 : ¬ (1 ≤ k ∧ k ≤ 14))]
      go_enter Tryz.func247, Tryz.ntmps247
      go_wp2
      go_ret
      exact ⟨rfl, rfl⟩
  · have d1 : decide ((1 : Int) ≤ k) = false := decide_eq_false h0
    rw [decide_eq_false (fun h => h0 h.1 : ¬ (1 ≤ k ∧ k ≤ 14))]
    go_enter Tryz.func247, Tryz.ntmps247
    go_wp2
    go_ret
    exact ⟨rfl, rfl⟩

set_option maxRecDepth 100000 in
set_option maxHeartbeats 1600000 in
theorem kind_of (k : Int) (w : World) : Calls Tryz.prog 361 #[.int .i64 k] w fun r w' => (∃ s a, r = .returned (.agg #[.string s, .int .i64 ((partsK k : Nat) : Int), .int .i64 a])) ∧ Below w.heap.size w w' := by
  have HR := hid (fun (W : World) => kind_right k W)
  have HW := hid kind_table
  by_cases h : 1 ≤ k ∧ k ≤ 14
  · obtain ⟨c, rfl⟩ : ∃ c : Nat, k = c := ⟨k.toNat, by omega⟩
    rw [decide_eq_true h] at HR
    have hix := fun W => kind_ix W c (by omega)
    obtain ⟨s, a, hrow⟩ := kRow_is c (by omega)
    simp only [hrow] at hix
    generalize partsK (c : Int) = q at *
    generalize kT = S at *
    clear h hrow
    go_enter Tryz.func361, Tryz.ntmps361
    go_wp2_with fail
    refine (HR.out _).mono ?_
    rintro r w1 ⟨rfl, rfl⟩
    go_wp2_with fail
    refine (HW.out _).mono ?_
    rintro r w1 ⟨rfl, hb1⟩
    have hs1 := hb1.size
    have lt1 : w.heap.size < w1.heap.size := by simp at hs1; omega
    have x0 := hb1.cell (p := ⟨w.heap.size, 0, none⟩) (by simp)
    have x1 := hb1.cell (p := ⟨w.heap.size, 1, none⟩) (by simp)
    have x2 := hb1.cell (p := ⟨w.heap.size, 2, none⟩) (by simp)
    have f0 := hb1.frozen (p := ⟨w.heap.size, 0, none⟩) (by simp)
    have f1 := hb1.frozen (p := ⟨w.heap.size, 1, none⟩) (by simp)
    have f2 := hb1.frozen (p := ⟨w.heap.size, 2, none⟩) (by simp)
    simp at x0 x1 x2 f0 f1 f2
    have HB1 := hid hb1
    clear hb1 hs1
    go_wp2_with fail
    refine bodyPost_ret (v := .agg #[.string s, .int .i64 ((q : Nat) : Int), .int .i64 a]) (by simp [results, Tryz.results361, go_sem, lt1, x0, x1, x2]) rfl ⟨⟨s, a, rfl⟩, ?_⟩
    have := HB1.out.mono (show w.heap.size ≤ _ from by simp)
    exact (((((Below.refl w.heap.size w).alloc (Nat.le_refl _) _).trans this).setCell (Nat.le_refl _) _).setCell (Nat.le_refl _) _).setCell (Nat.le_refl _) _
  · rw [decide_eq_false h] at HR
    have hq : Hid (partsK k = 0) := hid (by unfold partsK; rw [if_pos (by omega)])
    clear h
    go_enter Tryz.func361, Tryz.ntmps361
    go_wp2_with fail
    refine (HR.out _).mono ?_
    rintro r w1 ⟨rfl, rfl⟩
    go_wp2_with fail
    refine bodyPost_ret (v := .agg #[.string (⟨#[]⟩ : ByteArray), .int .i64 0, .int .i64 0]) (by simp [results, Tryz.results361, go_sem]) rfl ⟨⟨(⟨#[]⟩ : ByteArray), 0, by rw [hq.out]; rfl⟩, by (repeat (first | exact Below.refl _ _ | assumption | (refine below_alloc ?_ _) | (refine Below.setCell ?_ (by first | omega | (simp; done) | (simp; omega)) _) | (refine Below.drew ?_) | (refine below_drewN ?_ _) | (refine below_then (by assumption) ?_)))⟩

theorem kind_fld (W : World) (s : ByteArray) (q a : Int) : (Instr.field 368 (.agg #[.string s, .int .i64 q, .int .i64 a]) 1).run Tryz.prog W = .ok (.int .i64 q) W := by kernel_rfl
set_option maxRecDepth 100000 in
set_option maxHeartbeats 1600000 in
theorem kind_parts (k : Int) (w : World) : Calls Tryz.prog 342 #[.int .i64 k] w fun r w' => r = .returned (.int .i64 ((partsK k : Nat) : Int)) ∧ Below w.heap.size w w' := by
  have HO := hid (fun (W : World) => kind_of k W)
  generalize partsK k = q at *
  go_enter Tryz.func342, Tryz.ntmps342
  go_wp2_with fail
  refine (HO.out _).mono ?_
  rintro r w1 ⟨⟨s, a, rfl⟩, hb1⟩
  have hfd := fun (W : World) => kind_fld W s ((q : Nat) : Int) a
  go_wp2_with fail
  go_ret
  exact ⟨rfl, hb1⟩

/-- A part's bit. -/
def isPart (p : Nat) : Prop := p ∈ [1, 2, 4, 8, 16, 32, 64, 128]
theorem part_bit : ∀ q ∈ [0, 1, 33, 10, 128, 36, 64, 17, 4], ∀ p ∈ [1, 2, 4, 8, 16, 32, 64, 128], (bits .and .i64 ((q : Nat) : Int) ((p : Nat) : Int) != 0) = (q / p % 2 == 1) ∧ bits .and .i64 ((p : Nat) : Int) ((p : Nat) - 1 : Int) = 0 := by decide +kernel
theorem part_in {p : Nat} (h : isPart p) : 0 < p ∧ p ≤ 128 := by
  simp [isPart] at h; omega

set_option maxRecDepth 100000 in
set_option maxHeartbeats 1600000 in
theorem kind_has (k : Int) (p : Nat) (hp : isPart p) (w : World) : Calls Tryz.prog 293 #[.int .i64 k, .int .i64 (p : Int)] w fun r w' => r = .returned (.bool (hasK k p)) ∧ Below w.heap.size w w' := by
  have HP := hid (fun (W : World) => kind_parts k W)
  obtain ⟨hb1, hb2⟩ := part_bit _ (partsK_mem k) _ hp
  have hpi := part_in hp
  have d1 : decide ((0 : Int) < (p : Int)) = true := decide_eq_true (by omega)
  have d2 : decide ((p : Int) ≤ 128) = true := decide_eq_true (by omega)
  have w1 : 0 ≤ (p : Int) - 1 := by omega
  have HH : Hid (hasK k p = (bits .and .i64 ((partsK k : Nat) : Int) (p : Int) != 0)) := hid hb1.symm
  generalize hasK k p = hh at *
  generalize partsK k = q at *
  obtain ⟨x, hx⟩ : ∃ x, bits .and .i64 ((q : Nat) : Int) (p : Int) = x := ⟨_, rfl⟩
  rw [hx] at HH
  have d3 : (bits .and .i64 (p : Int) ((p : Int) - 1) == 0) = true := by rw [hb2]; rfl
  clear hb1 hp
  go_enter Tryz.func293, Tryz.ntmps293
  go_wp2_with fail
  refine (HP.out _).mono ?_
  rintro r w1 ⟨rfl, hb1⟩
  go_wp2_with fail
  go_ret
  exact ⟨by rw [HH.out]; rfl, hb1⟩



set_option maxRecDepth 100000 in
set_option maxHeartbeats 1600000 in
theorem body_most (k : Int) (w : World) : Calls Tryz.prog 287 #[.int .i64 k] w fun r w' => r = .returned (.int .i64 (mostK k)) ∧ w = w' := by
  by_cases h2 : k = 9
  · have d2 : (k == 9) = true := beq_iff_eq.2 h2
    have hb : Hid (mostK k = 4) := hid (by unfold mostK; rw [if_pos h2])
    clear h2
    go_enter Tryz.func287, Tryz.ntmps287
    go_wp2
    go_ret
    exact ⟨by rw [hb.out]; rfl, rfl⟩
  · have d2 : (k == 9) = false := beq_eq_false_iff_ne.2 h2
    have hb : Hid (mostK k = 20) := hid (by unfold mostK; rw [if_neg h2])
    clear h2
    go_enter Tryz.func287, Tryz.ntmps287
    go_wp2
    go_ret
    exact ⟨by rw [hb.out]; rfl, rfl⟩
set_option maxRecDepth 100000 in
set_option maxHeartbeats 1600000 in
theorem body_within (k : Int) (p : Nat) (hp : isPart p) (r z : Bool) (w : World) : Calls Tryz.prog 286 #[.int .i64 k, .int .i64 (p : Int), .bool r, .bool z] w fun e w' => e = .returned (.bool (withinR (hasK k p) r z)) ∧ Below w.heap.size w w' := by
  have HP := hid (fun (W : World) => kind_has k p hp W)
  generalize hasK k p = hh at *
  go_enter Tryz.func286, Tryz.ntmps286
  go_wp2_with fail
  refine (HP.out _).mono ?_
  rintro e w1 ⟨rfl, hb1⟩
  cases hh
  · go_wp2_with fail
    go_ret
    exact ⟨rfl, hb1⟩
  · go_wp2_with fail
    go_ret
    exact ⟨rfl, hb1⟩
end Go.Proofs.YtfddhafbhceoaaaGreat
