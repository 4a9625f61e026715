/- Needed by segmentFinds_walk, part 5: texts put together by shake.py; no condition. -/
import Derived.Test.YtkipiefcnjfdjaaGreatF4
import Derived.StillTail
import Derived.RegionTactic
import Derived.OrdersHeld
import Derived.Deep.RegionHeld
import Derived.Test.YtkipiefcnjfdjaaGreatF3
import Derived.Test.YtkipiefcnjfdjaaGreatF1
import Derived.Test.YtkipiefcnjfdjaaGreatF2
namespace Go.Proofs.YtkipiefcnjfdjaaGreat
open Go.RowKit Fl Go.Bs
set_option linter.unusedVariables false
set_option linter.unusedSimpArgs false
theorem findB_none_of {b : Batch} {pos : Int} (h : ∀ j : Nat, j < b.entries.length → ¬ b.base + j = pos) : findB b pos = none := by
 unfold findB
 split
 ·rename_i hle
  refine List.getElem?_eq_none ?_
  rcases Nat.lt_or_ge (pos - b.base).toNat b.entries.length with h1 | h1
  ·exact absurd (by omega) (h _ h1)
  ·exact h1
 ·rfl
theorem findB_some_of {b : Batch} {pos : Int} {j : Nat} (h : j < b.entries.length) (hp : b.base + j = pos) : findB b pos = some b.entries[j] := by
 unfold findB
 rw [if_pos (by omega), show (pos - b.base).toNat = j by omega]
 exact List.getElem?_eq_getElem h
def EntAt (l : List Batch) (pos : Int) (r : Ending) : Prop :=
 match findS l pos with
 | none => r = .returned (.tuple #[.int .i64 (-1), .int .i64 (-1)])
 | some e => ∃ (i k : Nat) (hi : i < l.length) (hk : k < (l[i]'hi).entries.length), (l[i]'hi).entries[k]'hk = e ∧ r = .returned (.tuple #[.int .i64 i, .int .i64 k])
set_option maxRecDepth 100000 in
set_option maxHeartbeats 1600000 in
theorem ref34_entry (e : Int) (l : List Batch) (pos : Int) (a : Option Addr) (n c : Nat) (w : World) (hl : rBatches.r (· < w.heap.size) w [.slice a n c] l) (hp : 0 ≤ pos ∧ pos ≤ 18446744073709551615) (hb0 : ∀ b ∈ l, b.base + b.entries.length ≤ 4611686018427387904) :
  Calls Tryz.prog 55 #[.agg #[.int .u64 e, .slice a n c], .int .u64 pos] w fun r w' => EntAt l pos r ∧ Below w.heap.size w w' := by
 obtain ⟨rfl, hm, _, _⟩ := sl_len hl
 have HL := hid hl
 have HB0 := hid hb0
 clear hl hb0
 go_enter Tryz.func55, Tryz.ntmps55
 go_wp2_with fail
 refine wp_world (fun W => Below w.heap.size w W ∧ w.heap.size < W.heap.size ∧ W.cell? ⟨w.heap.size, 1, none⟩ = some (.slice a l.length c)) ⟨by (repeat first | exact zR | assumption | apply zA | apply zS | apply zD | apply zN | refine zT (by assumption) ?_ | omega | simp <;> omega), by simp, by go_simp⟩ ?_
 intro W ⟨hbW, hzW, q1⟩
 go_loopw [6] (fun i wr => ∃ k : Nat, k ≤ l.length ∧ i = .int .i64 k ∧ Hid (findS l pos = findS (l.drop k) pos) ∧ Below W.heap.size W wr) (fun i _ => l.length - (intOf i).toNat)
 case atStart => exact ⟨0, Nat.zero_le _, rfl, hid rfl, Below.refl _ _⟩
 case round =>
  obtain ⟨k, hk, rfl, hf, hb⟩ := hrel
  have hb3 := below_then hb hbW
  have t1 : wr.cell? ⟨w.heap.size, 1, none⟩ = some (.slice a l.length c) := (Later.mk wr hb).cell q1
  have hz3 : w.heap.size < wr.heap.size := by have := hb.size; omega
  by_cases hlt : k < l.length
  ·obtain ⟨b, o, hA, hbb, a1, c1, X0, X1, X2, _, b1, hd⟩ := batch_at (lift HL.out hb3) hlt
   subst hA
   have hst := hid (findS_step l pos k hlt)
   have hb5 := HB0.out _ (List.getElem_mem hlt)
   have HKK : Hid (∀ j : Nat, ∀ hj : j < (l[k]'hlt).entries.length, (l[k]'hlt).base + j = pos → EntAt l pos (.returned (.tuple #[.int .i64 k, .int .i64 j]))) := hid (by
    intro j hj hp
    unfold EntAt
    rw [hf.out, hst.out, findB_some_of hj hp]
    exact ⟨k, j, hlt, hj, rfl, rfl⟩)
   clear hd
   generalize l[k] = z at *
   obtain ⟨wo, hwo⟩ : ∃ wo : World, wo = wr := ⟨_, rfl⟩
   subst hwo
   have i1 : (k : Int) < (l.length : Int) := by omega
   obtain ⟨hm1, _⟩ : z.entries.length ≤ 4611686018427387904 ∧ True := ⟨by omega, trivial⟩
   go_wp2_with fail
   go_loopw [7] (fun i wq => ∃ j : Nat, j ≤ z.entries.length ∧ i = .int .i64 j ∧ Hid (∀ t : Nat, t < j → ¬ z.base + t = pos) ∧ Below wo.heap.size wo wq) (fun i _ => z.entries.length - (intOf i).toNat)
   case atStart => exact ⟨0, Nat.zero_le _, rfl, hid (fun t ht => absurd ht (Nat.not_lt_zero _)), Below.refl _ _⟩
   case round =>
    obtain ⟨j, hj, rfl, hno, hq⟩ := hrel
    have hq3 := below_then hq hb3
    have t2 : wr.cell? ⟨w.heap.size, 1, none⟩ = some (.slice (some ⟨b, o, none⟩) l.length c) := (Later.mk wr hq).cell t1
    have hbo : b < wo.heap.size := hbb
    have Y1 : wr.cell? ⟨b, o + k * 3 + 1, none⟩ = some (.int .u64 z.base) := (Later.mk wr hq).cell X1
    have Y2 : wr.cell? ⟨b, o + k * 3 + 2, none⟩ = some (.slice a1 z.entries.length c1) := (Later.mk wr hq).cell X2
    by_cases hjl : j < z.entries.length
    ·have j1 : (j : Int) < (z.entries.length : Int) := by omega
     have hr : 0 ≤ z.base + (j : Int) ∧ z.base + (j : Int) ≤ 18446744073709551615 := by omega
     by_cases hpe : z.base + (j : Int) = pos
     ·have hd : (z.base + (j : Int) == pos) = true := by simp [hpe]
      have HE := hid (HKK.out j hjl hpe)
      clear hpe
      go_wp2
      go_ret2
      exact ⟨HE.out, by (repeat first | exact zR | assumption | apply zA | apply zS | apply zD | apply zN | refine zT (by assumption) ?_ | omega | simp <;> omega)⟩
     ·have hd : (z.base + (j : Int) == pos) = false := by simp [hpe]
      have HN : Hid (∀ t : Nat, t < j + 1 → ¬ z.base + t = pos) := hid (fun t ht => by
       rcases Nat.lt_succ_iff_lt_or_eq.1 ht with h | rfl
       ·exact hno.out t h
       ·exact hpe)
      clear hpe
      go_wp2
      go_roundw
      case rel => exact ⟨j + 1, by omega, by go_num, HN, by (repeat first | exact zR | assumption | apply zA | apply zS | apply zD | apply zN | refine zT (by assumption) ?_ | omega | simp <;> omega)⟩
      case measure => simp [intOf]; omega
    ·obtain rfl : j = z.entries.length := by omega
     have hff : Hid (findS l pos = findS (l.drop (k + 1)) pos) := hid (by rw [hf.out, hst.out, findB_none_of hno.out]; rfl)
     go_wp2
     go_roundw
     case rel => exact ⟨k + 1, by omega, by go_num, hff, below_then hq hb⟩
     case measure => simp [intOf]; omega
  ·obtain rfl : k = l.length := by omega
   have hff : Hid (findS l pos = none) := hid (by rw [hf.out, List.drop_length]; rfl)
   go_wp2
   go_ret2
   exact ⟨by unfold EntAt; rw [hff.out]; rfl, by (repeat first | exact zR | assumption | apply zA | apply zS | apply zD | apply zN | refine zT (by assumption) ?_ | omega | simp <;> omega)⟩
theorem rEntries_new {w : World} {S : Nat → Prop} {g : Nat} {v1 v2 : Value} {e : Entry} (hb : Blk w g 75 #[v1, v2]) (hS : S g) (h1 : rEntry.r S w [v1, v2] e) : rEntries.r S w [.slice (some ⟨g, 0, none⟩) 1 1] [e] := by
 refine rSl_mk rfl (by simp) (by simp [maxLen]) (.inr ⟨g, 0, rfl, hS, fun i x hi => ?_⟩)
 match i, hi with
 | 0, hi =>
  simp only [List.getElem?_cons_zero, Option.some.injEq] at hi
  subst hi
  refine ⟨[v1, v2], rfl, fun j v hj => ?_, h1⟩
  match j, hj with
  | 0, hj => simp only [List.getElem?_cons_zero, Option.some.injEq] at hj; subst hj; exact hb.cell 0
  | 1, hj => simp only [List.getElem?_cons_succ, List.getElem?_cons_zero, Option.some.injEq] at hj; subst hj; exact hb.cell 1
theorem rt_mk {a b : Nat} (h1 : a ≤ 1000000) (h3 : b ≤ 1000000000) (h4 : a = 0 → b = 0) : rt (a : Int) (b : Int) = true := by
 simp only [rt, decide_eq_true_eq]
 rcases Nat.eq_zero_or_pos a with h | h
 ·have := h4 h; omega
 ·omega
set_option maxRecDepth 100000 in
set_option maxHeartbeats 1600000 in
theorem segment_tally (e : Int) (l : List Batch) (a : Option Addr) (n c : Nat) (w : World) (hl : rBatches.r (· < w.heap.size) w [.slice a n c] l) (h1 : nEntries l ≤ 100000) (h2 : nBytes l ≤ 100000000) :
  Calls Tryz.prog 51 #[.agg #[.int .u64 e, .slice a n c]] w fun r w' => r = .returned (.complex .f64 (fI (nEntries l : Nat)) (fI (nBytes l : Nat))) ∧ Below w.heap.size w w' ∧ (nEntries l = 0 → nBytes l = 0) := by
 obtain ⟨rfl, hm, _, _⟩ := sl_len hl
 have HL := hid hl
 clear hl
 go_enter Tryz.func51, Tryz.ntmps51
 go_wp2_with fail
 refine wp_world (fun W => Below w.heap.size w W) (by (repeat first | exact zR | assumption | apply zA | apply zS | apply zD | apply zN | refine zT (by assumption) ?_ | omega | simp <;> omega)) ?_
 intro W hbW
 go_loopw [3, 11] (fun s i wr => ∃ k : Nat, k ≤ l.length ∧ i = .int .i64 k ∧ s = .complex .f64 (fI (nEntries (l.take k) : Nat)) (fI (nBytes (l.take k) : Nat)) ∧ Hid (nEntries (l.take k) = 0 → nBytes (l.take k) = 0) ∧ Below W.heap.size W wr) (fun _ i _ => l.length - (intOf i).toNat)
 case atStart => exact ⟨0, Nat.zero_le _, rfl, by rw [show ((nEntries (l.take 0) : Nat) : Int) = 0 from rfl, show ((nBytes (l.take 0) : Nat) : Int) = 0 from rfl, fI_zero], hid (fun _ => rfl), Below.refl _ _⟩
 case round =>
  obtain ⟨k, hk, rfl, rfl, hz, hb⟩ := hrel
  have hb3 := below_then hb hbW
  by_cases hlt : k < l.length
  ·obtain ⟨b, o, hA, hbb, a1, c1, X0, X1, X2, _, _, hd⟩ := batch_at (lift HL.out hb3) hlt
   subst hA
   have s1 := hid (sumB_step (fun b => b.entries.length) l k hlt)
   have s2 := hid (sumB_step (fun b => total b.entries) l k hlt)
   have t3 := sumB_take_le (fun b => b.entries.length) l (k + 1)
   have t4 := sumB_take_le (fun b => total b.entries) l (k + 1)
   rw [s1.out] at t3
   rw [s2.out] at t4
   have g1 : nEntries (l.take k) + l[k].entries.length ≤ 100000 := Nat.le_trans t3 h1
   have g2 : nBytes (l.take k) + total l[k].entries ≤ 100000000 := Nat.le_trans t4 h2
   clear t3 t4
   have S1 : Hid (nEntries (l.take (k + 1)) = nEntries (l.take k) + l[k].entries.length) := s1
   have S2 : Hid (nBytes (l.take (k + 1)) = nBytes (l.take k) + total l[k].entries) := s2
   clear s1 s2
   have HD := hid hd
   clear hd
   generalize l[k] = z at *
   generalize nEntries (l.take k) = x at *
   generalize nBytes (l.take k) = y at *
   have G2 := hid g2
   clear g2
   obtain ⟨wo, hwo⟩ : ∃ wo : World, wo = wr := ⟨_, rfl⟩
   subst hwo
   have i1 : (k : Int) < (l.length : Int) := by omega
   go_wp2_with fail
   refine wp_world (fun V => Below wo.heap.size wo V) (by (repeat first | exact zR | assumption | apply zA | apply zS | apply zD | apply zN | refine zT (by assumption) ?_ | omega | simp <;> omega)) ?_
   intro V hbV
   have hbw := below_then hbV hb3
   go_loopw [3, 18] (fun s i wq => ∃ j u v : Nat, j ≤ z.entries.length ∧ i = .int .i64 j ∧ s = .complex .f64 (fI (u : Int)) (fI (v : Int)) ∧ Hid (u = x + j) ∧ Hid (v = y + total (z.entries.take j)) ∧ Hid (u = 0 → v = 0) ∧ Below V.heap.size V wq) (fun _ i _ => z.entries.length - (intOf i).toNat)
   case atStart => exact ⟨0, x, y, Nat.zero_le _, rfl, rfl, hid rfl, hid rfl, hz, Below.refl _ _⟩
   case round =>
    obtain ⟨j, u, v, hj, rfl, rfl, hu, hv, huv, hq⟩ := hrel
    have hqw := below_then hq hbw
    by_cases hjl : j < z.entries.length
    ·obtain ⟨b2, o2, hA2, hbb2, a3, c3, a4, c4, Z0, Z1, hd1, hd2⟩ := entry_at (lift HD.out (below_then hq hbV)) hjl
     subst hA2
     have hs := hid (total_step z.entries j hjl)
     have ht := total_take_le z.entries (j + 1)
     rw [hs.out] at ht
     have hu1 : u + 1 ≤ 100000 := by have := hu.out; omega
     have hv1 : v + (z.entries[j]'hjl).data.length ≤ 100000000 := by have := hv.out; have := G2.out; omega
     have HU : Hid (u + 1 = x + (j + 1)) := hid (by have := hu.out; omega)
     have HV : Hid (v + (z.entries[j]'hjl).data.length = y + total (z.entries.take (j + 1))) := hid (by rw [hs.out, hv.out, Nat.add_assoc])
     have HD1 := hid hd1
     have HD2 := hid hd2
     clear hd1 hd2 hs ht hu hv
     generalize z.entries[j] = q at *
     have ht1 : total [q] = q.data.length := by simp [total]
     have E1 : Hid (rt 1 ((q.data.length : Nat) : Int) = true) := hid (rt_mk (a := 1) (by omega) (by omega) (by omega))
     have E2 : Hid (rt (u : Int) (v : Int) = true) := hid (rt_mk (by omega) (by omega) huv.out)
     have E3 : Hid (rt ((u : Int) + 1) ((v : Int) + ((q.data.length : Nat) : Int)) = true) := hid (by have := rt_mk (a := u + 1) (b := v + q.data.length) (by omega) (by omega) (by omega); simpa using this)
     have HT := hid ht1
     clear ht1 huv
     have hsz := hq.size
     go_wp2_with fail
     refine (entry_total [q] _ _ _ ((wr.alloc (.cells #[.slice a3 q.links.length c3, .slice a4 q.data.length c4] 75)).alloc (.cells #[.slice a3 q.links.length c3, .slice a4 q.data.length c4] 75)) (rEntries_new (Blk.new1 wr _ _ _) (by simp) (entry_mk (lift HD1.out (by (repeat first | exact zR | assumption | apply zA | apply zS | apply zD | apply zN | refine zT (by assumption) ?_ | omega | simp <;> omega))) (lift HD2.out (by (repeat first | exact zR | assumption | apply zA | apply zS | apply zD | apply zN | refine zT (by assumption) ?_ | omega | simp <;> omega))))) (by rw [HT.out]; omega)).mono ?_
     rintro r w5 ⟨rfl, hb5⟩
     rw [HT.out]
     have hb6 : Below V.heap.size V w5 := below_then (show Below wr.heap.size wr w5 by (repeat first | exact zR | assumption | apply zA | apply zS | apply zD | apply zN | refine zT (by assumption) ?_ | omega | simp <;> omega)) hq
     clear hb5 HD1 HD2
     go_wp2_with fail
     refine (one_yes _ E1.out _).mono ?_
     rintro r w6 ⟨rfl, rfl⟩
     go_wp2_with fail
     refine (sum_two _ _ _ _ E2.out E1.out E3.out _).mono ?_
     rintro r w7 ⟨rfl, rfl⟩
     have hs6 := hb6.size
     go_wp2
     go_roundw
     case rel => exact ⟨j + 1, u + 1, v + q.data.length, by omega, by go_num, by simp only [Int.natCast_add]; rfl, HU, HV, hid (by omega), hb6.alloc hs6 _⟩
     case measure => simp [intOf]; omega
    ·obtain rfl : j = z.entries.length := by omega
     have S1' : Hid (nEntries (l.take (k + 1)) = u) := hid (by rw [S1.out, hu.out])
     have S2' : Hid (nBytes (l.take (k + 1)) = v) := hid (by rw [S2.out, hv.out, List.take_length])
     clear hu hv
     go_wp2
     go_roundw
     case rel => exact ⟨k + 1, by omega, by go_num, by rw [S1'.out, S2'.out], by rw [S1'.out, S2'.out]; exact huv, below_then (below_then hq hbV) hb⟩
     case measure => simp [intOf]; omega
  ·obtain rfl : k = l.length := by omega
   rw [List.take_length] at hz ⊢
   have HZ := hz
   clear hz
   go_wp2
   go_ret
   exact ⟨rfl, hb3, HZ.out⟩
end Go.Proofs.YtkipiefcnjfdjaaGreat
namespace Go.Proofs.YtkipiefcnjfdjaaGreat
open Go.RowKit Go.Bs
set_option linter.unusedVariables false
set_option linter.unusedSimpArgs false
theorem OwnEls.low {w : World} {α : Type} {lo lo' base base' : Nat} {A : Rp α} {e : TypeId} {sz : Nat} {v : Value} {xs : List α} (h : OwnEls lo A base e sz w v xs) (hl : lo' ≤ lo) (hb : base' ≤ base) : OwnEls lo' A base' e sz w v xs := by
 obtain ⟨cells, ho, hlen, hsz, hA⟩ := h
 refine ⟨cells, ⟨ho.1, ?_⟩, hlen, hsz, fun i cs x hi hx => A.mono (hA i cs x hi hx) fun b h => ⟨by have := h.1; omega, h.2⟩⟩
 rcases ho.2 with h0 | ⟨g', cap, cur, h1, h2, h3⟩
 ·exact .inl h0
 ·exact .inr ⟨g', cap, cur, h1, by omega, h3⟩
end Go.Proofs.YtkipiefcnjfdjaaGreat
namespace Go.Proofs.YtkipiefcnjfdjaaGreat
open Go.RowKit Go.Bs
set_option linter.unusedVariables false
set_option linter.unusedSimpArgs false
structure AppI (w W : World) (ep : Int) (a : Option Addr) (n c : Nat) (b : Batch) (ab : Option Addr) (nb cb : Nat) : Prop where
 below : Below w.heap.size w W
 g : Blk W w.heap.size 62 #[.int .u64 ep, .slice a n c]
 x : Blk W (w.heap.size + 1) 25 #[.int .u64 b.epoch, .int .u64 b.base, .slice ab nb cb]
 r : Blk W (w.heap.size + 1 + 1) 62 #[.int .u64 0, .slice none 0 0]
theorem AppI.later {w W W' : World} {ep : Int} {a : Option Addr} {n c : Nat} {b : Batch} {ab : Option Addr} {nb cb : Nat} (h : AppI w W ep a n c b ab nb cb) (hb : Below W.heap.size W W') : AppI w W' ep a n c b ab nb cb :=
 ⟨below_then hb h.below, h.g.later hb, h.x.later hb, h.r.later hb⟩
theorem AppI.grown {w W W' : World} {ep : Int} {a : Option Addr} {n c : Nat} {b : Batch} {ab : Option Addr} {nb cb : Nat} {v : Value} (h : AppI w W ep a n c b ab nb cb) (hg : W.grownBy W' v.ownBlock) (hv : ∀ g, v.ownBlock = some g → w.heap.size + 3 ≤ g) : AppI w W' ep a n c b ab nb cb :=
 ⟨h.below.grown hg h.below.size (fun g e => by have := hv g e; omega), h.g.grown hg (fun e => by have := hv _ e.symm; omega), h.x.grown hg (fun e => by have := hv _ e.symm; omega), h.r.grown hg (fun e => by have := hv _ e.symm; omega)⟩
end Go.Proofs.YtkipiefcnjfdjaaGreat
namespace Go.Proofs.YtkipiefcnjfdjaaGreat
open Go.RowKit Go.Bs Go.Maps
set_option linter.unusedVariables false
set_option linter.unusedSimpArgs false
set_option maxRecDepth 100000 in
set_option maxHeartbeats 1600000 in
theorem live34 (w : World) : Calls Tryz.prog 39 #[] w fun r w' => r = .returned (.bool true) ∧ Below w.heap.size w w' := by
 have HB := hid (seg_bytes5 w)
 go_enter Tryz.func39, Tryz.ntmps39
 go_wp2_with fail
 refine HB.out.mono ?_
 rintro r w1 ⟨v, rfl, hr, hb1⟩
 obtain ⟨a1, c1, hv, hr2, _⟩ := sl_form hr
 simp only [List.cons.injEq, and_true] at hv
 subst hv
 obtain ⟨_, _, hc42, hcm⟩ := sl_len hr2
 obtain ⟨b, o, rfl, _, _⟩ := byte_at hr2 (i := 0) (by decide)
 have h4 := sl_take hr2 (k := 4) (by decide)
 have h13 := sl_take (sl_drop hr2 (k := 10) (by decide)) (k := 3) (by decide)
 have kc := bytes_str (P := Tryz.prog) 28 9 5 Tryz.underlying28 Tryz.underlying5 Tryz.underlying9 h4
 have HR := hid (rBytes.mono (S' := (· < w1.heap.size)) h13 fun q hq => hq.2)
 simp only [List.length_cons, List.length_nil, List.take_succ_cons, List.take_zero, List.drop_succ_cons, List.drop_zero, Nat.zero_add, Nat.reduceAdd] at kc HR hc42
 clear h4 h13 hr hr2
 go_wp2_with fail
 have hs1 := same_bytes [2, 2, 0] [2, 2, 0] (some ⟨b, o + 10, none⟩) (some ⟨w1.heap.size, 0, none⟩) 3 (c1 - 10) 3 3 (w1.alloc (.cells #[.int .u8 2, .int .u8 2, .int .u8 0] 5)) (lift HR.out (by clear hb1; (repeat (first | exact Below.refl _ _ | assumption | (refine below_alloc ?_ _) | (refine Below.setCell ?_ (by first | omega | (simp; done) | (simp; omega)) _) | (refine Below.drew ?_) | (refine below_drewN ?_ _) | (refine below_then (by assumption) ?_))))) (lit_bytes (l := [2, 2, 0]) (cs := #[.int .u8 2, .int .u8 2, .int .u8 0]) rfl (by decide) (World.alloc_heap_new w1 _))
 simp only [decide_true] at hs1
 refine hs1.mono ?_
 rintro r w3 ⟨rfl, rfl⟩
 have hbe : Below w.heap.size w (w1.alloc (.cells #[.int .u8 2, .int .u8 2, .int .u8 0] 5)) := below_alloc hb1 _
 clear hs1
 generalize w1.alloc (.cells #[.int .u8 2, .int .u8 2, .int .u8 0] 5) = w3 at *
 go_wp2
 go_ret
 exact ⟨rfl, hbe⟩
end Go.Proofs.YtkipiefcnjfdjaaGreat
namespace Go.Proofs.YtkipiefcnjfdjaaGreat
open Go.RowKit Go.Bs
set_option linter.unusedVariables false
set_option linter.unusedSimpArgs false
def longG {α : Type} (K : Nat) (p : α → Bool) (l : List α) : Bool := decide (K < l.length) || (l.take K).any p
def longGAt {α : Type} (K : Nat) (p : α → Bool) (l : List α) (k : Nat) : Bool := decide (K < l.length) || ((l.take K).drop k).any p
theorem longG_no {α : Type} {K : Nat} {p : α → Bool} {l : List α} (h : longG K p l = false) : l.length ≤ K ∧ ∀ x ∈ l, p x = false := by
 simp only [longG, Bool.or_eq_false_iff, decide_eq_false_iff_not, List.any_eq_false] at h
 obtain ⟨h1, h2⟩ := h
 rw [List.take_of_length_le (by omega)] at h2
 exact ⟨by omega, fun x hx => by simpa using h2 x hx⟩
theorem longGAt_step {α : Type} (K : Nat) (p : α → Bool) (l : List α) (k : Nat) (h : k < l.length) (h2 : k < K) : longGAt K p l k = (p l[k] || longGAt K p l (k + 1)) := by
 unfold longGAt
 have e : (l.take K)[k]'(by simp; omega) = l[k] := by simp
 rw [List.drop_eq_getElem_cons (show k < (l.take K).length by simp; omega), List.any_cons, e]
 cases decide (K < l.length) <;> cases p l[k] <;> simp
theorem longGAt_end {α : Type} (K : Nat) (p : α → Bool) (l : List α) (k : Nat) (h : l.length ≤ k ∨ K ≤ k) : longGAt K p l k = decide (K < l.length) := by
 unfold longGAt
 rw [List.drop_of_length_le (by simp; omega)]
 simp
def long23 (l : List Link) : Bool := longG 50 (fun x => decide (50 < x.backs.length)) l
def long24 (e : Entry) : Bool := long23 e.links || decide (500 < e.data.length)
def many24 (l : List Entry) : Bool := longG 30 long24 l
def long25 (l : List Entry) : Bool := many24 l || decide (300 < total (l.take 30))
def long34 (l : List Batch) : Bool := longG 20 (fun b => long25 b.entries) l
set_option maxRecDepth 100000 in
set_option maxHeartbeats 1600000 in
theorem law23_long (l : List Link) (a : Option Addr) (n c : Nat) (w : World) (hl : rLinks.r (· < w.heap.size) w [.slice a n c] l) :
  Calls Tryz.prog 190 #[.slice a n c] w fun r w' => r = .returned (.bool (long23 l)) ∧ Below w.heap.size w w' := by
 obtain ⟨rfl, hm, _, _⟩ := sl_len hl
 have HL := hid hl; clear hl
 go_enter Tryz.func190, Tryz.ntmps190
 go_wp2_with fail
 go_loop [3] (fun i => ∃ k : Nat, k ≤ l.length ∧ k ≤ 50 ∧ i = .int .i64 k ∧ Hid (long23 l = longGAt 50 (fun x => decide (50 < x.backs.length)) l k)) (fun i => l.length - (intOf i).toNat)
 case atStart => exact ⟨0, Nat.zero_le _, Nat.zero_le _, rfl, hid rfl⟩
 case round =>
  obtain ⟨k, hk, hk2, rfl, hf⟩ := hrel
  by_cases hlt : k < l.length
  ·by_cases h450 : k < 50
   ·obtain ⟨b, o, hA, hbb, a1, c1, X0, X1, _, _⟩ := link_at HL.out hlt
    subst hA
    have hst := hid (longGAt_step 50 (fun x => decide (50 < x.backs.length)) l k hlt h450)
    generalize l[k] = x at *
    generalize x.stream = xs at *
    generalize x.backs.length = n1 at *
    by_cases h3 : 50 < n1
    ·have hff : Hid (long23 l = true) := hid (by rw [hf.out, hst.out]; simp [h3])
     have d3 : decide ((50 : Int) < (n1 : Int)) = true := by simp; omega
     clear h3
     go_wp2
     go_ret
     exact ⟨by rw [hff.out]; rfl, by (repeat first | exact zR | assumption | apply zA | apply zS | apply zD | apply zN | refine zT (by assumption) ?_ | omega | simp <;> omega)⟩
    ·have hff : Hid (long23 l = longGAt 50 (fun x => decide (50 < x.backs.length)) l (k + 1)) := hid (by rw [hf.out, hst.out]; simp [h3])
     have d3 : decide ((50 : Int) < (n1 : Int)) = false := by simp; omega
     clear h3
     go_wp2
     go_round
     case rel => exact ⟨k + 1, by omega, by omega, by go_num, hff⟩
     case measure => simp [intOf]; omega
   ·have hff : Hid (long23 l = decide ((50 : Int) < (l.length : Int))) := hid (by rw [hf.out, longGAt_end _ _ l k (.inr (by omega))]; simp only [decide_eq_decide]; omega)
    go_wp2
    go_ret
    exact ⟨by rw [hff.out]; rfl, by (repeat first | exact zR | assumption | apply zA | apply zS | apply zD | apply zN | refine zT (by assumption) ?_ | omega | simp <;> omega)⟩
  ·have hff : Hid (long23 l = decide ((50 : Int) < (l.length : Int))) := hid (by rw [hf.out, longGAt_end _ _ l k (.inl (by omega))]; simp only [decide_eq_decide]; omega)
   go_wp2
   go_ret
   exact ⟨by rw [hff.out]; rfl, by (repeat first | exact zR | assumption | apply zA | apply zS | apply zD | apply zN | refine zT (by assumption) ?_ | omega | simp <;> omega)⟩
set_option maxHeartbeats 800000 in
theorem law24_long (x : Entry) (a a' : Option Addr) (n c n' c' : Nat) (w : World) (hl : rLinks.r (· < w.heap.size) w [.slice a n c] x.links) (hd : rBytes.r (· < w.heap.size) w [.slice a' n' c'] x.data) :
  Calls Tryz.prog 128 #[.agg #[.slice a n c, .slice a' n' c']] w fun r w' => r = .returned (.bool (long24 x)) ∧ Below w.heap.size w w' := by
 obtain ⟨rfl, hm, _, _⟩ := sl_len hl
 obtain ⟨rfl, hm', _, _⟩ := sl_len hd
 have HL := hid hl; clear hl hd
 have HLL := hid (show long24 x = (long23 x.links || decide (500 < x.data.length)) from rfl)
 go_enter Tryz.func128, Tryz.ntmps128
 go_wp2_with fail
 refine (law23_long x.links _ _ _ _ (lift HL.out (by (repeat first | exact zR | assumption | apply zA | apply zS | apply zD | apply zN | refine zT (by assumption) ?_ | omega | simp <;> omega)))).mono ?_
 rintro r w1 ⟨rfl, hb1⟩
 cases h : long23 x.links
 ·have hff : Hid (long24 x = decide ((500 : Int) < (x.data.length : Int))) := hid (by rw [HLL.out, h, Bool.false_or]; simp only [decide_eq_decide]; omega)
  clear h
  have c1 : w1.cell? ⟨w.heap.size, 1, none⟩ = some (.slice a' x.data.length c') := (Later.mk w1 hb1).cell (by go_simp)
  go_wp2
  go_ret
  exact ⟨by rw [hff.out]; rfl, by (repeat first | exact zR | assumption | apply zA | apply zS | apply zD | apply zN | refine zT (by assumption) ?_ | omega | simp <;> omega)⟩
 ·have hff : Hid (long24 x = true) := hid (by rw [HLL.out, h]; rfl)
  clear h
  go_wp2
  go_ret
  exact ⟨by rw [hff.out]; rfl, by (repeat first | exact zR | assumption | apply zA | apply zS | apply zD | apply zN | refine zT (by assumption) ?_ | omega | simp <;> omega)⟩
set_option maxRecDepth 100000 in
set_option maxHeartbeats 1600000 in
theorem law24_many (l : List Entry) (a : Option Addr) (n c : Nat) (w : World) (hl : rEntries.r (· < w.heap.size) w [.slice a n c] l) :
  Calls Tryz.prog 68 #[.slice a n c] w fun r w' => r = .returned (.bool (many24 l)) ∧ Below w.heap.size w w' := by
 obtain ⟨rfl, hm, _, _⟩ := sl_len hl
 have HL := hid hl; clear hl
 go_enter Tryz.func68, Tryz.ntmps68
 go_wp2_with fail
 go_loopw [3] (fun i wr => ∃ k : Nat, k ≤ l.length ∧ k ≤ 30 ∧ i = .int .i64 k ∧ Hid (many24 l = longGAt 30 long24 l k) ∧ Below w.heap.size w wr) (fun i _ => l.length - (intOf i).toNat)
 case atStart => exact ⟨0, Nat.zero_le _, Nat.zero_le _, rfl, hid rfl, Below.refl _ _⟩
 case round =>
  obtain ⟨k, hk, hk2, rfl, hf, hb⟩ := hrel
  by_cases hlt : k < l.length
  ·by_cases h450 : k < 30
   ·obtain ⟨b, o, hA, hbb, a1, c1, a2, c2, X0, X1, hd1, hd2⟩ := entry_at (lift HL.out hb) hlt
    subst hA
    have hst := hid (longGAt_step 30 long24 l k hlt h450)
    have HD1 := hid hd1; have HD2 := hid hd2; clear hd1 hd2
    generalize l[k] = x at *
    go_wp2_with fail
    refine (law24_long x _ _ _ _ _ _ _ HD1.out HD2.out).mono ?_
    rintro r w1 ⟨rfl, hb1⟩
    have hb2 := below_then hb1 hb
    cases h3 : long24 x
    ·have hff : Hid (many24 l = longGAt 30 long24 l (k + 1)) := hid (by rw [hf.out, hst.out, h3]; rfl)
     clear h3
     go_wp2
     go_roundw
     case rel => exact ⟨k + 1, by omega, by omega, by go_num, hff, hb2⟩
     case measure => simp [intOf]; omega
    ·have hff : Hid (many24 l = true) := hid (by rw [hf.out, hst.out, h3]; rfl)
     clear h3
     go_wp2
     go_ret
     exact ⟨by rw [hff.out]; rfl, hb2⟩
   ·have hff : Hid (many24 l = decide ((30 : Int) < (l.length : Int))) := hid (by rw [hf.out, longGAt_end _ _ l k (.inr (by omega))]; simp only [decide_eq_decide]; omega)
    go_wp2
    go_ret
    exact ⟨by rw [hff.out]; rfl, hb⟩
  ·have hff : Hid (many24 l = decide ((30 : Int) < (l.length : Int))) := hid (by rw [hf.out, longGAt_end _ _ l k (.inl (by omega))]; simp only [decide_eq_decide]; omega)
   go_wp2
   go_ret
   exact ⟨by rw [hff.out]; rfl, hb⟩
theorem many24_no {l : List Entry} (h : many24 l = false) : l.length ≤ 30 ∧ ∀ x ∈ l, x.data.length ≤ 500 ∧ x.links.length ≤ 50 ∧ ∀ y ∈ x.links, y.backs.length ≤ 50 := by
 obtain ⟨h1, h2⟩ := longG_no h
 refine ⟨h1, fun x hx => ?_⟩
 have := h2 x hx
 simp only [long24, Bool.or_eq_false_iff, decide_eq_false_iff_not] at this
 obtain ⟨h3, h4⟩ := longG_no this.1
 exact ⟨by omega, h3, fun y hy => by have := h4 y hy; simpa using this⟩
theorem total_bound {l : List Entry} {k : Nat} (h : ∀ x ∈ l, x.data.length ≤ k) : total l ≤ k * l.length := by
 induction l with
 | nil => exact Nat.zero_le _
 | cons x l ih =>
  have h1 := ih fun y hy => h y (List.mem_cons_of_mem _ hy)
  have h2 := h x (List.mem_cons_self ..)
  simp only [total, List.map_cons, List.sum_cons, List.length_cons] at *
  rw [Nat.mul_succ]; omega
set_option maxRecDepth 100000 in
set_option maxHeartbeats 3200000 in
theorem law25_long (e b : Int) (l : List Entry) (a : Option Addr) (n c : Nat) (w : World) (hl : rEntries.r (· < w.heap.size) w [.slice a n c] l) :
  Calls Tryz.prog 15 #[.agg #[.int .u64 e, .int .u64 b, .slice a n c]] w fun r w' => r = .returned (.bool (long25 l)) ∧ Below w.heap.size w w' := by
 obtain ⟨rfl, hm, _, _⟩ := sl_len hl
 have HL := hid hl; clear hl
 have HLL := hid (show long25 l = (many24 l || decide (300 < total (l.take 30))) from rfl)
 cases hmn : many24 l
 ·obtain ⟨g1, g2⟩ := many24_no hmn
  have ht := total_bound (k := 500) (fun x hx => (g2 x hx).1)
  have hff : Hid (long25 l = decide ((300 : Int) < ((total l : Nat) : Int))) := hid (by rw [HLL.out, hmn, Bool.false_or, List.take_of_length_le g1]; simp only [decide_eq_decide]; omega)
  have hM := fun W h => law24_many l a l.length c W h
  rw [hmn] at hM
  have HM := hid hM; clear hM hmn g2
  have HT := hid ht; clear ht
  go_enter Tryz.func15, Tryz.ntmps15
  go_wp2_with fail
  refine wp_world (fun W => Below w.heap.size w W ∧ w.heap.size < W.heap.size ∧ W.cell? ⟨w.heap.size, 2, none⟩ = some (.slice a l.length c)) ⟨by (repeat first | exact zR | assumption | apply zA | apply zS | apply zD | apply zN | refine zT (by assumption) ?_ | omega | simp <;> omega), by simp, by go_simp⟩ ?_
  intro W ⟨hbW, hzW, q2⟩
  go_loop [3, 4] (fun s i => ∃ k : Nat, k ≤ l.length ∧ i = .int .i64 k ∧ s = .int .i64 (total (l.take k) : Nat)) (fun _ i => l.length - (intOf i).toNat)
  case atStart => exact ⟨0, Nat.zero_le _, rfl, rfl⟩
  case round =>
   obtain ⟨k, hk, rfl, rfl⟩ := hrel
   by_cases hlt : k < l.length
   ·obtain ⟨bb, o, hA, hbb, a1, c1, a2, c2, X0, X1, _, _⟩ := entry_at (lift HL.out hbW) hlt
    subst hA
    have hs := hid (total_step l k hlt)
    have h1 := total_take_le l (k + 1)
    rw [hs.out] at h1
    have h2 := HT.out
    have d3 : decide ((k : Int) < 30) = true := by simp; omega
    generalize l[k].links.length = n1 at *
    generalize l[k].data.length = n2 at *
    generalize total (l.take k) = t at *
    generalize total l = tt at *
    have h3 : t + n2 ≤ 15000 := by omega
    clear h1 h2
    go_wp2
    go_round
    case rel => exact ⟨k + 1, by omega, by go_num, by rw [hs.out]; simp only [Int.natCast_add]⟩
    case measure => simp [intOf]; omega
   ·obtain rfl : k = l.length := by omega
    rw [List.take_length]
    go_wp2_with fail
    refine (HM.out _ (lift HL.out hbW)).mono ?_
    rintro r w1 ⟨rfl, hb1⟩
    go_wp2
    go_ret
    exact ⟨by rw [hff.out]; rfl, below_then hb1 hbW⟩
 ·have hff : Hid (long25 l = true) := hid (by rw [HLL.out, hmn]; rfl)
  have hM := fun W h => law24_many l a l.length c W h
  rw [hmn] at hM
  have HM := hid hM; clear hM hmn
  go_enter Tryz.func15, Tryz.ntmps15
  go_wp2_with fail
  refine wp_world (fun W => Below w.heap.size w W ∧ w.heap.size < W.heap.size ∧ W.cell? ⟨w.heap.size, 2, none⟩ = some (.slice a l.length c)) ⟨by (repeat first | exact zR | assumption | apply zA | apply zS | apply zD | apply zN | refine zT (by assumption) ?_ | omega | simp <;> omega), by simp, by go_simp⟩ ?_
  intro W ⟨hbW, hzW, q2⟩
  go_loop [3, 4] (fun s i => ∃ (k : Nat) (m : Int), k ≤ l.length ∧ k ≤ 30 ∧ i = .int .i64 k ∧ s = .int .i64 m) (fun _ i => l.length - (intOf i).toNat)
  case atStart => exact ⟨0, 0, Nat.zero_le _, Nat.zero_le _, rfl, rfl⟩
  case round =>
   obtain ⟨k, m, hk, hk2, rfl, rfl⟩ := hrel
   by_cases hlt : k < l.length
   ·by_cases h30 : k < 30
    ·obtain ⟨bb, o, hA, hbb, a1, c1, a2, c2, X0, X1, _, _⟩ := entry_at (lift HL.out hbW) hlt
     subst hA
     generalize l[k].links.length = n1 at *
     generalize l[k].data.length = n2 at *
     go_wp2
     go_round
     case rel => exact ⟨k + 1, _, by omega, by omega, by go_num, rfl⟩
     case measure => simp [intOf]; omega
    ·go_wp2_with fail
     refine (HM.out _ (lift HL.out hbW)).mono ?_
     rintro r w1 ⟨rfl, hb1⟩
     go_wp2
     go_ret
     exact ⟨by rw [hff.out]; rfl, below_then hb1 hbW⟩
   ·go_wp2_with fail
    refine (HM.out _ (lift HL.out hbW)).mono ?_
    rintro r w1 ⟨rfl, hb1⟩
    go_wp2
    go_ret
    exact ⟨by rw [hff.out]; rfl, below_then hb1 hbW⟩
theorem long25_no {l : List Entry} (h : long25 l = false) : l.length ≤ 30 ∧ total l ≤ 300 ∧ ∀ x ∈ l, x.data.length ≤ 500 ∧ x.links.length ≤ 50 ∧ ∀ y ∈ x.links, y.backs.length ≤ 50 := by
 simp only [long25, Bool.or_eq_false_iff, decide_eq_false_iff_not] at h
 obtain ⟨h1, h2⟩ := many24_no h.1
 rw [List.take_of_length_le h1] at h
 exact ⟨h1, by omega, h2⟩
set_option maxRecDepth 100000 in
set_option maxHeartbeats 1600000 in
theorem law34_long (e : Int) (l : List Batch) (a : Option Addr) (n c : Nat) (w : World) (hl : rBatches.r (· < w.heap.size) w [.slice a n c] l) :
  Calls Tryz.prog 38 #[.agg #[.int .u64 e, .slice a n c]] w fun r w' => r = .returned (.bool (long34 l)) ∧ Below w.heap.size w w' := by
 obtain ⟨rfl, hm, _, _⟩ := sl_len hl
 have HL := hid hl; clear hl
 go_enter Tryz.func38, Tryz.ntmps38
 go_wp2_with fail
 refine wp_world (fun W => Below w.heap.size w W ∧ w.heap.size < W.heap.size ∧ W.cell? ⟨w.heap.size, 1, none⟩ = some (.slice a l.length c)) ⟨by (repeat first | exact zR | assumption | apply zA | apply zS | apply zD | apply zN | refine zT (by assumption) ?_ | omega | simp <;> omega), by simp, by go_simp⟩ ?_
 intro W ⟨hbW, hzW, q2⟩
 go_loopw [3] (fun i wr => ∃ k : Nat, k ≤ l.length ∧ k ≤ 20 ∧ i = .int .i64 k ∧ Hid (long34 l = longGAt 20 (fun b => long25 b.entries) l k) ∧ Below W.heap.size W wr) (fun i _ => l.length - (intOf i).toNat)
 case atStart => exact ⟨0, Nat.zero_le _, Nat.zero_le _, rfl, hid rfl, Below.refl _ _⟩
 case round =>
  obtain ⟨k, hk, hk2, rfl, hf, hb⟩ := hrel
  have hb3 := below_then hb hbW
  have t1 : wr.cell? ⟨w.heap.size, 1, none⟩ = some (.slice a l.length c) := (Later.mk wr hb).cell q2
  have hz3 : w.heap.size < wr.heap.size := by have := hb.size; omega
  by_cases hlt : k < l.length
  ·by_cases h450 : k < 20
   ·obtain ⟨b, o, hA, hbb, a1, c1, X0, X1, X2, _, _, hd⟩ := batch_at (lift HL.out hb3) hlt
    subst hA
    have hst := hid (longGAt_step 20 (fun b => long25 b.entries) l k hlt h450)
    have HD := hid hd; clear hd
    generalize l[k] = x at *
    go_wp2_with fail
    refine (law25_long _ _ x.entries _ _ _ _ HD.out).mono ?_
    rintro r w1 ⟨rfl, hb1⟩
    have hb2 := below_then hb1 hb
    cases h3 : long25 x.entries
    ·have hff : Hid (long34 l = longGAt 20 (fun b => long25 b.entries) l (k + 1)) := hid (by rw [hf.out, hst.out]; simp [h3])
     clear h3
     go_wp2
     go_roundw
     case rel => exact ⟨k + 1, by omega, by omega, by go_num, hff, hb2⟩
     case measure => simp [intOf]; omega
    ·have hff : Hid (long34 l = true) := hid (by rw [hf.out, hst.out]; simp [h3])
     clear h3
     go_wp2
     go_ret
     exact ⟨by rw [hff.out]; rfl, below_then hb1 hb3⟩
   ·have hff : Hid (long34 l = decide ((20 : Int) < (l.length : Int))) := hid (by rw [hf.out, longGAt_end _ _ l k (.inr (by omega))]; simp only [decide_eq_decide]; omega)
    go_wp2
    go_ret
    exact ⟨by rw [hff.out]; rfl, hb3⟩
  ·have hff : Hid (long34 l = decide ((20 : Int) < (l.length : Int))) := hid (by rw [hf.out, longGAt_end _ _ l k (.inl (by omega))]; simp only [decide_eq_decide]; omega)
   go_wp2
   go_ret
   exact ⟨by rw [hff.out]; rfl, hb3⟩
theorem long34_no {l : List Batch} (h : long34 l = false) : l.length ≤ 20 ∧ ∀ b ∈ l, b.entries.length ≤ 30 ∧ total b.entries ≤ 300 ∧ ∀ x ∈ b.entries, x.data.length ≤ 500 ∧ x.links.length ≤ 50 ∧ ∀ y ∈ x.links, y.backs.length ≤ 50 := by
 obtain ⟨h1, h2⟩ := longG_no h
 exact ⟨h1, fun b hb => long25_no (h2 b hb)⟩
end Go.Proofs.YtkipiefcnjfdjaaGreat
namespace Go.Bs
open Go.RowKit
set_option linter.unusedVariables false
theorem OwnElsF.app {α : Type} {w w' : World} {F : Nat → Prop} {A : Rp α} {base : Nat} {e : TypeId} {sz : Nat} {v v' : Value} {xs ys : List α} {news : List (List Value)} {cells : List (List Value)} (h : OwnElsF F A base e sz w v xs cells) (hF : ∀ b, F b → b < w.heap.size)
  (hl : news.length = ys.length) (hn : ∀ c ∈ news, c.length = sz) (hx : ∀ (i : Nat) cs y, news[i]? = some cs → ys[i]? = some y → A.r (fun b => F b ∧ v.ownBlock ≠ some b) w cs y)
  (hown : w'.ownsRow base e sz v' (xs.length + ys.length) (cells.flatten ++ news.flatten)) (hg : w.grownBy w' v.ownBlock) (hat : v'.ownBlock = v.ownBlock ∨ v'.ownBlock = some w.heap.size) : OwnElsF F A base e sz w' v' (xs ++ ys) (cells ++ news) := by
 obtain ⟨ho, hlen, hsz, hA⟩ := h
 have lift : ∀ cs y, A.r (fun b => F b ∧ v.ownBlock ≠ some b) w cs y → A.r (fun b => F b ∧ v'.ownBlock ≠ some b) w' cs y := fun cs y hr =>
  A.mono (A.keep hr fun b hb => hg.block b (hF b hb.1) (fun e => hb.2 e.symm)) fun b hb => ⟨hb.1, fun e => by
   rcases hat with h | h
   ·exact hb.2 (h ▸ e)
   ·rw [h] at e; have := Option.some.inj e; have := hF b hb.1; omega⟩
 refine ⟨?_, by simp [hlen, hl], ?_, ?_⟩
 ·rw [List.flatten_append, List.length_append]
  exact hown
 ·intro c hc
  rcases List.mem_append.1 hc with h | h
  ·exact hsz c h
  ·exact hn c h
 ·intro i cs y hi hy
  by_cases hlt : i < xs.length
  ·rw [List.getElem?_append_left (by omega)] at hi
   rw [List.getElem?_append_left hlt] at hy
   exact lift _ _ (hA i cs y hi hy)
  ·rw [List.getElem?_append_right (by omega), hlen] at hi
   rw [List.getElem?_append_right (by omega)] at hy
   exact lift _ _ (hx _ _ _ hi hy)
end Go.Bs
namespace Go.Proofs.YtkipiefcnjfdjaaGreat
open Go.RowKit Go.Bs
set_option linter.unusedVariables false
set_option linter.unusedSimpArgs false
theorem tame_fair {l : List Entry} (h : l.length ≤ 30 ∧ total l ≤ 300 ∧ ∀ x ∈ l, x.data.length ≤ 500 ∧ x.links.length ≤ 50 ∧ ∀ y ∈ x.links, y.backs.length ≤ 50) : Fair l ∧ l.length ≤ 1000000000000 ∧ ∀ z ∈ l, Mild z :=
 ⟨⟨by omega, by omega, fun e he x hx => by have := (h.2.2 e he).2.2 x hx; omega⟩, by omega, fun z hz => ⟨by have := (h.2.2 z hz).2.1; omega, by have := (h.2.2 z hz).1; omega, fun y hy => by have := (h.2.2 z hz).2.2 y hy; omega⟩⟩
structure LawI (w W : World) (ep : Int) (a : Option Addr) (n c : Nat) (b : Batch) (ab : Option Addr) (nb cb : Nat) : Prop where
 below : Below w.heap.size w W
 g : Blk W w.heap.size 62 #[.int .u64 ep, .slice a n c]
 x : Blk W (w.heap.size + 1) 25 #[.int .u64 b.epoch, .int .u64 b.base, .slice ab nb cb]
theorem LawI.later {w W W' : World} {ep : Int} {a : Option Addr} {n c : Nat} {b : Batch} {ab : Option Addr} {nb cb : Nat} (h : LawI w W ep a n c b ab nb cb) (hb : Below W.heap.size W W') : LawI w W' ep a n c b ab nb cb :=
 ⟨below_then hb h.below, h.g.later hb, h.x.later hb⟩
structure LawH (w w4 W : World) (ep : Int) (a : Option Addr) (n c : Nat) (b : Batch) (ab : Option Addr) (nb cb : Nat) (gh : Nat) (e3 : Int) (a3 : Option Addr) (n3 c3 : Nat) : Prop extends LawI w W ep a n c b ab nb cb where
 later4 : Below w4.heap.size w4 W
 h : Blk W gh 62 #[.int .u64 e3, .slice a3 n3 c3]
theorem LawH.later {w w4 W W' : World} {ep : Int} {a : Option Addr} {n c : Nat} {b : Batch} {ab : Option Addr} {nb cb : Nat} {gh : Nat} {e3 : Int} {a3 : Option Addr} {n3 c3 : Nat} (h : LawH w w4 W ep a n c b ab nb cb gh e3 a3 n3 c3) (hb : Below W.heap.size W W') : LawH w w4 W' ep a n c b ab nb cb gh e3 a3 n3 c3 :=
 ⟨h.toLawI.later hb, below_then hb h.later4, h.h.later hb⟩
set_option maxRecDepth 100000 in
theorem seg_arg {H : Type} (enc : TypeId × Value → H) (W : World) (base : Nat) (v0 : Value) (d0 : DataW H) (p0 : List MemPlace)
  (k0 : DataW.Trod enc Tryz.prog W 0 (fun _ => true) true 62 v0 d0 p0) (o0 : Value.okWide Tryz.prog W .any base 62 v0) :
  ∃ (ep : Int) (l : List Batch) (a : Option Addr) (n c : Nat), v0 = .agg #[.int .u64 ep, .slice a n c] ∧ (0 ≤ ep ∧ ep ≤ 18446744073709551615) ∧ rBatches.r (· < W.heap.size) W [.slice a n c] l := by
 obtain ⟨fuel, hf⟩ := k0
 obtain ⟨cs, rfl, hsz⟩ := Go.WideShapes.okWide_struct Tryz.underlying62 o0
 obtain ⟨u, hu⟩ := o_seg enc W fuel _ _ hf
 obtain ⟨a, c, hcs, h0, hl⟩ := seg_cells hu
 have e : cs = #[.int .u64 u.epoch, .slice a u.batches.length c] := by
  have := hcs
  simp only [Value.cells] at this
  exact Array.ext' this
 exact ⟨u.epoch, u.batches, a, _, c, by rw [e], h0, hl⟩
end Go.Proofs.YtkipiefcnjfdjaaGreat
namespace Go.Proofs.YtkipiefcnjfdjaaGreat
open Go.RowKit Fl Go.Bs
set_option linter.unusedVariables false
set_option linter.unusedSimpArgs false
theorem EntRet.one {X : Option Entry} {w w' : World} {r : Ending} (h : EntRet X w r w') : ∃ v1 v2, r = .returned (.tuple #[.agg #[v1, v2], .bool X.isSome]) ∧ rLinks.r (Fresh w w') w' [v1] (X.getD ⟨[], []⟩).links ∧ rBytes.r (Fresh w w') w' [v2] (X.getD ⟨[], []⟩).data ∧ Below w.heap.size w w' := by
 cases X with
 | none => exact ⟨_, _, h.1, rSl_mk (xs := []) rfl (Nat.le_refl _) (Nat.zero_le _) (.inl rfl), rSl_mk (xs := []) rfl (Nat.le_refl _) (Nat.zero_le _) (.inl rfl), h.2⟩
 | some e => exact h
structure LawF (w W : World) (ep : Int) (a : Option Addr) (n c : Nat) : Prop where
 below : Below w.heap.size w W
 g : Blk W w.heap.size 62 #[.int .u64 ep, .slice a n c]
theorem LawF.later {w W W' : World} {ep : Int} {a : Option Addr} {n c : Nat} (h : LawF w W ep a n c) (hb : Below W.heap.size W W') : LawF w W' ep a n c := ⟨below_then hb h.below, h.g.later hb⟩
theorem count_le {l : List Batch} {m : Nat} {f : Batch → Nat} (h : ∀ b ∈ l, f b ≤ m) : (l.map f).sum ≤ m * l.length := by
 induction l with
 | nil => simp
 | cons x l ih =>
  have h1 := ih fun b hb => h b (List.mem_cons_of_mem _ hb)
  have h2 := h x (List.mem_cons_self ..)
  simp only [List.map_cons, List.sum_cons, List.length_cons, Nat.mul_succ]
  omega
set_option maxRecDepth 100000 in
set_option maxHeartbeats 6400000 in
theorem segmentFinds_c (ep : Int) (l : List Batch) (pos : Int) (a : Option Addr) (n c : Nat) (w : World) (h0 : 0 ≤ ep ∧ ep ≤ 18446744073709551615) (hl : rBatches.r (· < w.heap.size) w [.slice a n c] l) (hp : 0 ≤ pos ∧ pos ≤ 18446744073709551615) :
  Calls Tryz.prog 10 #[.agg #[.int .u64 ep, .slice a n c], .int .u64 pos] w fun r w' => r = .returned (.bool true) ∧ Below w.heap.size w w' := by
 obtain ⟨rfl, hm, _, _⟩ := sl_len hl
 have H34 := hid (fun (W : World) (hW : Below w.heap.size w W) => law34_long ep l a _ c W (lift hl hW))
 have HL := hid hl
 have HI0 : Hid (LawF w (w.alloc (.cells #[.int .u64 ep, .slice a l.length c] 62)) ep a l.length c) := hid ⟨below_alloc (Below.refl _ _) _, Blk.new w _ _⟩
 clear hl
 cases hl1 : long34 l
 ·rw [hl1] at H34
  obtain ⟨hL20, hLs⟩ := long34_no hl1
  have hfair : ∀ x ∈ l, Fair x.entries := fun x hx => (tame_fair (hLs x hx)).1
  have hmild : ∀ x ∈ l, MildB x := fun x hx => (tame_fair (hLs x hx)).2
  have hN1 : nEntries l ≤ 30 * l.length := count_le fun b hb => (hLs b hb).1
  have hN2 : nBytes l ≤ 300 * l.length := count_le fun b hb => (hLs b hb).2.1
  have HEN := hid (fun (W : World) (hW : Below w.heap.size w W) => segment_entry ep l pos a _ c W h0 (lift HL.out hW) hfair (fun x hx => (hmild x hx).2) hp)
  have HCO := hid (fun (W : World) (hW : Below w.heap.size w W) => ref34_counts ep l a _ c W (lift HL.out hW) (by omega) (by omega))
  have HTA := hid (fun (W : World) (hW : Below w.heap.size w W) => segment_tally ep l a _ c W (lift HL.out hW) (by omega) (by omega))
  have HR := hid (fun (W : World) (hW : Below w.heap.size w W) => ref34_right ep l a _ c W h0 (lift HL.out hW) hfair)
  clear hl1 hLs hfair hmild
  generalize hX : (if segR ⟨ep, l⟩ then findS l pos else none) = X at *
  have HX := hid hX
  clear hX
  generalize hNE : nEntries l = ne at *
  generalize hNB : nBytes l = nb at *
  clear hNE hNB
  go_enter Tryz.func10, Tryz.ntmps10
  go_wp2_with fail
  refine (H34.out _ HI0.out.below).mono ?_
  rintro r w1 ⟨rfl, hb1'⟩
  have HI1 := hid (HI0.out.later hb1')
  clear hb1'
  have g0 : w1.cell? ⟨w.heap.size, 0, none⟩ = some (.int .u64 ep) := HI1.out.g.cell 0
  have g1 : w1.cell? ⟨w.heap.size, 1, none⟩ = some (.slice a l.length c) := HI1.out.g.cell 1
  go_wp2_with fail
  refine (HEN.out _ HI1.out.below).mono ?_
  intro r w2 hr2
  obtain ⟨v1, v2, rfl, hv1, hv2, hb2'⟩ := hr2.one
  clear hr2 g0 g1
  obtain ⟨a3, c3, hf3, hv1', _⟩ := sl_form hv1
  simp only [List.cons.injEq, and_true] at hf3
  subst hf3
  obtain ⟨a4, c4, hf4, hv2', _⟩ := sl_form hv2
  simp only [List.cons.injEq, and_true] at hf4
  subst hf4
  clear hv1' hv2'
  have HI2 := hid (HI1.out.later hb2')
  clear hb2'
  have HV1 := hid (rLinks.mono (S' := fun q => q < w2.heap.size) hv1 fun q hq => hq.2)
  have HV2 := hid (rBytes.mono (S' := fun q => q < w2.heap.size) hv2 fun q hq => hq.2)
  clear hv1 hv2
  generalize hen : X.getD ⟨[], []⟩ = en at *
  have HE := hid hen
  clear hen
  have g0 : w2.cell? ⟨w.heap.size, 0, none⟩ = some (.int .u64 ep) := HI2.out.g.cell 0
  have g1 : w2.cell? ⟨w.heap.size, 1, none⟩ = some (.slice a l.length c) := HI2.out.g.cell 1
  have hzw : w.heap.size < w2.heap.size := HI2.out.g.lt
  generalize hok : X.isSome = ok at *
  have HK := hid hok
  clear hok
  go_wp2_with fail
  have hb23 : Below w2.heap.size w2 (w2.alloc (.cells #[.slice a3 en.links.length c3, .slice a4 en.data.length c4] 75)) := by (repeat first | with_reducible (first | exact zR | assumption | apply zA | apply zS | apply zD | apply zN) | refine zT (by with_reducible assumption) ?_ | omega | simp <;> omega)
  have hE3 := Blk.new w2 75 #[.slice a3 en.links.length c3, .slice a4 en.data.length c4]
  generalize w2.alloc (.cells #[.slice a3 en.links.length c3, .slice a4 en.data.length c4] 75) = w3 at *
  have HI3 := hid (HI2.out.later hb23)
  have HE3 := hid hE3
  have HU1 := hid (lift HV1.out hb23)
  have HU2 := hid (lift HV2.out hb23)
  clear hE3 hb23 HV1 HV2 g0 g1
  refine (HCO.out _ HI3.out.below).mono ?_
  rintro r w4 ⟨rfl, hb4⟩
  have HI4 := hid (HI3.out.later hb4)
  have g0 : w4.cell? ⟨w.heap.size, 0, none⟩ = some (.int .u64 ep) := HI4.out.g.cell 0
  have g1 : w4.cell? ⟨w.heap.size, 1, none⟩ = some (.slice a l.length c) := HI4.out.g.cell 1
  go_wp2_with fail
  refine (HTA.out _ HI4.out.below).mono ?_
  rintro r w5 ⟨rfl, hb5, hz⟩
  have HI5 := hid (HI4.out.later hb5)
  have HB35 := hid (below_then hb5 hb4)
  clear hb4 hb5 g0 g1
  have hrt : rt (ne : Int) (nb : Int) = true := rt_mk (by omega) (by omega) hz
  have b1 : (ne : Int).natAbs < 2 ^ 53 := rt_a hrt
  have b2 : (nb : Int).natAbs < 2 ^ 53 := rt_b hrt
  have HTH := hid (fun W : World => things_any (ne : Int) nb b1 b2 W)
  have HBY := hid (fun W : World => bytes_any (ne : Int) nb b1 b2 W)
  rw [hrt] at HTH HBY
  simp only [if_true] at HTH HBY
  clear hrt b1 b2 hz
  have g0 : w5.cell? ⟨w.heap.size, 0, none⟩ = some (.int .u64 ep) := HI5.out.g.cell 0
  have g1 : w5.cell? ⟨w.heap.size, 1, none⟩ = some (.slice a l.length c) := HI5.out.g.cell 1
  have d1 : ((ne : Int) != (ne : Int)) = false := by simp
  have d2 : ((nb : Int) != (nb : Int)) = false := by simp
  go_wp2_with fail
  refine (HTH.out _).mono ?_
  rintro r w6 ⟨rfl, rfl⟩
  go_wp2_with fail
  refine (HBY.out _).mono ?_
  rintro r w6 ⟨rfl, rfl⟩
  go_wp2_with fail
  refine (HR.out _ HI5.out.below).mono ?_
  rintro r w6 ⟨rfl, hb6⟩
  have HI6 := hid (HI5.out.later hb6)
  have HB36 := hid (below_then hb6 HB35.out)
  clear hb6 g0 g1 d1 d2 HTH HBY
  have hE6 := HE3.out.later HB36.out
  have x0 : w6.cell? ⟨w2.heap.size, 0, none⟩ = some (.slice a3 en.links.length c3) := hE6.cell 0
  have x1 : w6.cell? ⟨w2.heap.size, 1, none⟩ = some (.slice a4 en.data.length c4) := hE6.cell 1
  clear hE6
  have HSM := hid (fun (W : World) (hW : Below w3.heap.size w3 W) => ref24_same en ⟨[], []⟩ a3 none a4 none _ c3 0 0 _ c4 0 0 W (lift HU1.out hW) (lift HU2.out hW) (rSl_mk (xs := []) rfl (Nat.le_refl _) (Nat.zero_le _) (.inl rfl)) (rSl_mk (xs := []) rfl (Nat.le_refl _) (Nat.zero_le _) (.inl rfl)))
  cases hs : segR ⟨ep, l⟩
  ·have hXn : X = none := by rw [← HX.out, hs]; rfl
   subst hXn
   obtain rfl : ok = false := HK.out.symm
   have hd : decide (en = ⟨[], []⟩) = true := decide_eq_true HE.out.symm
   rw [hd] at HSM
   clear hs hd
   go_wp2_with fail
   refine (HSM.out _ HB36.out).mono ?_
   rintro r w7 ⟨rfl, hb7⟩
   go_wp2_with fail
   refine (live34 _).mono ?_
   rintro r w8 ⟨rfl, hb8⟩
   have hbe := below_then hb8 (below_then hb7 HI6.out.below)
   go_wp2
   go_ret
   exact ⟨rfl, hbe⟩
  ·have hX2 : findS l pos = X := by rw [← HX.out, hs, if_pos rfl]
   have HRE := hid (fun (W : World) (hW : Below w.heap.size w W) => ref34_entry ep l pos a _ c W (lift HL.out hW) hp (fun b hb => (batchR_facts ((segR_facts hs).2.2 b hb)).2.2.2.2.1))
   have HX2 := hid hX2
   clear hs hX2
   have g0 : w6.cell? ⟨w.heap.size, 0, none⟩ = some (.int .u64 ep) := HI6.out.g.cell 0
   have g1 : w6.cell? ⟨w.heap.size, 1, none⟩ = some (.slice a l.length c) := HI6.out.g.cell 1
   go_wp2_with fail
   refine (HRE.out _ HI6.out.below).mono ?_
   rintro r w7 ⟨hr, hb7⟩
   have HI7 := hid (HI6.out.later hb7)
   have HB37 := hid (below_then hb7 HB36.out)
   have y0 : w7.cell? ⟨w2.heap.size, 0, none⟩ = some (.slice a3 en.links.length c3) := (Later.mk w7 hb7).cell x0
   have y1 : w7.cell? ⟨w2.heap.size, 1, none⟩ = some (.slice a4 en.data.length c4) := (Later.mk w7 hb7).cell x1
   clear x0 x1 g0 g1 hb7
   have HLV := hid (fun s : Later w7 => live34 s.at_)
   unfold EntAt at hr
   rw [HX2.out] at hr
   cases X with
   | none =>
    obtain rfl : ok = false := HK.out.symm
    have hd : decide (en = ⟨[], []⟩) = true := decide_eq_true HE.out.symm
    rw [hd] at HSM
    clear hd
    dsimp only at hr
    subst hr
    go_wp2_with fail
    refine (HSM.out _ HB37.out).mono ?_
    rintro r w8 ⟨rfl, hb8⟩
    have HLW := hid (fun s : Later w8 => live34 s.at_)
    go_wp2_with fail
    refine wp_region_later (by kernel_rfl) (by kernel_rfl) ?_
    repeat (go_big_quiet_step ((go_at_call 39; exact later_of (HLW.out _))))
    refine wpQuiet_nil ?_
    rintro V ⟨⟨V', hbV⟩, rfl⟩
    have hbe := below_then hbV (below_then hb8 HI7.out.below)
    go_wp2
    go_ret
    exact ⟨rfl, hbe⟩
   | some e =>
    obtain rfl : ok = true := HK.out.symm
    obtain rfl : e = en := HE.out
    dsimp only at hr
    obtain ⟨i, k, hi, hk, he, rfl⟩ := hr
    obtain ⟨b, o, hA, hbb, a5, c5, X0, X1, X2, _, _, hd⟩ := batch_at (lift HL.out HI7.out.below) hi
    subst hA
    obtain ⟨b2, o2, hA2, hbb2, a6, c6, a7, c7, Z0, Z1, hd1, hd2⟩ := entry_at hd hk
    subst hA2
    clear hd
    have HD1 := hid hd1
    have HD2 := hid hd2
    have hdd : decide (e = l[i].entries[k]) = true := decide_eq_true he.symm
    have HDD := hid hdd
    have hmk := hid (sl_len hd1).2
    clear hd1 hd2 hdd he
    have g1 : w7.cell? ⟨w.heap.size, 1, none⟩ = some (.slice (some ⟨b, o, none⟩) l.length c) := HI7.out.g.cell 1
    have i1 : (i : Int) < (l.length : Int) := by omega
    have k1 : (k : Int) < (l[i].entries.length : Int) := by omega
    generalize l[i].entries[k] = q at *
    generalize l[i] = z at *
    have HSE := hid (fun s : Later w7 => ref24_same e q a3 a6 a4 a7 _ c3 _ c6 _ c4 _ c7 s.at_ (lift HU1.out (below_then s.below HB37.out)) (lift HU2.out (below_then s.below HB37.out)) (lift HD1.out s.below) (lift HD2.out s.below))
    rw [HDD.out] at HSE
    have E0 := fun s : Later w7 => s.cell y0
    have E1 := fun s : Later w7 => s.cell y1
    have G1 := fun s : Later w7 => s.cell g1
    have P2 := fun s : Later w7 => s.cell X2
    have Q0 := fun s : Later w7 => s.cell Z0
    have Q1 := fun s : Later w7 => s.cell Z1
    have db1 : decide ((0 : Int) ≤ (i : Int)) = true := decide_eq_true (by omega)
    have i0 : (0 : Int) ≤ (i : Int) := by omega
    go_wp2_with fail
    refine wp_region_later (by kernel_rfl) (by kernel_rfl) ?_
    repeat (go_big_quiet_step ((first | (go_at_call 54; with_reducible exact later_of (HSE.out _)) | (go_at_call 39; with_reducible exact later_of (HLV.out _)))))
    refine wpQuiet_nil ?_
    rintro V ⟨⟨V', hbV⟩, rfl⟩
    have hbe := below_then hbV HI7.out.below
    go_wp2
    go_ret
    exact ⟨rfl, hbe⟩
 ·rw [hl1] at H34
  clear hl1
  go_enter Tryz.func10, Tryz.ntmps10
  go_wp2_with fail
  refine (H34.out _ HI0.out.below).mono ?_
  rintro r w1 ⟨rfl, hb1'⟩
  have HI1 := hid (HI0.out.later hb1')
  go_wp2_with fail
  refine (live34 _).mono ?_
  rintro r w9 ⟨rfl, hb9⟩
  have hbe := below_then hb9 HI1.out.below
  go_wp2
  go_ret
  exact ⟨rfl, hbe⟩
set_option maxRecDepth 100000 in
theorem segmentFinds_walk {H : Type} (enc : TypeId × Value → H) (W : World) (base : Nat) (v0 v1 : Value) (d0 d1 : DataW H) (p0 p1 : List MemPlace)
  (k0 : DataW.Trod enc Tryz.prog W 0 (fun _ => true) true 62 v0 d0 p0) (k1 : DataW.Trod enc Tryz.prog W 0 (fun _ => true) true 22 v1 d1 p1)
  (o0 : Value.okWide Tryz.prog W .any base 62 v0) (o1 : Value.okWide Tryz.prog W .any base 22 v1) :
  Calls Tryz.prog 10 #[v0, v1] W fun e w' => e = .returned (.bool true) ∧ Below W.heap.size W w' := by
 obtain ⟨ep, l, a, n, c, rfl, h0, hl⟩ := seg_arg enc W base v0 d0 p0 k0 o0
 obtain ⟨f1, hf1⟩ := k1
 obtain ⟨p, rfl⟩ := Go.WideShapes.okWide_int Tryz.underlying22 o1
 obtain ⟨n', hn, hw⟩ := o_u64 enc W f1 _ _ hf1
 simp [Value.cells] at hn
 subst hn
 exact segmentFinds_c ep l p a n c W h0 hl (bounds_u64 hw)
end Go.Proofs.YtkipiefcnjfdjaaGreat
