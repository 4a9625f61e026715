/- Needed by segmentFinds_walk, part 4: texts put together by shake.py; no condition. -/
import Derived.Test.YtkipiefcnjfdjaaGreatF3
import Derived.Test.YtkipiefcnjfdjaaGreatF2
import Derived.Laws.MakeOwn
import Derived.Deep.RegionHeld3
import Derived.IntWalk
import Derived.ScopeJumps
import Derived.WalkMore
import Derived.Test.YtkipiefcnjfdjaaGreatF1
import Derived.Deep.Cut
import Derived.BigRegion
import Derived.RegionTactic
import Derived.Lib.SlBytesConst
import Derived.Laws.Bits64
import Derived.StillTail
import Derived.OrdersHeld
import Derived.Deep.RegionHeld
import Derived.Laws.FloatArith
import Derived.Laws.ComplexArith
import Derived.Test.YtkipiefcnjfdjaaGreatRows
namespace Go.Proofs.YtkipiefcnjfdjaaGreat
open Go.RowKit Go.Bs Go.Maps
set_option linter.unusedVariables false
set_option linter.unusedSimpArgs false
def markC (m : MarkD) : List Value := [.int .u64 m.pos, .int .i64 m.count, .int .i64 m.at_]
structure MarksAt (w : World) (base : Nat) (v : Value) (M : List MarkD) : Prop where
 own : w.ownsRow base 160 3 v M.length (M.map markC).flatten
 nat : ∀ m ∈ M, MarkN m
theorem MarksAt.nil {w : World} {base : Nat} : MarksAt w base (.slice none 0 0) [] := ⟨⟨rfl, .inl ⟨rfl, rfl⟩⟩, by simp⟩
theorem MarksAt.read {w : World} {base : Nat} {v : Value} {M : List MarkD} (h : MarksAt w base v M) : rMarks.r (fun q => base ≤ q ∧ q < w.heap.size) w [v] M :=
 OwnEls.slice (Nat.le_refl _) ⟨M.map markC, h.own, by simp, by intro cs hcs; obtain ⟨m, _, rfl⟩ := List.mem_map.1 hcs; rfl, fun i cs x hi hx => by
  rw [List.getElem?_map, hx] at hi
  simp at hi
  subst hi
  exact mark_mk (h.nat x (List.mem_of_getElem? hx))⟩
def footM (ep : Int) (M : List MarkD) (at_ size : Int) : FootD := ⟨ep, M.length, countM M, (endsM M).1, (endsM M).2, at_, size⟩
set_option maxRecDepth 100000 in
set_option maxHeartbeats 1600000 in
theorem seg_footOf (ep : Int) (M : List MarkD) (at_ size : Int) (al : Option Addr) (nl cl : Nat) (w : World) (hl : rMarks.r (· < w.heap.size) w [.slice al nl cl] M) (hR : marksR M = true) :
  Calls Tryz.prog 177 #[.int .u64 ep, .slice al nl cl, .int .i64 at_, .int .i64 size] w fun r w' => r = .returned (.agg (footM ep M at_ size).val) ∧ Below w.heap.size w w' := by
 obtain ⟨rfl, hm, _, _⟩ := sl_len hl
 have HE := hid (fun (W : World) (hW : Below w.heap.size w W) => index_entries W M al _ cl (lift hl hW) hR)
 have HN := hid (fun (W : World) (hW : Below w.heap.size w W) => index_ends W M al _ cl (lift hl hW) hR)
 have hff : Hid ((footM ep M at_ size).val = #[.int .u64 ep, .int .i64 M.length, .int .i64 (countM M), .int .u64 (endsM M).1, .int .u64 (endsM M).2, .int .i64 at_, .int .i64 size]) := hid rfl
 generalize countM M = n at *
 generalize (endsM M).1 = e1 at *
 generalize (endsM M).2 = e2 at *
 clear hl hR
 go_enter Tryz.func177, Tryz.ntmps177
 go_wp2_with fail
 refine (HE.out _ (by (repeat first | exact zR | assumption | apply zA | apply zS | apply zD | apply zN | refine zT (by assumption) ?_ | omega | simp <;> omega))).mono ?_
 rintro r w1 ⟨rfl, hb1⟩
 have hz1 : w.heap.size + 1 ≤ w1.heap.size := by have := hb1.size; simpa using this
 have q0 := (Blk.new w 91 #[.int .u64 0, .int .i64 0, .int .i64 0, .int .u64 0, .int .u64 0, .int .i64 0, .int .i64 0]).later hb1
 have hbw1 : Below w.heap.size w w1 := by (repeat first | exact zR | assumption | apply zA | apply zS | apply zD | apply zN | refine zT (by assumption) ?_ | omega | simp <;> omega)
 have Q0 := hid q0
 clear q0
 go_wp2_with fail
 refine (HN.out _ (by (repeat first | exact zR | assumption | apply zA | apply zS | apply zD | apply zN | refine zT (by assumption) ?_ | omega | simp <;> omega))).mono ?_
 rintro r w2 ⟨rfl, hb2⟩
 have hB := (Blk.new w1 91 #[.int .u64 ep, .int .i64 M.length, .int .i64 n, .int .u64 0, .int .u64 0, .int .i64 at_, .int .i64 size]).later hb2
 have hbw2 : Below w.heap.size w w2 := by (repeat first | exact zR | assumption | apply zA | apply zS | apply zD | apply zN | refine zT (by assumption) ?_ | omega | simp <;> omega)
 have hz12 : w1.heap.size < w2.heap.size := hB.lt
 have hB0 := Q0.out.later (below_then hb2 (by (repeat first | exact zR | assumption | apply zA | apply zS | apply zD | apply zN | refine zT (by assumption) ?_ | omega | simp <;> omega)))
 have c0 : w2.cell? ⟨w1.heap.size, 0, none⟩ = some (.int .u64 ep) := hB.cell 0
 have z0 : w2.cell? ⟨w.heap.size, 0, none⟩ = some (.int .u64 0) := hB0.cell 0
 have g0 := hB0.free 0
 have c1 : w2.cell? ⟨w1.heap.size, 1, none⟩ = some (.int .i64 M.length) := hB.cell 1
 have z1 : w2.cell? ⟨w.heap.size, 1, none⟩ = some (.int .i64 0) := hB0.cell 1
 have g1 := hB0.free 1
 have c2 : w2.cell? ⟨w1.heap.size, 2, none⟩ = some (.int .i64 n) := hB.cell 2
 have z2 : w2.cell? ⟨w.heap.size, 2, none⟩ = some (.int .i64 0) := hB0.cell 2
 have g2 := hB0.free 2
 have c3 : w2.cell? ⟨w1.heap.size, 3, none⟩ = some (.int .u64 0) := hB.cell 3
 have z3 : w2.cell? ⟨w.heap.size, 3, none⟩ = some (.int .u64 0) := hB0.cell 3
 have g3 := hB0.free 3
 have c4 : w2.cell? ⟨w1.heap.size, 4, none⟩ = some (.int .u64 0) := hB.cell 4
 have z4 : w2.cell? ⟨w.heap.size, 4, none⟩ = some (.int .u64 0) := hB0.cell 4
 have g4 := hB0.free 4
 have c5 : w2.cell? ⟨w1.heap.size, 5, none⟩ = some (.int .i64 at_) := hB.cell 5
 have z5 : w2.cell? ⟨w.heap.size, 5, none⟩ = some (.int .i64 0) := hB0.cell 5
 have g5 := hB0.free 5
 have c6 : w2.cell? ⟨w1.heap.size, 6, none⟩ = some (.int .i64 size) := hB.cell 6
 have z6 : w2.cell? ⟨w.heap.size, 6, none⟩ = some (.int .i64 0) := hB0.cell 6
 have g6 := hB0.free 6
 have f3 := hB.free 3
 have f4 := hB.free 4
 clear hB hB0
 go_wp2
 refine bodyPost_ret (v := .agg #[.int .u64 ep, .int .i64 M.length, .int .i64 n, .int .u64 e1, .int .u64 e2, .int .i64 at_, .int .i64 size]) (by simp [results, Tryz.results177, go_sem, World.cell?_setCell_far, z0, z1, z2, z3, z4, z5, z6]) rfl ⟨by rw [hff.out], by clear hb1 hb2 hbw1; (repeat (first | with_reducible exact Below.refl _ _ | with_reducible assumption | (with_reducible refine below_alloc ?_ _) | (with_reducible refine Below.setCell ?_ (by first | omega | (simp; done) | (simp; omega)) _) | (with_reducible refine Below.drew ?_) | (with_reducible refine below_drewN ?_ _) | (refine below_then (by with_reducible assumption) ?_)))⟩
end Go.Proofs.YtkipiefcnjfdjaaGreat
namespace Go.Proofs.YtkipiefcnjfdjaaGreat
open Go.RowKit Go.Bs Go.Maps
set_option linter.unusedVariables false
set_option linter.unusedSimpArgs false
theorem blockB_len (p : List UInt8) : (blockB p).length ≤ (varB p.length).length + p.length + 1 := by
 unfold blockB
 by_cases h : packR p = true
 ·have h2 := h
  unfold packR at h2
  have h3 := of_decide_eq_true h2
  rw [if_pos h]
  simp; omega
 ·rw [if_neg h]
  simp; omega
end Go.Proofs.YtkipiefcnjfdjaaGreat
namespace Go.Proofs.YtkipiefcnjfdjaaGreat
open Go.RowKit Go.Bs Go.Maps
set_option linter.unusedVariables false
set_option linter.unusedSimpArgs false
theorem headsB_len (l : List Entry) (p : Int) (hR : entriesR p l = true) : (headsB p l).length ≤ 1000 * l.length := by
 induction l generalizing p with
 | nil => simp [headsB]
 | cons e l ih =>
  simp only [entriesR, Bool.and_eq_true] at hR
  have h1 := headN_le p e
  unfold headN at h1
  rw [if_pos hR.1] at h1
  have h2 := ih (p + 1) hR.2
  simp only [headsB, List.length_append, List.length_cons]
  omega
theorem batchB_len {b : Batch} (hR : batchR b = true) : (batchB b).length ≤ 21 + (headsB b.base b.entries).length + (blockB (joined b.entries)).length ∧ (batchB b).length ≤ 40 + (varB (total b.entries)).length + total b.entries + (headsB b.base b.entries).length ∧ (headsB b.base b.entries).length ≤ 16000 := by
 have hR' := hR
 simp only [batchR, Bool.and_eq_true, fitsR, decide_eq_true_eq] at hR'
 have h1 := (varB_len b.epoch.toNat).1
 have h2 := (varB_len b.base.toNat).1
 have h3 := varB_len_small (x := b.entries.length) (by omega)
 have h4 := blockB_len (joined b.entries)
 rw [joined_length] at h4
 have h5 := headsB_len b.entries b.base hR'.2.2.2
 simp only [batchB, aheadB, List.length_append]
 omega
end Go.Proofs.YtkipiefcnjfdjaaGreat
namespace Go.Bs
open Go.RowKit
set_option linter.unusedVariables false
def endP : Int → List MarkD → Int
 | p, [] => p
 | _, m :: l => endP (m.pos + m.count) l
def endA : Int → List MarkD → Int
 | a, [] => a
 | _, m :: l => endA m.at_ l
theorem endP_snoc : ∀ (M : List MarkD) (p : Int) (m : MarkD), endP p (M ++ [m]) = m.pos + m.count
 | [], _, _ => rfl
 | x :: M, p, m => endP_snoc M _ m
theorem endA_snoc : ∀ (M : List MarkD) (p : Int) (m : MarkD), endA p (M ++ [m]) = m.at_
 | [], _, _ => rfl
 | x :: M, p, m => endA_snoc M _ m
theorem riseM_snoc : ∀ (M : List MarkD) (p a : Int) (m : MarkD), riseM p a (M ++ [m]) = (riseM p a M && fitsM m (endP p M) (endA a M))
 | [], p, a, m => by simp [riseM, endP, endA]
 | x :: M, p, a, m => by
  simp only [List.cons_append, riseM, endP, endA]
  rw [riseM_snoc M _ _ m, Bool.and_assoc]
theorem endP_ge : ∀ (M : List MarkD) (p a : Int), riseM p a M = true → p + countM M ≤ endP p M ∧ (M ≠ [] → endP p M ≤ 4611686018427387904)
 | [], p, a, _ => by simp [countM, endP]
 | x :: M, p, a, h => by
  simp only [riseM, Bool.and_eq_true] at h
  obtain ⟨h1, h2, h3, h4, h5, h6, h7⟩ := fitsM_facts h.1
  have h8 := endP_ge M (x.pos + x.count) x.at_ h.2
  simp only [countM, List.map_cons, List.sum_cons, endP] at h8 ⊢
  refine ⟨by omega, fun _ => ?_⟩
  cases M with
  | nil => simpa [endP] using h5
  | cons y M => exact h8.2 (by simp)
theorem endsM_eq : ∀ (M : List MarkD) (p : Int), M ≠ [] → (endsM M).2 = endP p M := by
 intro M p h
 have h0 : 0 < M.length := List.length_pos_iff.2 h
 rw [endsM_some h0]
 dsimp only
 have e2 := endP_snoc M.dropLast p (M.getLast h)
 rw [List.dropLast_concat_getLast] at e2
 rw [e2, List.getLast_eq_getElem]
theorem foot_right {ep : Int} {M : List MarkD} {at_ size : Int} (he : epR ep = true) (hM : marksR M = true) (hn : ∀ m ∈ M, MarkN m) (ha : 1 ≤ at_ ∧ at_ ≤ 1099511627775) (hs : 1 ≤ size ∧ size ≤ 2097152) : FootR ⟨ep, M.length, countM M, (endsM M).1, (endsM M).2, at_, size⟩ := by
 have hM' := hM
 simp only [marksR, Bool.and_eq_true, decide_eq_true_eq] at hM'
 have hc := countM_le M fun m hm => by obtain ⟨h1, h2, _⟩ := riseM_mem M 0 0 hM'.1 m hm; exact ⟨h1, h2⟩
 refine ⟨he, by simp, by dsimp only; omega, hc.1, by dsimp only; omega, ha.1, ha.2, hs.1, hs.2, ?_⟩
 dsimp only
 cases M with
 | nil => simp [endsM]
 | cons x M =>
  rw [if_neg (by simp; omega)]
  have h0 := hM'.1
  simp only [riseM, Bool.and_eq_true] at h0
  obtain ⟨h1, h2, h3, h4, h5, h6, h7⟩ := fitsM_facts h0.1
  have hr : riseM x.pos 0 (x :: M) = true := by
   simp only [riseM, Bool.and_eq_true]
   exact ⟨by simp only [fitsM, Bool.and_eq_true, decide_eq_true_eq]; omega, h0.2⟩
  have h8 := endP_ge (x :: M) x.pos 0 hr
  have h9 := endsM_eq (x :: M) x.pos (by simp)
  have h10 : (endsM (x :: M)).1 = x.pos := by rw [endsM_some (by simp)]; rfl
  rw [h9, h10]
  have h11 := (hn x (List.mem_cons_self ..)).p.1
  have h12 := h8.2 (by simp)
  have h13 := hc.1
  simp only [List.length_cons] at h13
  refine ⟨h11, by omega, h12, by omega⟩
end Go.Bs
namespace Go.Proofs.YtkipiefcnjfdjaaGreat
open Go.RowKit Go.Bs Go.Maps
set_option linter.unusedVariables false
set_option linter.unusedSimpArgs false
theorem batchR_facts {b : Batch} (h : batchR b = true) : 1 ≤ b.epoch ∧ b.epoch < 4611686018427387904 ∧ 1 ≤ b.entries.length ∧ b.entries.length ≤ 16 ∧ b.base + b.entries.length ≤ 4611686018427387904 ∧ total b.entries ≤ 1048576 := by
 simp only [batchR, epR, fitsR, Bool.and_eq_true, decide_eq_true_eq] at h
 exact ⟨h.1.1, h.1.2, h.2.1.1, h.2.1.2.1, h.2.1.2.2.2, h.2.2.1⟩
theorem chainR_mem {e : Int} : ∀ {p : Option Batch} {l : List Batch}, chainR e p l = true → ∀ b ∈ l, batchR b = true
 | _, [], _, b, hb => by cases hb
 | p, x :: l, h, b, hb => by
  simp only [chainR, Bool.and_eq_true] at h
  rcases List.mem_cons.1 hb with rfl | hb
  ·exact h.1
  ·exact chainR_mem h.2.2 b hb
theorem segR_facts {g : Seg} (h : segR g = true) : (1 ≤ g.epoch ∧ g.epoch < 4611686018427387904) ∧ g.batches.length ≤ 16 ∧ ∀ b ∈ g.batches, batchR b = true := by
 simp only [segR, epR, Bool.and_eq_true, decide_eq_true_eq] at h
 exact ⟨h.1, h.2.1, chainR_mem h.2.2⟩
def segGo : List UInt8 → List MarkD → List Batch → List UInt8 × List MarkD
 | J, M, [] => (J, M)
 | J, M, b :: l => segGo (J ++ recB 1 (batchB b)) (M ++ [⟨b.base, b.entries.length, J.length⟩]) l
def segW (ep : Int) (l : List Batch) : List UInt8 × List MarkD := segGo (headHB 3 ep.toNat 0) [] l
def segX (ep : Int) (l : List Batch) : List UInt8 := recB 2 (indexB (segW ep l).2)
def segF (ep : Int) (l : List Batch) : FootD := footM ep (segW ep l).2 (segW ep l).1.length (segX ep l).length
def segB (ep : Int) (l : List Batch) : List UInt8 := (segW ep l).1 ++ segX ep l ++ footB (segF ep l)
theorem batchB_le {b : Batch} (h : batchR b = true) : (batchB b).length ≤ 1100000 := by
 have h1 := (batchB_len h).2
 have h2 := (varB_len (total b.entries)).1
 have h3 := (batchR_facts h).2.2.2.2.2
 omega
theorem recB_len (k : UInt8) (D : List UInt8) : (recB k D).length ≤ D.length + 15 ∧ 1 ≤ (recB k D).length := by
 have := varB_len (k :: D).length
 simp only [recB, frameB_len, blobB_len, List.length_cons] at this ⊢
 omega
theorem headHB_len {v ep bs : Nat} (h1 : ep < 4611686018427387904) (h2 : bs < 4611686018427387904) : (headHB v ep bs).length ≤ 27 ∧ 5 ≤ (headHB v ep bs).length := by
 have := headP_len (v := v) (varB_len9 (x := ep) (by omega)) (varB_len9 (x := bs) (by omega))
 simp only [headHB, List.length_append, fixedB_len]
 simp only [headP, List.length_append, List.length_cons] at this ⊢
 omega
theorem segGo_right {e : Int} : ∀ (l : List Batch) (J : List UInt8) (M : List MarkD) (p : Option Batch), riseM 0 0 M = true → (∀ m ∈ M, MarkN m) → (match p with | none => endP 0 M = 0 | some b => endP 0 M = b.base + b.entries.length) → endA 0 M < J.length → J.length + 1200000 * l.length ≤ 1000000000 → M.length + l.length ≤ 16 → (∀ b ∈ l, batchN b) → chainR e p l = true →
  marksR (segGo J M l).2 = true ∧ (segGo J M l).1.length ≤ J.length + 1200000 * l.length ∧ J.length ≤ (segGo J M l).1.length ∧ ∀ m ∈ (segGo J M l).2, MarkN m
 | [], J, M, p, hM, hN, _, _, _, hl, _, _ => by
  refine ⟨?_, by simp [segGo], by simp [segGo], hN⟩
  simp only [segGo, marksR, hM, Bool.true_and]
  exact decide_eq_true (by simpa using hl)
 | b :: l, J, M, p, hM, hN, hp, hA, hJ, hl, hbn, hc => by
  simp only [chainR, Bool.and_eq_true] at hc
  obtain ⟨hb, hm, hc⟩ := hc
  have hB := batchB_le hb
  have hr := recB_len 1 (batchB b)
  obtain ⟨f1, f2, f3, f4, f5, f6⟩ := batchR_facts hb
  have hbn0 := (hbn b (List.mem_cons_self ..)).2.1
  simp only [List.length_cons] at hJ hl
  have hfit : fitsM ⟨b.base, b.entries.length, J.length⟩ (endP 0 M) (endA 0 M) = true := by
   simp only [fitsM, Bool.and_eq_true, decide_eq_true_eq]
   refine ⟨by omega, by omega, ?_, by omega, by omega, hA, by omega⟩
   cases p with
   | none => rw [show endP 0 M = 0 from hp]; omega
   | some q =>
    simp only [mayR, Bool.and_eq_true, decide_eq_true_eq] at hm
    rw [show endP 0 M = q.base + q.entries.length from hp]; exact hm.2.2
  have hr2 := segGo_right (e := e) l (J ++ recB 1 (batchB b)) (M ++ [⟨b.base, b.entries.length, J.length⟩]) (some b) (by rw [riseM_snoc, hM, hfit]; rfl)
   (fun m hm => by
    rcases List.mem_append.1 hm with hm | hm
    ·exact hN m hm
    ·rw [List.mem_singleton] at hm; subst hm; exact ⟨hbn0, by dsimp only; omega, by dsimp only; omega⟩)
   (by dsimp only; rw [endP_snoc]) (by rw [endA_snoc]; simp; omega) (by rw [List.length_append]; omega) (by rw [List.length_append]; simp; omega) (fun x hx => hbn x (List.mem_cons_of_mem _ hx)) hc
  simp only [segGo]
  refine ⟨hr2.1, ?_, ?_, hr2.2.2.2⟩
  ·have := hr2.2.1; rw [List.length_append] at this; simp only [List.length_cons]; omega
  ·have := hr2.2.2.1; rw [List.length_append] at this; omega
theorem segW_right {ep : Int} {l : List Batch} (hR : segR ⟨ep, l⟩ = true) (hbn : ∀ b ∈ l, batchN b) : marksR (segW ep l).2 = true ∧ 5 ≤ (segW ep l).1.length ∧ (segW ep l).1.length ≤ 20000000 ∧ ∀ m ∈ (segW ep l).2, MarkN m := by
 obtain ⟨h1, h2, _⟩ := segR_facts hR
 simp only [segR, Bool.and_eq_true, decide_eq_true_eq] at hR
 have h1' : 1 ≤ ep ∧ ep < 4611686018427387904 := h1
 have h2' : l.length ≤ 16 := h2
 have hh := headHB_len (v := 3) (ep := ep.toNat) (bs := 0) (by omega) (by omega)
 have := segGo_right (e := ep) l (headHB 3 ep.toNat 0) [] none rfl (by simp) rfl (by simp only [endA]; omega) (by omega) (by simpa using h2') hbn hR.2.2
 unfold segW
 exact ⟨this.1, by omega, by omega, this.2.2.2⟩
theorem indexB_len {M : List MarkD} (h : marksR M = true) : (indexB M).length ≤ 490 := by
 simp only [marksR, Bool.and_eq_true, decide_eq_true_eq] at h
 have h1 := (varB_len M.length).1
 have h2 := marksB_len M 0 0
 simp only [indexB, List.length_append]
 omega
theorem segF_right {ep : Int} {l : List Batch} (hR : segR ⟨ep, l⟩ = true) (hbn : ∀ b ∈ l, batchN b) : FootR (segF ep l) := by
 obtain ⟨h1, h2, h3, h4⟩ := segW_right hR hbn
 have h5 := indexB_len h1
 have h6 := recB_len 2 (indexB (segW ep l).2)
 simp only [segR, Bool.and_eq_true] at hR
 exact foot_right hR.1 h1 h4 (by omega) (by unfold segX; omega)
end Go.Proofs.YtkipiefcnjfdjaaGreat
namespace Go.Proofs.YtkipiefcnjfdjaaGreat
open Go.RowKit Go.Bs Go.Maps
set_option linter.unusedVariables false
set_option linter.unusedSimpArgs false
structure Rs where
 p : Nat
 k : Int
 f : Int
def Rs.fail (s : Rs) (c at_ : Int) : Rs := if s.k = 0 then ⟨s.p, c, at_⟩ else s
def Rs.skip (L : Nat) (s : Rs) (n : Int) : Bool × Rs :=
 if s.k = 0 then (if n < 0 then (false, ⟨s.p, 17, s.p⟩) else if (L : Int) - s.p < n then (false, ⟨s.p, 1, L⟩) else (true, ⟨s.p + n.toNat, 0, 0⟩)) else (false, s)
def Rs.take (B : List UInt8) (s : Rs) (n : Int) : Rs × List UInt8 := ((s.skip B.length n).2, if (s.skip B.length n).1 then (B.drop s.p).take n.toNat else [])
def Rs.byte (B : List UInt8) (s : Rs) : Rs × UInt8 := ((s.skip B.length 1).2, if (s.skip B.length 1).1 then B.getD s.p 0 else 0)
structure Rs.ok (s : Rs) (L : Nat) : Prop where
 le : s.p ≤ L
 zero : s.k = 0 → s.f = 0
structure RdAt (w : World) (g : Nat) (B : List UInt8) (a : Option Addr) (s : Rs) : Prop where
 blk : Blk w g 124 #[.slice a B.length B.length, .int .i64 (s.p : Int), .int .i64 s.k, .int .i64 s.f]
 dat : rBytes.r (fun q => q < w.heap.size ∧ q ≠ g) w [.slice a B.length B.length] B
 ok : s.ok B.length
def RdStep (w : World) (g : Nat) (B : List UInt8) (a : Option Addr) (s' : Rs) (w' : World) : Prop := RdAt w' g B a s' ∧ Tch (· = g) w w'
section
variable {w w1 w2 : World} {g : Nat} {B : List UInt8} {a : Option Addr} {s s' : Rs}
theorem RdAt.later (h : RdAt w g B a s) (hb : Below w.heap.size w w1) : RdAt w1 g B a s :=
 ⟨h.blk.later hb, rBytes.mono (rBytes.keep h.dat fun q hq => hb.block q hq.1) fun q hq => ⟨Nat.lt_of_lt_of_le hq.1 hb.size, hq.2⟩, h.ok⟩
theorem RdAt.len (h : RdAt w g B a s) : B.length ≤ 9223372036854775807 := (sl_len h.dat).2.1
theorem RdStep.later (h : RdAt w g B a s) (hb : Below w.heap.size w w1) : RdStep w g B a s w1 := ⟨h.later hb, Tch.of_later hb⟩
theorem RdStep.refl (h : RdAt w g B a s) : RdStep w g B a s w := ⟨h, Tch.refl _ _⟩
theorem RdStep.trans (h : Tch (· = g) w w1) (k : RdStep w1 g B a s' w2) : RdStep w g B a s' w2 := ⟨k.1, h.trans k.2 fun _ _ h => h⟩
theorem RdStep.then (h : RdStep w g B a s w1) (hb : Below w1.heap.size w1 w2) : RdStep w g B a s w2 := ⟨h.1.later hb, h.2.trans (Tch.of_later (F := (· = g)) hb) fun _ _ h => h⟩
theorem RdStep.size (h : RdStep w g B a s w1) : w.heap.size ≤ w1.heap.size := h.2.size
theorem RdStep.below {b : Nat} (h : RdStep w g B a s w1) (hb : b ≤ w.heap.size) (hg : b ≤ g) : Below b w w1 := h.2.to_below hb fun q _ e => e ▸ hg
end
end Go.Proofs.YtkipiefcnjfdjaaGreat
namespace Go.Proofs.YtkipiefcnjfdjaaGreat
open Go.RowKit Go.Bs Go.Maps
set_option linter.unusedVariables false
set_option linter.unusedSimpArgs false
def vget : Nat → Nat → List UInt8 → Nat × Nat × Int
 | i, x, [] => (0, i, 1)
 | i, x, c :: l =>
  if i = 9 ∧ 1 < c.toNat then (0, i + 1, 5)
  else if 0 < i ∧ c.toNat = 0 then (0, i + 1, 4)
  else if c.toNat < 128 then (x + c.toNat * 128 ^ i, i + 1, 0)
  else vget (i + 1) (x + c.toNat % 128 * 128 ^ i) l
def Rs.num (B : List UInt8) (s : Rs) : Rs × Nat :=
 if s.k = 0 then
  let r := vget 0 0 (B.drop s.p)
  (⟨s.p + r.2.1, r.2.2, if r.2.2 = 0 then 0 else if r.2.2 = 1 then B.length else s.p + r.2.1 - 1⟩, r.1)
 else (s, 0)
end Go.Proofs.YtkipiefcnjfdjaaGreat
namespace Go.Proofs.YtkipiefcnjfdjaaGreat
open Go.RowKit Go.Bs Go.Maps
set_option linter.unusedVariables false
set_option linter.unusedSimpArgs false
def Rs.most (B : List UInt8) (s : Rs) (m : Nat) : Rs × Nat := if m < (s.num B).2 then ((s.num B).1.fail 2 s.p, 0) else s.num B
def Rs.int (B : List UInt8) (s : Rs) (m : Int) : Rs × Nat := if 0 ≤ m then s.most B m.toNat else ((s.num B).1.fail 2 s.p, 0)
def Rs.head (B : List UInt8) (s : Rs) : Rs × Bool × Nat :=
 if (s.num B).1.k = 0 then
  (if (s.num B).2 % 2 = 1 then (if 1048572 < (s.num B).2 / 2 then ((s.num B).1.fail 2 s.p, false, 0) else ((s.num B).1, true, (s.num B).2 / 2 + 4))
  else (if 1048575 < (s.num B).2 / 2 then ((s.num B).1.fail 2 s.p, false, 0) else ((s.num B).1, false, (s.num B).2 / 2 + 1)))
 else ((s.num B).1, false, 0)
def Rs.offset (B : List UInt8) (s : Rs) : Rs × Nat :=
 let t := if 65536 ≤ (s.num B).2 then (s.num B).1.fail 10 s.p else (s.num B).1
 (t, if t.k = 0 then (s.num B).2 + 1 else 0)
end Go.Proofs.YtkipiefcnjfdjaaGreat
namespace Go.Proofs.YtkipiefcnjfdjaaGreat
open Go.RowKit Go.Bs Go.Maps
set_option linter.unusedVariables false
set_option linter.unusedSimpArgs false
theorem byteCells_snoc (l : List UInt8) (x : UInt8) : byteCells l ++ [Value.int .u8 (x.toNat : Int)] = byteCells (l ++ [x]) := by simp [byteCells]
end Go.Proofs.YtkipiefcnjfdjaaGreat
namespace Go.Proofs.YtkipiefcnjfdjaaGreat
open Go.RowKit Go.Bs Go.Maps
set_option linter.unusedVariables false
set_option linter.unusedSimpArgs false
structure XInv (w W : World) (B : List UInt8) (a : Option Addr) (s : Rs) (out : List UInt8) (aO : Option Addr) (cO : Nat) : Prop where
 rd : RdAt W (w.heap.size + 1) B a s
 dat : rBytes.r (· < w.heap.size) W [.slice a B.length B.length] B
 fl : Blk W w.heap.size 48 #[.int .i64 0, .int .i64 0]
 own : W.ownsRow (w.heap.size + 2) 5 1 (.slice aO out.length cO) out.length (byteCells out)
 be : Below w.heap.size w W
 sz : w.heap.size + 2 ≤ W.heap.size
section
variable {w W W' : World} {B : List UInt8} {a : Option Addr} {s s' : Rs} {out out' : List UInt8} {aO aO' : Option Addr} {cO cO' : Nat}
theorem XInv.later (h : XInv w W B a s out aO cO) (hb : Below W.heap.size W W') : XInv w W' B a s out aO cO :=
 ⟨h.rd.later hb, rBytes.keep h.dat fun q hq => hb.block q (by have := h.sz; omega), h.fl.later hb, own_below h.own hb, below_then hb h.be, Nat.le_trans h.sz hb.size⟩
theorem XInv.row (h : XInv w W B a s out aO cO) (hb : Below (w.heap.size + 2) W W') (ho : W'.ownsRow (w.heap.size + 2) 5 1 (.slice aO' out'.length cO') out'.length (byteCells out')) : XInv w W' B a s out' aO' cO' := by
 have hd := rBytes.keep h.dat (w' := W') fun q hq => hb.block q (by omega)
 exact ⟨⟨h.rd.blk.below hb (by omega), rBytes.mono hd fun q hq => ⟨by have := h.sz; have := hb.size; omega, by omega⟩, h.rd.ok⟩, hd, h.fl.below hb (by omega), ho, h.be.trans (hb.mono (by omega)), Nat.le_trans h.sz hb.size⟩
end
def cellI (W : World) (g i : Nat) : Int := intOf ((W.cell? ⟨g, i, none⟩).getD undef)
theorem RdAt.cells {w : World} {g : Nat} {B : List UInt8} {a : Option Addr} {s : Rs} (h : RdAt w g B a s) : cellI w g 1 = s.p ∧ cellI w g 2 = s.k := by
 have c1 := h.blk.cell 1
 have c2 := h.blk.cell 2
 simp at c1 c2
 unfold cellI
 rw [c1, c2]
 exact ⟨rfl, rfl⟩
end Go.Proofs.YtkipiefcnjfdjaaGreat
namespace Go.Proofs.YtkipiefcnjfdjaaGreat
open Go.RowKit Go.Bs Go.Maps
set_option linter.unusedVariables false
set_option linter.unusedSimpArgs false
def Rs.falls (B : List UInt8) : Nat → Rs → Int → List Int → Rs × List Int
 | 0, s, _, out => (s, out)
 | n + 1, s, below, out =>
  if (s.num B).1.k = 0 then
   (if below ≤ ((s.num B).2 : Int) then ((s.num B).1.fail 13 s.p, []) else Rs.falls B n (s.num B).1 (below - (s.num B).2 - 1) (out ++ [below - (s.num B).2 - 1]))
  else ((s.num B).1, [])
def Rs.delta (B : List UInt8) (s : Rs) (below : Int) (most : Int) : Rs × List Int := Rs.falls B (s.int B most).2 (s.int B most).1 below []
def Rs.stream (B : List UInt8) (s : Rs) (prev : Option Int) : Rs × Int :=
 match prev with
 | none => ((s.num B).1, ((s.num B).2 : Int))
 | some q => (if 18446744073709551615 - q ≤ ((s.num B).2 : Int) then (s.num B).1.fail 13 s.p else (s.num B).1, ((s.num B).2 : Int) + q + 1)
def Rs.linksF (B : List UInt8) (pos : Int) : Nat → Rs → Option Int → List Link → Rs × List Link
 | 0, s, _, out => (s, out)
 | n + 1, s, prev, out =>
  if ((s.stream B prev).1.delta B pos 4).1.k = 0 then Rs.linksF B pos n ((s.stream B prev).1.delta B pos 4).1 (some (s.stream B prev).2) (out ++ [⟨(s.stream B prev).2, ((s.stream B prev).1.delta B pos 4).2⟩])
  else (((s.stream B prev).1.delta B pos 4).1, [])
def Rs.links (B : List UInt8) (s : Rs) (pos : Int) : Rs × List Link := Rs.linksF B pos (s.int B 16).2 (s.int B 16).1 none []
def Rs.ehead (B : List UInt8) (s : Rs) (pos most : Int) : Rs × List Link × Nat :=
 if ((s.links B pos).1.int B most).1.k = 0 then (((s.links B pos).1.int B most).1, (s.links B pos).2, ((s.links B pos).1.int B most).2) else (((s.links B pos).1.int B most).1, [], 0)
def Rs.heads (B : List UInt8) : Nat → Rs → Int → Int → List (List Link × Nat) → Rs × List (List Link × Nat)
 | 0, s, _, _, out => (s, out)
 | n + 1, s, pos, left, out =>
  if (s.ehead B pos left).1.k = 0 then Rs.heads B n (s.ehead B pos left).1 (pos + 1) (left - (s.ehead B pos left).2.2) (out ++ [(s.ehead B pos left).2]) else ((s.ehead B pos left).1, [])
def sizesN (l : List (List Link × Nat)) : Nat := (l.map Prod.snd).sum
def dealE : List (List Link × Nat) → List UInt8 → List Entry
 | [], _ => []
 | (l, n) :: r, D => ⟨l, D.take n⟩ :: dealE r (D.drop n)
def Rs.ep (B : List UInt8) (s : Rs) : Rs × Nat := if (s.num B).1.k = 0 then (if epR ((s.num B).2 : Int) = true then s.num B else ((s.num B).1.fail 3 s.p, 0)) else ((s.num B).1, 0)
def Rs.po (B : List UInt8) (s : Rs) : Rs × Nat := if (s.num B).1.k = 0 then (if poR ((s.num B).2 : Int) = true then s.num B else ((s.num B).1.fail 3 s.p, 0)) else ((s.num B).1, 0)
def Rs.bfront (B : List UInt8) (s : Rs) : Rs × Nat × Nat × Nat :=
 ((if fitsR (((s.ep B).1.po B).2 : Int) (((s.ep B).1.po B).1.int B 16).2 = true then (((s.ep B).1.po B).1.int B 16).1 else (((s.ep B).1.po B).1.int B 16).1.fail 3 ((s.ep B).1.po B).1.p), (s.ep B).2, ((s.ep B).1.po B).2, (((s.ep B).1.po B).1.int B 16).2)
def Rs.bblock (blk : Rs → Rs × List UInt8 × Bool) (h : Rs × List (List Link × Nat)) : Rs × List Entry × Bool :=
 let p := blk h.1
 let u : Rs := if sizesN h.2 = p.2.1.length then p.1 else p.1.fail 3 h.1.p
 (u, dealE h.2 p.2.1, p.2.2)
def noBatch : Batch := ⟨0, 0, []⟩
def Rs.batch (B : List UInt8) (blk : Rs → Rs × List UInt8 × Bool) (s : Rs) : Rs × Batch × Bool :=
 let f := s.bfront B
 if f.1.k = 0 then
  let u := Rs.bblock blk (Rs.heads B f.2.2.2 f.1 (f.2.2.1 : Int) 1048576 [])
  if u.1.k = 0 then (u.1, ⟨(f.2.1 : Int), (f.2.2.1 : Int), u.2.1⟩, u.2.2) else (u.1, noBatch, false)
 else (f.1, noBatch, false)
end Go.Proofs.YtkipiefcnjfdjaaGreat
namespace Go.Proofs.YtkipiefcnjfdjaaGreat
open Go.RowKit Go.Bs Go.Maps
set_option linter.unusedVariables false
set_option linter.unusedSimpArgs false
structure RdInv (w W : World) (g : Nat) (B : List UInt8) (a : Option Addr) (s : Rs) : Prop where
 rd : RdAt W g B a s
 dat : rBytes.r (fun q => q < w.heap.size ∧ q ≠ g) W [.slice a B.length B.length] B
 tch : Tch (· = g) w W
 lt : g < w.heap.size
section
variable {w W W' : World} {g : Nat} {B : List UInt8} {a : Option Addr} {s s' : Rs}
theorem RdInv.refl (h : RdAt w g B a s) : RdInv w w g B a s := ⟨h, h.dat, Tch.refl _ _, h.blk.lt⟩
theorem RdInv.row (h : RdInv w W g B a s) (hb : Below w.heap.size W W') : RdInv w W' g B a s := by
 have hd := rBytes.keep h.dat (w' := W') fun q hq => hb.block q hq.1
 have hs := h.tch.size
 have hs2 := hb.size
 exact ⟨⟨h.rd.blk.below hb h.lt, rBytes.mono hd fun q hq => ⟨by omega, hq.2⟩, h.rd.ok⟩, hd, h.tch.trans (Tch.of_below hb) (fun b hb hle => by omega), h.lt⟩
theorem RdInv.to (h : RdInv w W g B a s) : RdStep w g B a s W := ⟨h.rd, h.tch⟩
end
end Go.Proofs.YtkipiefcnjfdjaaGreat
namespace Go.Proofs.YtkipiefcnjfdjaaGreat
open Go.RowKit Go.Bs Go.Maps
set_option linter.unusedVariables false
set_option linter.unusedSimpArgs false
theorem OwnEls.form {w : World} {α : Type} {lo base : Nat} {A : Rp α} {e : TypeId} {sz : Nat} {v : Value} {xs : List α} (h : OwnEls lo A base e sz w v xs) : ∃ a c, v = .slice a xs.length c := by
 obtain ⟨cells, h1, _⟩ := h
 exact own_form h1
end Go.Proofs.YtkipiefcnjfdjaaGreat
namespace Go.Proofs.YtkipiefcnjfdjaaGreat
open Go.RowKit Go.Bs Go.Maps
set_option linter.unusedVariables false
set_option linter.unusedSimpArgs false
def headE (h : List Link × Nat) : Entry := ⟨h.1, []⟩
def sizeCells (l : List (List Link × Nat)) : List Value := l.map fun h => .int .i64 (h.2 : Int)
structure HeadsAt (lo : Nat) (W : World) (v u : Value) (J : List (List Link × Nat)) : Prop where
 els : ∃ cells, OwnElsF (fun b => lo ≤ b ∧ b < W.heap.size ∧ u.ownBlock ≠ some b) rEntryW lo 75 2 W v (J.map headE) cells
 szs : W.ownsRow lo 3 1 u J.length (sizeCells J)
theorem own_ne {W : World} {lo lo' : Nat} {e e' : TypeId} {sz sz' n m : Nat} {v u : Value} {xs ys : List Value} (h : W.ownsRow lo e sz v n xs) (h' : W.ownsRow lo' e' sz' u m ys) (hne : e ≠ e') : ∀ b, v.ownBlock = some b → u.ownBlock ≠ some b := by
 intro b hv hu
 rcases h.2 with ⟨rfl, _⟩ | ⟨g, cap, cur, rfl, _, hg, _⟩
 ·cases hv
 ·rcases h'.2 with ⟨rfl, _⟩ | ⟨g', cap', cur', rfl, _, hg', _⟩
  ·cases hu
  ·have e1 : g = b := by simpa [Value.ownBlock] using hv
   have e2 : g' = b := by simpa [Value.ownBlock] using hu
   subst e1 e2
   rw [hg] at hg'
   simp at hg'
   exact hne hg'.2
theorem own_stays {W W' : World} {lo : Nat} {e : TypeId} {sz n : Nat} {v : Value} {xs : List Value} (h : W.ownsRow lo e sz v n xs) (hk : ∀ b, v.ownBlock = some b → b < W.heap.size → W'.heap[b]? = W.heap[b]?) : W'.ownsRow lo e sz v n xs := by
 refine ⟨h.1, ?_⟩
 rcases h.2 with h0 | ⟨g', cap, cur, h1, h2, h3, h4⟩
 ·exact .inl h0
 ·exact .inr ⟨g', cap, cur, h1, h2, (hk g' (by rw [h1]; rfl) (Blk.lt h3)).trans h3, h4⟩
theorem own_lt {W : World} {lo : Nat} {e : TypeId} {sz n : Nat} {v : Value} {xs : List Value} (h : W.ownsRow lo e sz v n xs) : ∀ b, v.ownBlock = some b → lo ≤ b ∧ b < W.heap.size := by
 intro b hv
 rcases h.2 with ⟨rfl, _⟩ | ⟨g, cap, cur, rfl, hb, hg, _⟩
 ·cases hv
 ·have e1 : g = b := by simpa [Value.ownBlock] using hv
  subst e1
  exact ⟨hb, Blk.lt hg⟩
theorem HeadsAt.nil {lo : Nat} {W : World} : HeadsAt lo W (.slice none 0 0) (.slice none 0 0) [] := ⟨⟨[], OwnElsF.nil⟩, ⟨rfl, .inl ⟨rfl, rfl⟩⟩⟩
theorem HeadsAt.tch {lo g : Nat} {W W' : World} {v u : Value} {J : List (List Link × Nat)} (h : HeadsAt lo W v u J) (hb : Tch (fun b => b = g ∨ W.heap.size ≤ b) W W') (hg : g < lo) : HeadsAt lo W' v u J := by
 obtain ⟨⟨cells, OA⟩, hu⟩ := h
 have hk : ∀ b, lo ≤ b → b < W.heap.size → W'.heap[b]? = W.heap[b]? := fun b h1 h2 => hb.block b h2 (by omega)
 refine ⟨⟨cells, ?_⟩, own_stays hu fun b hv hl => hk b (own_lt hu b hv).1 hl⟩
 refine OwnElsF.mono (OwnElsF.keep OA (fun b h => hk b h.1 h.2.1) fun b hv => hk b (own_lt OA.1 b hv).1 (own_lt OA.1 b hv).2) fun b h => ⟨h.1, Nat.lt_of_lt_of_le h.2.1 hb.size, h.2.2⟩
structure HeadsMid (lo : Nat) (B : Nat) (W : World) (v u : Value) (J J' : List (List Link × Nat)) : Prop where
 els : ∃ cells, OwnElsF (fun b => lo ≤ b ∧ b < B ∧ u.ownBlock ≠ some b) rEntryW lo 75 2 W v (J'.map headE) cells
 szs : W.ownsRow lo 3 1 u J.length (sizeCells J)
 le : B ≤ W.heap.size
theorem HeadsMid.of {lo : Nat} {W W' : World} {v v' u : Value} {J : List (List Link × Nat)} {x : List Link × Nat} {cells : List (List Value)} {news : List Value}
  (OA : OwnElsF (fun b => lo ≤ b ∧ b < W.heap.size ∧ u.ownBlock ≠ some b) rEntryW lo 75 2 W v (J.map headE) cells) (hu : W.ownsRow lo 3 1 u J.length (sizeCells J))
  (hn : news.length = 2) (hx : rEntryW.r (fun b => (lo ≤ b ∧ b < W.heap.size ∧ u.ownBlock ≠ some b) ∧ v.ownBlock ≠ some b) W news (headE x))
  (hown : W'.ownsRow lo 75 2 v' (J.length + 1) (cells.flatten ++ news)) (hg : W.grownBy W' v.ownBlock) (hat : v'.ownBlock = v.ownBlock ∨ v'.ownBlock = some W.heap.size) : HeadsMid lo W.heap.size W' v' u J (J ++ [x]) := by
 refine ⟨⟨cells ++ [news], ?_⟩, own_stays hu fun b hv hl => hg.block b hl (fun e => own_ne OA.1 hu (by decide) b e.symm hv), hg.size⟩
 rw [List.map_append, List.map_cons, List.map_nil]
 exact OwnElsF.push OA (fun b hb => hb.2.1) hn hx (by simpa using hown) hg hat
theorem HeadsMid.below {lo B : Nat} {W W' : World} {v u : Value} {J J' : List (List Link × Nat)} (h : HeadsMid lo B W v u J J') (hb : Below W.heap.size W W') : HeadsMid lo B W' v u J J' := by
 obtain ⟨⟨cells, OA⟩, hu, hB⟩ := h
 exact ⟨⟨cells, OwnElsF.keep OA (fun b h => hb.block b (by have := h.2.1; omega)) fun b hv => hb.block b (own_lt OA.1 b hv).2⟩, own_stays hu fun b hv hl => hb.block b hl, by have := hb.size; omega⟩
theorem HeadsMid.to {lo B : Nat} {W W' : World} {v u u' : Value} {J : List (List Link × Nat)} {x : List Link × Nat} (h : HeadsMid lo B W v u J (J ++ [x]))
  (hown : W'.ownsRow lo 3 1 u' (J.length + 1) (sizeCells J ++ [.int .i64 (x.2 : Int)])) (hg : W.grownBy W' u.ownBlock) (hat : u'.ownBlock = u.ownBlock ∨ u'.ownBlock = some W.heap.size) : HeadsAt lo W' v u' (J ++ [x]) := by
 obtain ⟨⟨cells, OA⟩, hu, hB⟩ := h
 refine ⟨⟨cells, ?_⟩, ?_⟩
 ·refine OwnElsF.mono (OwnElsF.keep OA (fun b h => hg.block b (by have := h.2.1; omega) (fun e => h.2.2 e.symm)) fun b hv => hg.block b (own_lt OA.1 b hv).2 (fun e => own_ne OA.1 hu (by decide) b hv e.symm)) fun b h => ⟨h.1, ?_, fun e => ?_⟩
  ·have := h.2.1; have := hg.size; omega
  ·rcases hat with h' | h'
   ·exact h.2.2 (h' ▸ e)
   ·rw [h'] at e; have := Option.some.inj e; have := h.2.1; omega
 ·have e : sizeCells (J ++ [x]) = sizeCells J ++ [.int .i64 (x.2 : Int)] := by simp [sizeCells]
  rw [e, List.length_append]
  exact hown
theorem HeadsAt.out {lo : Nat} {W : World} {v u : Value} {J : List (List Link × Nat)} (h : HeadsAt lo W v u J) : rEntriesW.r (fun b => lo ≤ b ∧ b < W.heap.size) W [v] (J.map headE) := by
 obtain ⟨⟨cells, OA⟩, hu⟩ := h
 exact OwnEls.sliceW (Nat.le_refl _) ⟨cells, OwnElsF.to OA fun b h => ⟨h.1, h.2.1⟩⟩
end Go.Proofs.YtkipiefcnjfdjaaGreat
namespace Go.Proofs.YtkipiefcnjfdjaaGreat
open Go.RowKit Go.Bs Go.Maps
set_option linter.unusedVariables false
set_option linter.unusedSimpArgs false
def segZ : List Value := [.int .u64 0, .int .i64 0, .int .i64 0, .int .u64 0, .int .u64 0, .int .i64 0, .int .i64 0]
structure SegI (w W : World) (ep : Int) (a : Option Addr) (n c : Nat) (J : List UInt8) (M : List MarkD) (aJ : Option Addr) (cJ : Nat) (aM : Option Addr) (cM : Nat) : Prop where
 below : Below w.heap.size w W
 bx : Blk W w.heap.size 62 #[.int .u64 ep, .slice a n c]
 br : Blk W (w.heap.size + 1) 153 (.slice none 0 0 :: .slice none 0 0 :: segZ).toArray
 x : Blk W (w.heap.size + 2) 153 (.slice aJ J.length cJ :: .slice aM M.length cM :: segZ).toArray
 j : OwnB W (w.heap.size + 3) (.slice aJ J.length cJ) J
 m : MarksAt W (w.heap.size + 3) (.slice aM M.length cM) M
section
variable {w W : World} {ep : Int} {a : Option Addr} {n c : Nat} {J : List UInt8} {M : List MarkD} {aJ : Option Addr} {cJ : Nat} {aM : Option Addr} {cM : Nat}
theorem MarksAt.below {W W' : World} {b : Nat} {v : Value} {M : List MarkD} (h : MarksAt W b v M) (hb : Below W.heap.size W W') : MarksAt W' b v M := ⟨own_below h.own hb, h.nat⟩
theorem SegI.later (h : SegI w W ep a n c J M aJ cJ aM cM) {W' : World} (hb : Below W.heap.size W W') : SegI w W' ep a n c J M aJ cJ aM cM :=
 ⟨below_then hb h.below, h.bx.later hb, h.br.later hb, h.x.later hb, own_below h.j hb, h.m.below hb⟩
theorem SegI.ne (h : SegI w W ep a n c J M aJ cJ aM cM) : ∀ b, (Value.slice aJ J.length cJ).ownBlock = some b → (Value.slice aM M.length cM).ownBlock ≠ some b := own_ne h.j h.m.own (by decide)
theorem SegI.far {v : Value} {u : Nat} {xs : List Value} {e : TypeId} {sz : Nat} (h : W.ownsRow (w.heap.size + 3) e sz v u xs) {b : Nat} (hb : b < w.heap.size + 3) : v.ownBlock ≠ some b := fun e => by have := (own_lt h b e).1; omega
theorem SegI.more (h : SegI w W ep a n c J M aJ cJ aM cM) {W2 : World} {D : List UInt8} {aJ' : Option Addr} {cJ' : Nat}
  (hown : W2.ownsRow (w.heap.size + 3) 5 1 (.slice aJ' (J.length + D.length) cJ') (J.length + D.length) (byteCells J ++ byteCells D)) (hg : W.grownBy W2 (Value.slice aJ J.length cJ).ownBlock) :
  SegI w (W2.setCell ⟨w.heap.size + 2, 0, none⟩ (.slice aJ' (J.length + D.length) cJ')) ep a n c (J ++ D) M aJ' cJ' aM cM := by
 have hl : (J ++ D).length = J.length + D.length := by simp
 have hb2 : Below w.heap.size w W2 := h.below.grown hg h.below.size (fun g e => by have := (own_lt h.j g e).1; omega)
 have f2 : (Value.slice aJ' (J.length + D.length) cJ').ownBlock ≠ some (w.heap.size + 2) := SegI.far hown (by omega)
 refine ⟨hb2.setCell (by dsimp only; omega) _, ?_, ?_, ?_, ?_, ?_, h.m.nat⟩
 ·exact (h.bx.grown hg (fun e => SegI.far h.j (by omega) e.symm)).far (by dsimp only; omega) _
 ·exact (h.br.grown hg (fun e => SegI.far h.j (by omega) e.symm)).far (by dsimp only; omega) _
 ·rw [hl]
  exact (h.x.grown hg (fun e => SegI.far h.j (by omega) e.symm)).set 0 _
 ·have ho : OwnB W2 (w.heap.size + 3) (.slice aJ' (J.length + D.length) cJ') (J ++ D) := OwnB.app hown
  rw [hl]
  exact own_stays ho fun b hv hl => Below.heap_setCell _ _ _ _ (fun e => f2 (by rw [hv, e]))
 ·refine own_stays (own_stays h.m.own fun b hv hl => hg.block b hl (fun e => h.ne b e.symm hv)) fun b hv hl => Below.heap_setCell _ _ _ _ (fun e => ?_)
  have := (own_lt h.m.own b hv).1
  dsimp only at e
  omega
end
end Go.Proofs.YtkipiefcnjfdjaaGreat
namespace Go.Proofs.YtkipiefcnjfdjaaGreat
open Go.RowKit Go.Bs Go.Maps
set_option linter.unusedVariables false
set_option linter.unusedSimpArgs false
theorem tch7 (w : World) (g : Nat) (v2 v3 v4 v5 v6 v7 v8 : Value) : Tch (· = g) w ((((((((w).setCell ⟨g, 2, none⟩ v2).setCell ⟨g, 3, none⟩ v3).setCell ⟨g, 4, none⟩ v4).setCell ⟨g, 5, none⟩ v5).setCell ⟨g, 6, none⟩ v6).setCell ⟨g, 7, none⟩ v7).setCell ⟨g, 8, none⟩ v8) :=
 Tch.setCell (F := (· = g)) (Tch.setCell (F := (· = g)) (Tch.setCell (F := (· = g)) (Tch.setCell (F := (· = g)) (Tch.setCell (F := (· = g)) (Tch.setCell (F := (· = g)) (Tch.setCell (F := (· = g)) (Tch.refl (· = g) w) (p := ⟨g, 2, none⟩) (fun _ => rfl) v2) (p := ⟨g, 3, none⟩) (fun _ => rfl) v3) (p := ⟨g, 4, none⟩) (fun _ => rfl) v4) (p := ⟨g, 5, none⟩) (fun _ => rfl) v5) (p := ⟨g, 6, none⟩) (fun _ => rfl) v6) (p := ⟨g, 7, none⟩) (fun _ => rfl) v7) (p := ⟨g, 8, none⟩) (fun _ => rfl) v8
theorem tch10 (w : World) (x r : Nat) (u v0 v1 v2 v3 v4 v5 v6 v7 v8 : Value) : Tch (fun b => b = x ∨ b = r) w (((((((((((w.setCell ⟨x, 0, none⟩ u)).setCell ⟨r, 0, none⟩ v0).setCell ⟨r, 1, none⟩ v1).setCell ⟨r, 2, none⟩ v2).setCell ⟨r, 3, none⟩ v3).setCell ⟨r, 4, none⟩ v4).setCell ⟨r, 5, none⟩ v5).setCell ⟨r, 6, none⟩ v6).setCell ⟨r, 7, none⟩ v7).setCell ⟨r, 8, none⟩ v8) :=
 Tch.setCell (F := fun b => b = x ∨ b = r) (Tch.setCell (F := fun b => b = x ∨ b = r) (Tch.setCell (F := fun b => b = x ∨ b = r) (Tch.setCell (F := fun b => b = x ∨ b = r) (Tch.setCell (F := fun b => b = x ∨ b = r) (Tch.setCell (F := fun b => b = x ∨ b = r) (Tch.setCell (F := fun b => b = x ∨ b = r) (Tch.setCell (F := fun b => b = x ∨ b = r) (Tch.setCell (F := fun b => b = x ∨ b = r) (Tch.setCell (F := fun b => b = x ∨ b = r) (Tch.refl _ w) (p := ⟨x, 0, none⟩) (fun _ => .inl rfl) u) (p := ⟨r, 0, none⟩) (fun _ => .inr rfl) v0) (p := ⟨r, 1, none⟩) (fun _ => .inr rfl) v1) (p := ⟨r, 2, none⟩) (fun _ => .inr rfl) v2) (p := ⟨r, 3, none⟩) (fun _ => .inr rfl) v3) (p := ⟨r, 4, none⟩) (fun _ => .inr rfl) v4) (p := ⟨r, 5, none⟩) (fun _ => .inr rfl) v5) (p := ⟨r, 6, none⟩) (fun _ => .inr rfl) v6) (p := ⟨r, 7, none⟩) (fun _ => .inr rfl) v7) (p := ⟨r, 8, none⟩) (fun _ => .inr rfl) v8
theorem three_blocks (w : World) (t1 t2 t3 : TypeId) (s1 s2 s3 : Array Value) {w' : World} (hb : Below (((w.alloc (.cells s1 t1)).alloc (.cells s2 t2)).alloc (.cells s3 t3)).heap.size (((w.alloc (.cells s1 t1)).alloc (.cells s2 t2)).alloc (.cells s3 t3)) w') :
  Blk w' w.heap.size t1 s1 ∧ Blk w' (w.heap.size + 1) t2 s2 ∧ Blk w' (w.heap.size + 2) t3 s3 ∧ Below w.heap.size w w' ∧ w.heap.size + 3 ≤ w'.heap.size :=
 ⟨(((Blk.new w t1 s1).alloc _).alloc _).later hb, ((Blk.new1 w _ t2 s2).alloc _).later hb, (Blk.newAt _ t3 s3 (by simp)).later hb, below_then hb (below_alloc (below_alloc (below_alloc (Below.refl _ _) _) _) _), by have := hb.size; simpa using this⟩
set_option maxRecDepth 100000 in
set_option maxHeartbeats 3200000 in
theorem seg_write0 (ep : Int) (he : epR ep = true) (w : World) :
  Calls Tryz.prog 113 #[.agg #[.int .u64 ep, .slice none 0 0]] w fun r w' => ∃ v u f0 f1 f2 f3 f4 f5 f6, r = .returned (.agg #[v, u, f0, f1, f2, f3, f4, f5, f6]) ∧ rBytes.r (fun q => w.heap.size ≤ q ∧ q < w'.heap.size) w' [v] (segB ep []) ∧ Below w.heap.size w w' := by
 obtain ⟨i0, hi, hz0, hz1, hz2⟩ := info_parts info8
 have hR : segR ⟨ep, []⟩ = true := by simp [segR, he, chainR]
 have hFR := segF_right hR (by simp)
 have HFB := hid (fun W : World => footer_bytes (segF ep []) hFR W)
 have he' := he
 simp only [epR, decide_eq_true_eq] at he'
 have hte : (ep.toNat : Int) = ep := by omega
 have HH := hid (fun W : World => (by
  have := header_bytes W 3 ep.toNat 0 (by simp only [hdrR, hte, he, poR]; decide)
  rw [hte] at this
  exact this : Calls Tryz.prog 174 #[.agg #[.int .i64 3, .int .u64 ep, .int .u64 0]] W fun r w' => ∃ x, r = .returned (.tuple #[x, .int .i64 0]) ∧ OwnB w' W.heap.size x (headHB 3 ep.toNat 0) ∧ Below W.heap.size W w'))
 have hhl := headHB_len (v := 3) (ep := ep.toNat) (bs := 0) (by omega) (by omega)
 have HI := hid (fun W : World => index_bytes W [] none 0 0 (rSl_mk (xs := []) rfl (Nat.le_refl _) (Nat.zero_le _) (.inl rfl)) rfl)
 have hil := indexB_len (M := []) rfl
 have HRC := hid (fun (W : World) (a : Option Addr) (n c : Nat) h => seg_record 2 (by decide) (indexB []) a n c W h (by omega))
 have hxl := recB_len 2 (indexB [])
 have hfe : Hid (segF ep [] = footM ep [] (headHB 3 ep.toNat 0).length (recB 2 (indexB [])).length) := hid rfl
 have HFO := hid (fun (W : World) => seg_footOf ep [] (headHB 3 ep.toNat 0).length (recB 2 (indexB [])).length none 0 0 W (rSl_mk (xs := []) rfl (Nat.le_refl _) (Nat.zero_le _) (.inl rfl)) rfl)
 rw [← hfe.out] at HFO
 have hse : Hid (segB ep [] = headHB 3 ep.toNat 0 ++ recB 2 (indexB []) ++ footB (segF ep [])) := hid rfl
 have hfl : (footB (segF ep [])).length ≤ 200 := by
  simp only [footB, List.length_append, trailB_len, frameB_len, blobB_len]
  have h1 := footP_len (segF ep [])
  have h2 := (varB_len (footP (segF ep [])).length).1
  omega
 have HON1 := hid (byteCells_one (recB 2 (indexB [])))
 have HON2 := hid (byteCells_one (footB (segF ep [])))
 generalize segB ep [] = K at *
 generalize footB (segF ep []) = FB at *
 generalize headHB 3 ep.toNat 0 = H at *
 generalize (segF ep []) = F at *
 obtain ⟨f0, f1, f2, f3, f4, f5, f6⟩ := F
 simp only [FootD.val] at HFB HFO
 generalize indexB [] = IB at *
 generalize hrx : recB 2 IB = RX at *
 clear hR hFR hfe he hte hrx
 go_enter Tryz.func113, Tryz.ntmps113
 go_wp2_with fail
 refine (HH.out _).mono ?_
 rintro r w1 ⟨v1, rfl, ho1, hb1⟩
 obtain ⟨a1, c1, rfl⟩ := ho1.form
 obtain ⟨p0, p1, p2, hb0, hz3⟩ := three_blocks w _ _ _ _ _ _ hb1
 have ho1' : OwnB w1 (w.heap.size + 3) (.slice a1 H.length c1) H := ho1.low (by simp)
 have k0 : w1.cell? ⟨w.heap.size + 1 + 1, 0, none⟩ = some (.slice none 0 0) := p2.cell 0
 have k1 : w1.frozen? ⟨w.heap.size + 1 + 1, 0, none⟩ = false := p2.free 0
 have hSI : SegI w (w1.setCell ⟨w.heap.size + 2, 0, none⟩ (.slice a1 H.length c1)) ep none 0 0 H [] a1 c1 none 0 := by
  have h2 : (Value.slice a1 H.length c1).ownBlock ≠ some (w.heap.size + 2) := SegI.far ho1' (by omega)
  exact ⟨hb0.setCell (by dsimp only; omega) _, p0.far (by dsimp only; omega) _, p1.far (by dsimp only; omega) _, p2.set 0 _, own_stays ho1' fun b hv hl => Below.heap_setCell _ _ _ _ (fun e => h2 (by rw [hv, e])), MarksAt.nil⟩
 have HSI := hid hSI
 have hz21 : w.heap.size + 2 < w1.heap.size := p2.lt
 have HBX := hid p0
 clear ho1 ho1' p0 p1 p2 hSI hb1 hb0
 have b1 : w1.cell? ⟨w.heap.size, 1, none⟩ = some (.slice none 0 0) := HBX.out.cell 1
 go_wp2_with fail
 refine wp_world (fun W => SegI w W ep none 0 0 H [] a1 c1 none 0) HSI.out ?_
 intro W hSI
 have HSI := hid hSI
 clear k0 k1 b1 hSI
 go_loopw [24] (fun i wr => i = .int .i64 0 ∧ wr = W) (fun _ _ => 0)
 case atStart => exact ⟨rfl, rfl⟩
 case round =>
  obtain ⟨rfl, rfl⟩ := hrel
  have y1 : wr.cell? ⟨w.heap.size + 1 + 1, 1, none⟩ = some (.slice none 0 0) := HSI.out.x.cell 1
  go_wp2_with fail
  refine (HI.out _).mono ?_
  rintro r w2 ⟨v2, rfl, hr2, hb2⟩
  obtain ⟨a2, c2, hv2, hr2', _⟩ := sl_form hr2
  simp only [List.cons.injEq, and_true] at hv2
  subst hv2
  have HSI2 := hid (HSI.out.later hb2)
  go_wp2_with fail
  refine (HRC.out w2 a2 _ c2 (rBytes.mono hr2' fun q hq => hq.2)).mono ?_
  rintro r w3 ⟨v3, rfl, ho3, hb3⟩
  obtain ⟨a3, c3, rfl⟩ := ho3.form
  have HSI3 := hid (HSI2.out.later hb3)
  have HO3 := hid ho3
  have x3 : w3.cell? ⟨w.heap.size, 0, none⟩ = some (.int .u64 ep) := HSI3.out.bx.cell 0
  have y3 : w3.cell? ⟨w.heap.size + 1 + 1, 1, none⟩ = some (.slice none 0 0) := HSI3.out.x.cell 1
  have z3 : w3.cell? ⟨w.heap.size + 1 + 1, 0, none⟩ = some (.slice a1 H.length c1) := HSI3.out.x.cell 0
  clear ho3 hr2 hr2' y1
  go_wp2_with fail
  refine (HFO.out w3).mono ?_
  rintro r w4 ⟨rfl, hb4⟩
  have HSI4 := hid (HSI3.out.later hb4)
  have HO4 := hid (own_below HO3.out hb4)
  have m0 : w4.cell? ⟨w.heap.size + 1 + 1, 2, none⟩ = some (.int .u64 0) := HSI4.out.x.cell 2
  have n0 : w4.frozen? ⟨w.heap.size + 1 + 1, 2, none⟩ = false := HSI4.out.x.free 2
  have m1 : w4.cell? ⟨w.heap.size + 1 + 1, 3, none⟩ = some (.int .i64 0) := HSI4.out.x.cell 3
  have n1 : w4.frozen? ⟨w.heap.size + 1 + 1, 3, none⟩ = false := HSI4.out.x.free 3
  have m2 : w4.cell? ⟨w.heap.size + 1 + 1, 4, none⟩ = some (.int .i64 0) := HSI4.out.x.cell 4
  have n2 : w4.frozen? ⟨w.heap.size + 1 + 1, 4, none⟩ = false := HSI4.out.x.free 4
  have m3 : w4.cell? ⟨w.heap.size + 1 + 1, 5, none⟩ = some (.int .u64 0) := HSI4.out.x.cell 5
  have n3 : w4.frozen? ⟨w.heap.size + 1 + 1, 5, none⟩ = false := HSI4.out.x.free 5
  have m4 : w4.cell? ⟨w.heap.size + 1 + 1, 6, none⟩ = some (.int .u64 0) := HSI4.out.x.cell 6
  have n4 : w4.frozen? ⟨w.heap.size + 1 + 1, 6, none⟩ = false := HSI4.out.x.free 6
  have m5 : w4.cell? ⟨w.heap.size + 1 + 1, 7, none⟩ = some (.int .i64 0) := HSI4.out.x.cell 7
  have n5 : w4.frozen? ⟨w.heap.size + 1 + 1, 7, none⟩ = false := HSI4.out.x.free 7
  have m6 : w4.cell? ⟨w.heap.size + 1 + 1, 8, none⟩ = some (.int .i64 0) := HSI4.out.x.cell 8
  have n6 : w4.frozen? ⟨w.heap.size + 1 + 1, 8, none⟩ = false := HSI4.out.x.free 8
  have hz4 : w.heap.size + 1 + 1 < w4.heap.size := HSI4.out.x.lt
  clear x3 y3 z3
  go_wp2_with fail
  refine (HFB.out _).mono ?_
  rintro r w5 ⟨v5, rfl, ho5, hb5⟩
  obtain ⟨a5, c5, rfl⟩ := ho5.form
  have hx4 : Blk w4 (w.heap.size + 1 + 1) 153 (.slice a1 H.length c1 :: .slice none 0 0 :: segZ).toArray := HSI4.out.x
  have hX := ((((((((hx4).set 2 (.int .u64 f0)).set 3 (.int .i64 f1)).set 4 (.int .i64 f2)).set 5 (.int .u64 f3)).set 6 (.int .u64 f4)).set 7 (.int .i64 f5)).set 8 (.int .i64 f6)).later hb5
  have hQ : Tch (· = w.heap.size + 1 + 1) w4 w5 := (tch7 w4 (w.heap.size + 1 + 1) _ _ _ _ _ _ _).trans (Tch.of_later (F := (· = w.heap.size + 1 + 1)) hb5) fun _ _ h => h
  simp only [segZ, List.setIfInBounds_toArray, List.set_cons_zero, List.set_cons_succ] at hX
  have hj5 : w5.ownsRow (w.heap.size + 3) 5 1 (.slice a1 H.length c1) H.length (byteCells H) := own_stays HSI4.out.j fun b hv hl => hQ.block b hl (by have := (own_lt HSI4.out.j b hv).1; omega)
  have hs2 : w.heap.size + 3 ≤ w2.heap.size := by have := HSI2.out.br.lt; have := HSI2.out.x.lt; omega
  have ho5r : w5.ownsRow w2.heap.size 5 1 (.slice a3 RX.length c3) RX.length (byteCells RX) := own_stays HO4.out fun b hv hl => hQ.block b hl (by have := (own_lt HO4.out b hv).1; omega)
  have HS5 := hid (src_bytes (own_bytes rfl ho5r))
  have hr5 : Blk w5 (w.heap.size + 1) 153 (.slice none 0 0 :: .slice none 0 0 :: segZ).toArray := HSI4.out.br.tch hQ (by omega)
  have hb05 : Below w.heap.size w w5 := HSI4.out.below.trans (hQ.to_below HSI4.out.below.size fun b _ e => by omega)
  have hfb : rBytes.r (fun q => w4.heap.size ≤ q ∧ q < w5.heap.size) w5 [.slice a5 FB.length c5] FB := rBytes.mono ho5.read fun q hq => ⟨by have := hq.1; simpa using this, hq.2⟩
  have hz45 := hQ.size
  have HJ5 := hid hj5
  have HJ4 := hid HSI4.out.j
  have HX5 := hid hX
  have HR5 := hid hr5
  have HFBR := hid hfb
  have HB05 := hid hb05
  have hz15 := hb05.size
  have hz05 : w.heap.size + 3 ≤ w5.heap.size := by have := hX.lt; omega
  clear hj5 ho5r hX hr5 hfb hQ hx4 ho5 hb5 hb05
  clear m0 n0 m1 n1 m2 n2 m3 n3 m4 n4 m5 n5 m6 n6
  have x0 : w5.cell? ⟨w.heap.size + 1 + 1, 0, none⟩ = some (.slice a1 H.length c1) := HX5.out.cell 0
  go_wp2_with (first | (at_builtin; (refine wpList_append_src rfl _ _ _ rfl (w.heap.size + 3) 5 i0 (.int .u8 0) 1 1 Tryz.underlying28 hi hz0 hz1 hz2 rfl (by decide) (.slice a1 H.length c1) H.length (byteCells H) rfl HJ5.out a3 RX.length c3 (byteCells RX) rfl HS5.out HON1.out (by simp only [maxLen]; omega) (by omega) (by omega) ?_; intro v6 w6 hown6 hgrow6 hat6; obtain ⟨a6, c6, rfl⟩ := own_form hown6; have HG6 := hid hgrow6; have HO6 := hid hown6; have HS6 := hid (src_bytes (rBytes.mono (S' := (· < w6.heap.size)) (rBytes.keep HFBR.out fun q hq => hgrow6.block q hq.2 (fun e => by have h9 := (own_lt HJ4.out q e.symm).2; have h8 := hq.1; omega)) fun q hq => Nat.lt_of_lt_of_le hq.2 hgrow6.size)); have hz6 := hgrow6.size; clear hgrow6 hown6 hat6)) | (at_builtin; (refine wpList_append_src rfl _ _ _ rfl (w.heap.size + 3) 5 i0 (.int .u8 0) 1 1 Tryz.underlying28 hi hz0 hz1 hz2 rfl (by decide) (.slice a6 (H.length + RX.length) c6) (H.length + RX.length) (byteCells H ++ byteCells RX) rfl HO6.out a5 FB.length c5 (byteCells FB) rfl HS6.out HON2.out (by simp only [maxLen]; omega) (by omega) (by omega) ?_; intro v7 w7 hown7 hgrow7 hat7; obtain ⟨a7, c7, rfl⟩ := own_form hown7; have HX7 := hid ((HX5.out.grown HG6.out (fun e => SegI.far HJ5.out (by omega) e.symm)).grown hgrow7 (fun e => SegI.far HO6.out (by omega) e.symm)); have HR7 := hid ((HR5.out.grown HG6.out (fun e => SegI.far HJ5.out (by omega) e.symm)).grown hgrow7 (fun e => SegI.far HO6.out (by omega) e.symm)); have HB7 := hid ((HB05.out.grown HG6.out hz15 (fun g e => by have := (own_lt HJ5.out g e).1; omega)).grown hgrow7 (by omega) (fun g e => by have := (own_lt HO6.out g e).1; omega)); have HO7 := hid hown7; clear hgrow7 hown7 hat7; have p0 : w7.cell? ⟨w.heap.size + 1 + 1, 0, none⟩ = some (.slice a1 H.length c1) := HX7.out.cell 0; have q0 : w7.cell? ⟨w.heap.size + 1, 0, none⟩ = some (.slice none 0 0) := HR7.out.cell 0; have r0 := HR7.out.free 0; have p1 : w7.cell? ⟨w.heap.size + 1 + 1, 1, none⟩ = some (.slice none 0 0) := HX7.out.cell 1; have q1 : w7.cell? ⟨w.heap.size + 1, 1, none⟩ = some (.slice none 0 0) := HR7.out.cell 1; have r1 := HR7.out.free 1; have p2 : w7.cell? ⟨w.heap.size + 1 + 1, 2, none⟩ = some (.int .u64 f0) := HX7.out.cell 2; have q2 : w7.cell? ⟨w.heap.size + 1, 2, none⟩ = some (.int .u64 0) := HR7.out.cell 2; have r2 := HR7.out.free 2; have p3 : w7.cell? ⟨w.heap.size + 1 + 1, 3, none⟩ = some (.int .i64 f1) := HX7.out.cell 3; have q3 : w7.cell? ⟨w.heap.size + 1, 3, none⟩ = some (.int .i64 0) := HR7.out.cell 3; have r3 := HR7.out.free 3; have p4 : w7.cell? ⟨w.heap.size + 1 + 1, 4, none⟩ = some (.int .i64 f2) := HX7.out.cell 4; have q4 : w7.cell? ⟨w.heap.size + 1, 4, none⟩ = some (.int .i64 0) := HR7.out.cell 4; have r4 := HR7.out.free 4; have p5 : w7.cell? ⟨w.heap.size + 1 + 1, 5, none⟩ = some (.int .u64 f3) := HX7.out.cell 5; have q5 : w7.cell? ⟨w.heap.size + 1, 5, none⟩ = some (.int .u64 0) := HR7.out.cell 5; have r5 := HR7.out.free 5; have p6 : w7.cell? ⟨w.heap.size + 1 + 1, 6, none⟩ = some (.int .u64 f4) := HX7.out.cell 6; have q6 : w7.cell? ⟨w.heap.size + 1, 6, none⟩ = some (.int .u64 0) := HR7.out.cell 6; have r6 := HR7.out.free 6; have p7 : w7.cell? ⟨w.heap.size + 1 + 1, 7, none⟩ = some (.int .i64 f5) := HX7.out.cell 7; have q7 : w7.cell? ⟨w.heap.size + 1, 7, none⟩ = some (.int .i64 0) := HR7.out.cell 7; have r7 := HR7.out.free 7; have p8 : w7.cell? ⟨w.heap.size + 1 + 1, 8, none⟩ = some (.int .i64 f6) := HX7.out.cell 8; have q8 : w7.cell? ⟨w.heap.size + 1, 8, none⟩ = some (.int .i64 0) := HR7.out.cell 8; have r8 := HR7.out.free 8; have px := HX7.out.free 0; have hz7 : w.heap.size + 1 + 1 < w7.heap.size := HX7.out.lt)))
  have hT := tch10 w7 (w.heap.size + 1 + 1) (w.heap.size + 1) (.slice a7 (H.length + RX.length + FB.length) c7) (.slice a7 (H.length + RX.length + FB.length) c7) (.slice none 0 0) (.int .u64 f0) (.int .i64 f1) (.int .i64 f2) (.int .u64 f3) (.int .u64 f4) (.int .i64 f5) (.int .i64 f6)
  have hO : OwnB w7 (w.heap.size + 3) (.slice a7 (H.length + RX.length + FB.length) c7) K := by
   rw [hse.out]
   unfold OwnB
   rw [List.length_append, List.length_append, ← byteCells_app, ← byteCells_app]
   exact HO7.out
  refine bodyPost_ret (v := .agg #[.slice a7 (H.length + RX.length + FB.length) c7, .slice none 0 0, .int .u64 f0, .int .i64 f1, .int .i64 f2, .int .u64 f3, .int .u64 f4, .int .i64 f5, .int .i64 f6]) (by simp [results, Tryz.results113, go_sem, World.cell?_setCell_far, q0, q1, q2, q3, q4, q5, q6, q7, q8]) rfl ?_
  refine ⟨_, _, _, _, _, _, _, _, _, rfl, ?_, HB7.out.trans (hT.to_below HB7.out.size fun b _ e => by omega)⟩
  exact rBytes.mono (rBytes.keep hO.read fun b hb => hT.block b hb.2 (by have := hb.1; omega)) fun b hb => ⟨by have := hb.1; omega, Nat.lt_of_lt_of_le hb.2 hT.size⟩
theorem seg5_bytes : segB 5 [] = [84, 72, 79, 76, 3, 5, 95, 99, 255, 253, 2, 2, 0, 60, 71, 36, 214, 8, 3, 5, 0, 0, 0, 0, 10, 7, 71, 75, 20, 244, 13, 0, 0, 0, 106, 179, 68, 24, 76, 79, 72, 84] := by decide +kernel
theorem written_b (W : World) (x u f0 f1 f2 f3 f4 f5 f6 : Value) : (Instr.field 153 (.agg #[x, u, f0, f1, f2, f3, f4, f5, f6]) 0).run Tryz.prog W = .ok x W := by kernel_rfl
set_option maxRecDepth 100000 in
set_option maxHeartbeats 1600000 in
theorem seg_bytes5 (w : World) :
  Calls Tryz.prog 56 #[.agg #[.int .u64 5, .slice none 0 0]] w fun r w' => ∃ v, r = .returned (.tuple #[v, .int .i64 0]) ∧ rBytes.r (fun q => w.heap.size ≤ q ∧ q < w'.heap.size) w' [v] [84, 72, 79, 76, 3, 5, 95, 99, 255, 253, 2, 2, 0, 60, 71, 36, 214, 8, 3, 5, 0, 0, 0, 0, 10, 7, 71, 75, 20, 244, 13, 0, 0, 0, 106, 179, 68, 24, 76, 79, 72, 84] ∧ Below w.heap.size w w' := by
 have HR := hid (fun W : World => segment_right 5 [] none 0 0 W (by omega) (rSl_mk (xs := []) rfl (Nat.le_refl _) (Nat.zero_le _) (.inl rfl)) (by simp))
 rw [show segR ⟨5, []⟩ = true by decide] at HR
 have HW := hid (fun W : World => seg_write0 5 (by decide) W)
 rw [seg5_bytes] at HW
 have kf := written_b
 go_enter Tryz.func56, Tryz.ntmps56
 go_wp2_with fail
 refine (HR.out _).mono ?_
 rintro r w1 ⟨rfl, hb1⟩
 have hB := (Blk.new w 62 #[.int .u64 5, .slice none 0 0]).later hb1
 have c0 : w1.cell? ⟨w.heap.size, 0, none⟩ = some (.int .u64 5) := hB.cell 0
 have c1 : w1.cell? ⟨w.heap.size, 1, none⟩ = some (.slice none 0 0) := hB.cell 1
 have hbw : Below w.heap.size w w1 := by (repeat first | exact zR | assumption | apply zA | apply zS | apply zD | apply zN | refine zT (by assumption) ?_ | omega | simp <;> omega)
 clear hB
 go_wp2_with fail
 refine (HW.out w1).mono ?_
 rintro r w2 ⟨v, u, f0, f1, f2, f3, f4, f5, f6, rfl, hr, hb2⟩
 obtain ⟨a2, c2, hv2, hr2, _⟩ := sl_form hr
 simp only [List.cons.injEq, and_true] at hv2
 subst hv2
 have HV := hid hr2
 clear hr hr2
 go_wp2
 go_ret2
 exact ⟨_, rfl, rBytes.mono HV.out fun q hq => ⟨by have := hbw.size; omega, hq.2⟩, below_then hb2 hbw⟩
end Go.Proofs.YtkipiefcnjfdjaaGreat
namespace Go.Proofs.YtkipiefcnjfdjaaGreat
open Go.RowKit Go.Bs Go.Maps
set_option linter.unusedVariables false
set_option linter.unusedSimpArgs false
theorem MarksAt.row {w : World} {base : Nat} {v : Value} {M : List MarkD} (h : MarksAt w base v M) : rMarks.r (fun q => v.ownBlock = some q) w [v] M := by
 have hF : OwnElsF (fun _ => False) rMark base 160 3 w v M (M.map markC) := ⟨h.own, by simp, by intro cs hcs; obtain ⟨m, _, rfl⟩ := List.mem_map.1 hcs; rfl, fun i cs x hi hx => by
  rw [List.getElem?_map, hx] at hi
  simp at hi
  subst hi
  exact mark_mk (h.nat x (List.mem_of_getElem? hx))⟩
 exact rMarks.mono (OwnElsF.slice hF) fun q hq => hq.resolve_left id
end Go.Proofs.YtkipiefcnjfdjaaGreat
namespace Go.Bs
theorem markD_eq {x y : MarkD} : x = y ↔ x.pos = y.pos ∧ x.count = y.count ∧ x.at_ = y.at_ := by
 cases x; cases y; simp
end Go.Bs
namespace Go.Proofs.YtkipiefcnjfdjaaGreat
open Go.RowKit Go.Bs Go.Maps
set_option linter.unusedVariables false
set_option linter.unusedSimpArgs false
instance : DecidableEq MarkD := fun x y => decidable_of_iff _ markD_eq.symm
end Go.Proofs.YtkipiefcnjfdjaaGreat
namespace Go.Proofs.YtkipiefcnjfdjaaGreat
open Go.RowKit Go.Bs
set_option linter.unusedVariables false
set_option linter.unusedSimpArgs false
def nEntries (l : List Batch) : Nat := (l.map fun b => b.entries.length).sum
def nBytes (l : List Batch) : Nat := (l.map fun b => total b.entries).sum
theorem sumB_step (f : Batch → Nat) (l : List Batch) (k : Nat) (h : k < l.length) : ((l.take (k + 1)).map f).sum = ((l.take k).map f).sum + f l[k] := by
 rw [List.take_succ_eq_append_getElem h, List.map_append, List.sum_append]
 simp
theorem sumB_take_le (f : Batch → Nat) (l : List Batch) (k : Nat) : ((l.take k).map f).sum ≤ (l.map f).sum := by
 have : (l.map f).sum = ((l.take k).map f).sum + ((l.drop k).map f).sum := by
  rw [← List.sum_append, ← List.map_append, List.take_append_drop]
 omega
set_option maxHeartbeats 1600000 in
theorem ref34_counts (e : Int) (l : List Batch) (a : Option Addr) (n c : Nat) (w : World) (hl : rBatches.r (· < w.heap.size) w [.slice a n c] l) (h1 : nEntries l ≤ 1000000000000) (h2 : nBytes l ≤ 1000000000000) :
  Calls Tryz.prog 50 #[.agg #[.int .u64 e, .slice a n c]] w fun r w' => r = .returned (.tuple #[.int .i64 (nEntries l : Nat), .int .i64 (nBytes l : Nat)]) ∧ Below w.heap.size w w' := by
 obtain ⟨rfl, hm, _, _⟩ := sl_len hl
 have HL := hid hl; clear hl
 go_enter Tryz.func50, Tryz.ntmps50
 go_wp2_with fail
 refine wp_world (fun W => Below w.heap.size w W ∧ w.heap.size < W.heap.size ∧ W.cell? ⟨w.heap.size, 1, none⟩ = some (.slice a l.length c)) ⟨by (repeat first | exact zR | assumption | apply zA | apply zS | apply zD | apply zN | refine zT (by assumption) ?_ | omega | simp <;> omega), by simp, by go_simp⟩ ?_
 intro W ⟨hbW, hzW, q1⟩
 go_loopw [4, 5, 6] (fun x y i wr => ∃ k : Nat, k ≤ l.length ∧ i = .int .i64 k ∧ x = .int .i64 (nEntries (l.take k) : Nat) ∧ y = .int .i64 (nBytes (l.take k) : Nat) ∧ Below W.heap.size W wr) (fun _ _ i _ => l.length - (intOf i).toNat)
 case atStart => exact ⟨0, Nat.zero_le _, rfl, rfl, rfl, Below.refl _ _⟩
 case round =>
  obtain ⟨k, hk, rfl, rfl, rfl, hb⟩ := hrel
  have hb3 := below_then hb hbW
  have t1 : wr.cell? ⟨w.heap.size, 1, none⟩ = some (.slice a l.length c) := (Later.mk wr hb).cell q1
  have hz3 : w.heap.size < wr.heap.size := by have := hb.size; omega
  by_cases hlt : k < l.length
  ·obtain ⟨b, o, hA, hbb, a1, c1, X0, X1, X2, _, _, hd⟩ := batch_at (lift HL.out hb3) hlt
   subst hA
   have s1 := hid (sumB_step (fun b => b.entries.length) l k hlt)
   have s2 := hid (sumB_step (fun b => total b.entries) l k hlt)
   have t3 := sumB_take_le (fun b => b.entries.length) l (k + 1)
   have t4 := sumB_take_le (fun b => total b.entries) l (k + 1)
   rw [s1.out] at t3
   rw [s2.out] at t4
   have g1 : nEntries (l.take k) + l[k].entries.length ≤ 1000000000000 := Nat.le_trans t3 h1
   have g2 : nBytes (l.take k) + total l[k].entries ≤ 1000000000000 := Nat.le_trans t4 h2
   clear t3 t4
   have S1 : Hid (nEntries (l.take (k + 1)) = nEntries (l.take k) + l[k].entries.length) := s1
   have S2 : Hid (nBytes (l.take (k + 1)) = nBytes (l.take k) + total l[k].entries) := s2
   clear s1 s2
   have HD := hid hd; clear hd
   generalize l[k] = z at *
   generalize nEntries (l.take k) = x at *
   generalize nBytes (l.take k) = y at *
   go_wp2_with fail
   refine (ref24_join z.entries _ _ _ _ (lift HD.out (by (repeat first | exact zR | assumption | apply zA | apply zS | apply zD | apply zN | refine zT (by assumption) ?_ | omega | simp <;> omega))) (by omega)).mono ?_
   rintro r w4 ⟨v, rfl, hr4, hb4⟩
   obtain ⟨a4, c4, hv4, _, _⟩ := sl_form hr4
   simp only [List.cons.injEq, and_true] at hv4
   subst hv4
   have hj : (joined z.entries).length = total z.entries := joined_length _
   rw [hj]
   clear hr4 hj
   have hb5 := below_then hb4 hb
   go_wp2
   go_roundw
   case rel => exact ⟨k + 1, by omega, by go_num, by rw [S1.out]; simp only [Int.natCast_add], by rw [S2.out]; simp only [Int.natCast_add], hb5⟩
   case measure => simp [intOf]; omega
  ·obtain rfl : k = l.length := by omega
   rw [List.take_length]
   go_wp2
   go_ret2
   exact ⟨rfl, hb3⟩
set_option maxHeartbeats 800000 in
theorem peek_numbered (e b : Int) (a : Option Addr) (n c : Nat) (w : World) (h0 : 0 ≤ b) (h : b + n ≤ 18446744073709551615) (hn : n ≤ 9223372036854775807) :
  Calls Tryz.prog 170 #[.agg #[.int .u64 e, .int .u64 b, .slice a n c]] w fun r w' => r = .returned (.bool true) ∧ Below w.heap.size w w' := by
 have d1 : decide (b ≤ b + (n : Int)) = true := by simp; omega
 have F : Below w.heap.size w (w.alloc (.cells #[.int .u64 e, .int .u64 b, .slice a n c] 25)) := by (repeat first | exact zR | assumption | apply zA | apply zS | apply zD | apply zN | refine zT (by assumption) ?_ | omega | simp <;> omega)
 have Y0 := fun s : Later (w.alloc (.cells #[.int .u64 e, .int .u64 b, .slice a n c] 25)) => s.cell (v := .int .u64 e) (b := w.heap.size) (o := 0) (by go_simp)
 have Y1 := fun s : Later (w.alloc (.cells #[.int .u64 e, .int .u64 b, .slice a n c] 25)) => s.cell (v := .int .u64 b) (b := w.heap.size) (o := 1) (by go_simp)
 have Y2 := fun s : Later (w.alloc (.cells #[.int .u64 e, .int .u64 b, .slice a n c] 25)) => s.cell (v := .slice a n c) (b := w.heap.size) (o := 2) (by go_simp)
 have FF := hid F; clear F
 have hE := fun s : Later (w.alloc (.cells #[.int .u64 e, .int .u64 b, .slice a n c] 25)) => batch_end e b a n c s.at_ h0 h hn
 have HE := hid hE; clear hE
 go_enter Tryz.func170, Tryz.ntmps170
 go_wp2_with fail
 refine wp_region_later (by kernel_rfl) (by kernel_rfl) ?_
 repeat (go_big_quiet_step (((go_at_call 24; exact later_of (HE.out _)))))
 refine wpQuiet_nil ?_
 rintro W5 ⟨⟨W5', hb5⟩, rfl⟩
 go_wp2
 go_ret
 have FO := FF.out
 exact ⟨rfl, by (repeat first | exact zR | assumption | apply zA | apply zS | apply zD | apply zN | refine zT (by assumption) ?_ | omega | simp <;> omega)⟩
def findB (b : Batch) (pos : Int) : Option Entry := if b.base ≤ pos then b.entries[(pos - b.base).toNat]? else none
def EntRet (x : Option Entry) (w : World) (r : Ending) (w' : World) : Prop :=
 match x with
 | none => r = .returned (.tuple #[.agg #[.slice none 0 0, .slice none 0 0], .bool false]) ∧ Below w.heap.size w w'
 | some e => ∃ v1 v2, r = .returned (.tuple #[.agg #[v1, v2], .bool true]) ∧ rLinks.r (Fresh w w') w' [v1] e.links ∧ rBytes.r (Fresh w w') w' [v2] e.data ∧ Below w.heap.size w w'
set_option maxRecDepth 100000 in
set_option maxHeartbeats 1600000 in
theorem peek_at (x : Batch) (pos : Int) (a : Option Addr) (n c : Nat) (w : World) (h0 : 0 ≤ x.base) (h : x.base + x.entries.length ≤ 4611686018427387904) (hp : 0 ≤ pos ∧ pos ≤ 18446744073709551615) (hl : rEntries.r (· < w.heap.size) w [.slice a n c] x.entries) (hm : ∀ z ∈ x.entries, Mild z) :
  Calls Tryz.prog 108 #[.agg #[.int .u64 x.epoch, .int .u64 x.base, .slice a n c], .int .u64 pos] w (EntRet (findB x pos) w) := by
 obtain ⟨rfl, hm1, _, _⟩ := sl_len hl
 obtain ⟨ep, bs, l⟩ := x
 dsimp only at *
 have HL := hid hl; clear hl
 have HM := hid hm; clear hm
 have hN := fun W => peek_numbered ep bs a l.length c W h0 (by omega) hm1
 have HN := hid hN; clear hN
 have hE := fun W => batch_end ep bs a l.length c W h0 (by omega) hm1
 have HE := hid hE; clear hE
 by_cases h1 : bs ≤ pos
 ·have d1 : decide (pos < bs) = false := by simp; omega
  by_cases h2 : pos < bs + l.length
  ·have d2 : decide (bs + (l.length : Int) ≤ pos) = false := by simp; omega
   obtain ⟨k, hk⟩ : ∃ k : Nat, pos - bs = k := ⟨(pos - bs).toNat, by omega⟩
   have hkl : k < l.length := by omega
   have hpos : pos = bs + k := by omega
   have HF : Hid (findB ⟨ep, bs, l⟩ pos = some l[k]) := hid (by simp only [findB, if_pos h1]; rw [hk]; simp [hkl])
   have HMk := HM.out _ (List.getElem_mem hkl)
   obtain ⟨m1, m2, m3⟩ := HMk
   obtain ⟨b, o, hA, hbb, a1, c1, a2, c2, xx0, xx1, hd1, hd2⟩ := entry_at HL.out hkl
   subst hA
   have HD1 := hid hd1; have HD2 := hid hd2; clear hd1 hd2
   generalize l[k] = z at *
   have M3 := hid m3; clear m3
   subst hpos
   have e1 : bs + (k : Int) - bs = k := by omega
   clear hk
   go_enter Tryz.func108, Tryz.ntmps108
   go_wp2_with fail
   refine (HN.out _).mono ?_
   rintro e' w1 ⟨rfl, hb1⟩
   have hz : w.heap.size + 1 < w1.heap.size := by have := hb1.size; simp at this; omega
   have hz0 : w.heap.size < w1.heap.size := by omega
   have p0 : w1.cell? ⟨w.heap.size, 0, none⟩ = some (.int .u64 ep) := (Later.mk w1 hb1).cell (by go_simp)
   have p1 : w1.cell? ⟨w.heap.size, 1, none⟩ = some (.int .u64 bs) := (Later.mk w1 hb1).cell (by go_simp)
   have p2 : w1.cell? ⟨w.heap.size, 2, none⟩ = some (.slice (some ⟨b, o, none⟩) l.length c) := (Later.mk w1 hb1).cell (by go_simp)
   have r0 : Blk w1 (w.heap.size + 1) 75 #[.slice none 0 0, .slice none 0 0] := Blk.later (by (repeat first | assumption | exact kW (by first | (simp; done) | (simp; omega)) | apply kA | apply kD | apply kN | apply kF | simp <;> omega)) hb1
   have RB := hid r0; clear r0
   have hbw : Below w.heap.size w w1 := by (repeat first | exact zR | assumption | apply zA | apply zS | apply zD | apply zN | refine zT (by assumption) ?_ | omega | simp <;> omega)
   go_wp2_with fail
   refine (HE.out _).mono ?_
   rintro e' w2 ⟨rfl, hb2⟩
   have s1 : w2.cell? ⟨w.heap.size, 1, none⟩ = some (.int .u64 bs) := (Later.mk w2 hb2).cell p1
   have s2 : w2.cell? ⟨w.heap.size, 2, none⟩ = some (.slice (some ⟨b, o, none⟩) l.length c) := (Later.mk w2 hb2).cell p2
   have hbw2 : Below w.heap.size w w2 := below_then hb2 hbw
   have X0 := (hbw2.cell (p := ⟨b, o + k * 2, none⟩) hbb).trans xx0
   have X1 := (hbw2.cell (p := ⟨b, o + k * 2 + 1, none⟩) hbb).trans xx1
   have hz2 : w.heap.size < w2.heap.size := by have := hb2.size; omega
   go_wp2_with fail
   refine (entry_copy z _ _ _ _ _ _ _ (lift HD1.out hbw2) (lift HD2.out hbw2) m1 m2 M3.out).mono ?_
   rintro r w3 ⟨v1, v2, rfl, hr1, hr2, hb3⟩
   obtain ⟨a3, c3, hv3, _, _⟩ := sl_form hr1
   simp only [List.cons.injEq, and_true] at hv3
   subst hv3
   obtain ⟨a4, c4, hv4, _, _⟩ := sl_form hr2
   simp only [List.cons.injEq, and_true] at hv4
   subst hv4
   have HR1 := hid hr1; have HR2 := hid hr2; clear hr1 hr2
   have R3 := RB.out.later (below_then hb3 hb2)
   have c0 : w3.cell? ⟨w.heap.size + 1, 0, none⟩ = some (.slice none 0 0) := R3.cell 0
   have c1' : w3.cell? ⟨w.heap.size + 1, 1, none⟩ = some (.slice none 0 0) := R3.cell 1
   have f0 := R3.free 0
   have f1 := R3.free 1
   clear R3
   have hzz : w.heap.size + 1 < w3.heap.size := by have := hb3.size; have := hb2.size; omega
   have hbf : Below w.heap.size w w3 := below_then hb3 hbw2
   go_wp2
   refine bodyPost_ret (v := .tuple #[.agg #[.slice a3 z.links.length c3, .slice a4 z.data.length c4], .bool true]) (by simp [results, Tryz.results108, go_sem, c0, c1']) rfl ?_
   unfold EntRet
   rw [HF.out]
   have hs2 := hb2.size
   refine ⟨_, _, rfl, ?_, ?_, by (repeat first | exact zR | assumption | apply zA | apply zS | apply zD | apply zN | refine zT (by assumption) ?_ | omega | simp <;> omega)⟩
   ·refine rLinks.mono (rLinks.keep HR1.out fun b hb => ?_) fun b hb => ⟨by have := hb.1; omega, by have := hb.2; simp; omega⟩
    have hb' := hb.1
    repeat rw [Below.heap_setCell _ _ _ _ (by dsimp only; omega)]
   ·refine rBytes.mono (rBytes.keep HR2.out fun b hb => ?_) fun b hb => ⟨by have := hb.1; omega, by have := hb.2; simp; omega⟩
    have hb' := hb.1
    repeat rw [Below.heap_setCell _ _ _ _ (by dsimp only; omega)]
  ·have d2 : decide (bs + (l.length : Int) ≤ pos) = true := by simp; omega
   have HF : Hid (findB ⟨ep, bs, l⟩ pos = none) := hid (by simp only [findB, if_pos h1]; exact List.getElem?_eq_none (by omega))
   go_enter Tryz.func108, Tryz.ntmps108
   go_wp2_with fail
   refine (HN.out _).mono ?_
   rintro e' w1 ⟨rfl, hb1⟩
   have hz : w.heap.size + 1 < w1.heap.size := by have := hb1.size; simp at this; omega
   have hz0 : w.heap.size < w1.heap.size := by omega
   have p0 : w1.cell? ⟨w.heap.size, 0, none⟩ = some (.int .u64 ep) := (Later.mk w1 hb1).cell (by go_simp)
   have p1 : w1.cell? ⟨w.heap.size, 1, none⟩ = some (.int .u64 bs) := (Later.mk w1 hb1).cell (by go_simp)
   have p2 : w1.cell? ⟨w.heap.size, 2, none⟩ = some (.slice a l.length c) := (Later.mk w1 hb1).cell (by go_simp)
   have r0 : Blk w1 (w.heap.size + 1) 75 #[.slice none 0 0, .slice none 0 0] := Blk.later (by (repeat first | assumption | exact kW (by first | (simp; done) | (simp; omega)) | apply kA | apply kD | apply kN | apply kF | simp <;> omega)) hb1
   have RB := hid r0; clear r0
   have hbw : Below w.heap.size w w1 := by (repeat first | exact zR | assumption | apply zA | apply zS | apply zD | apply zN | refine zT (by assumption) ?_ | omega | simp <;> omega)
   go_wp2_with fail
   refine (HE.out _).mono ?_
   rintro e' w2 ⟨rfl, hb2⟩
   have R3 := RB.out.later hb2
   have c0 : w2.cell? ⟨w.heap.size + 1, 0, none⟩ = some (.slice none 0 0) := R3.cell 0
   have c1' : w2.cell? ⟨w.heap.size + 1, 1, none⟩ = some (.slice none 0 0) := R3.cell 1
   have f0 := R3.free 0
   have f1 := R3.free 1
   clear R3
   have hzz : w.heap.size + 1 < w2.heap.size := by have := hb2.size; omega
   have hbf : Below w.heap.size w w2 := below_then hb2 hbw
   go_wp2
   refine bodyPost_ret (v := .tuple #[.agg #[.slice none 0 0, .slice none 0 0], .bool false]) (by simp [results, Tryz.results108, go_sem, c0, c1']) rfl ?_
   unfold EntRet
   rw [HF.out]
   exact ⟨rfl, by (repeat first | exact zR | assumption | apply zA | apply zS | apply zD | apply zN | refine zT (by assumption) ?_ | omega | simp <;> omega)⟩
 ·have d1 : decide (pos < bs) = true := by simp; omega
  have HF : Hid (findB ⟨ep, bs, l⟩ pos = none) := hid (by simp only [findB, if_neg h1])
  go_enter Tryz.func108, Tryz.ntmps108
  go_wp2_with fail
  refine (HN.out _).mono ?_
  rintro e' w1 ⟨rfl, hb1⟩
  have hz : w.heap.size + 1 < w1.heap.size := by have := hb1.size; simp at this; omega
  have hz0 : w.heap.size < w1.heap.size := by omega
  have p1 : w1.cell? ⟨w.heap.size, 1, none⟩ = some (.int .u64 bs) := (Later.mk w1 hb1).cell (by go_simp)
  have R3 : Blk w1 (w.heap.size + 1) 75 #[.slice none 0 0, .slice none 0 0] := Blk.later (by (repeat first | assumption | exact kW (by first | (simp; done) | (simp; omega)) | apply kA | apply kD | apply kN | apply kF | simp <;> omega)) hb1
  have c0 : w1.cell? ⟨w.heap.size + 1, 0, none⟩ = some (.slice none 0 0) := R3.cell 0
  have c1' : w1.cell? ⟨w.heap.size + 1, 1, none⟩ = some (.slice none 0 0) := R3.cell 1
  have f0 := R3.free 0
  have f1 := R3.free 1
  clear R3
  have hbf : Below w.heap.size w w1 := by (repeat first | exact zR | assumption | apply zA | apply zS | apply zD | apply zN | refine zT (by assumption) ?_ | omega | simp <;> omega)
  go_wp2
  refine bodyPost_ret (v := .tuple #[.agg #[.slice none 0 0, .slice none 0 0], .bool false]) (by simp [results, Tryz.results108, go_sem, c0, c1']) rfl ?_
  unfold EntRet
  rw [HF.out]
  exact ⟨rfl, by (repeat first | exact zR | assumption | apply zA | apply zS | apply zD | apply zN | refine zT (by assumption) ?_ | omega | simp <;> omega)⟩
def findS (l : List Batch) (pos : Int) : Option Entry := l.findSome? fun b => findB b pos
theorem findS_step (l : List Batch) (pos : Int) (k : Nat) (h : k < l.length) : findS (l.drop k) pos = (findB l[k] pos).or (findS (l.drop (k + 1)) pos) := by
 unfold findS
 rw [List.drop_eq_getElem_cons h, List.findSome?_cons]
 cases findB l[k] pos <;> rfl
set_option maxRecDepth 100000 in
set_option maxHeartbeats 1600000 in
theorem segment_entry (e : Int) (l : List Batch) (pos : Int) (a : Option Addr) (n c : Nat) (w : World) (h0 : 0 ≤ e ∧ e ≤ 18446744073709551615) (hl : rBatches.r (· < w.heap.size) w [.slice a n c] l) (hfair : ∀ x ∈ l, Fair x.entries) (hm : ∀ x ∈ l, ∀ z ∈ x.entries, Mild z) (hp : 0 ≤ pos ∧ pos ≤ 18446744073709551615) :
  Calls Tryz.prog 49 #[.agg #[.int .u64 e, .slice a n c], .int .u64 pos] w (EntRet (if segR ⟨e, l⟩ then findS l pos else none) w) := by
 obtain ⟨rfl, hm1, _, _⟩ := sl_len hl
 have HR := hid (fun (W : World) (hW : Below w.heap.size w W) => segment_right e l a _ c W h0 (lift hl hW) hfair)
 have HL := hid hl; clear hl
 have HM := hid hm; clear hm hfair
 cases hs : segR ⟨e, l⟩
 ·rw [hs] at HR
  rw [if_neg (by simp)]
  clear hs
  go_enter Tryz.func49, Tryz.ntmps49
  go_wp2_with fail
  refine (HR.out _ (by (repeat first | exact zR | assumption | apply zA | apply zS | apply zD | apply zN | refine zT (by assumption) ?_ | omega | simp <;> omega))).mono ?_
  rintro e' w1 ⟨rfl, hb1⟩
  have hz : w.heap.size + 1 < w1.heap.size := by have := hb1.size; simp at this; omega
  have R3 : Blk w1 (w.heap.size + 1) 75 #[.slice none 0 0, .slice none 0 0] := Blk.later (by (repeat first | assumption | exact kW (by first | (simp; done) | (simp; omega)) | apply kA | apply kD | apply kN | apply kF | simp <;> omega)) hb1
  have c0 : w1.cell? ⟨w.heap.size + 1, 0, none⟩ = some (.slice none 0 0) := R3.cell 0
  have c1' : w1.cell? ⟨w.heap.size + 1, 1, none⟩ = some (.slice none 0 0) := R3.cell 1
  have f0 := R3.free 0
  have f1 := R3.free 1
  clear R3
  have hbf : Below w.heap.size w w1 := by (repeat first | exact zR | assumption | apply zA | apply zS | apply zD | apply zN | refine zT (by assumption) ?_ | omega | simp <;> omega)
  go_wp2
  refine bodyPost_ret (v := .tuple #[.agg #[.slice none 0 0, .slice none 0 0], .bool false]) (by simp [results, Tryz.results49, go_sem, c0, c1']) rfl ?_
  exact ⟨rfl, by (repeat first | exact zR | assumption | apply zA | apply zS | apply zD | apply zN | refine zT (by assumption) ?_ | omega | simp <;> omega)⟩
 ·rw [hs] at HR
  rw [if_pos rfl]
  obtain ⟨_, g1, g2⟩ := segR_facts hs
  have G2 := hid g2
  clear hs g2
  go_enter Tryz.func49, Tryz.ntmps49
  go_wp2_with fail
  refine (HR.out _ (by (repeat first | exact zR | assumption | apply zA | apply zS | apply zD | apply zN | refine zT (by assumption) ?_ | omega | simp <;> omega))).mono ?_
  rintro e' w1 ⟨rfl, hb1⟩
  have hz : w.heap.size + 1 < w1.heap.size := by have := hb1.size; simp at this; omega
  have hz0 : w.heap.size < w1.heap.size := by omega
  have q1 : w1.cell? ⟨w.heap.size, 1, none⟩ = some (.slice a l.length c) := (Later.mk w1 hb1).cell (by go_simp)
  have r0 : Blk w1 (w.heap.size + 1) 75 #[.slice none 0 0, .slice none 0 0] := Blk.later (by (repeat first | assumption | exact kW (by first | (simp; done) | (simp; omega)) | apply kA | apply kD | apply kN | apply kF | simp <;> omega)) hb1
  have RB := hid r0; clear r0
  have hbw : Below w.heap.size w w1 := by (repeat first | exact zR | assumption | apply zA | apply zS | apply zD | apply zN | refine zT (by assumption) ?_ | omega | simp <;> omega)
  go_wp2_with fail
  go_loopw [17] (fun i wr => ∃ k : Nat, k ≤ l.length ∧ i = .int .i64 k ∧ Hid (findS l pos = findS (l.drop k) pos) ∧ Below w1.heap.size w1 wr) (fun i _ => l.length - (intOf i).toNat)
  case atStart => exact ⟨0, Nat.zero_le _, rfl, hid rfl, Below.refl _ _⟩
  case round =>
   obtain ⟨k, hk, rfl, hf, hb⟩ := hrel
   have hb3 := below_then hb hbw
   have hz3 : w.heap.size + 1 < wr.heap.size := by have := hb.size; omega
   have hz4 : w.heap.size < wr.heap.size := by omega
   have RW := hid (RB.out.later hb)
   by_cases hlt : k < l.length
   ·obtain ⟨b, o, hA, hbb, a1, c1, X0, X1, X2, b0, b1, hd⟩ := batch_at (lift HL.out hb3) hlt
    subst hA
    have hst := hid (findS_step l pos k hlt)
    have hmem : l[k] ∈ l := List.getElem_mem hlt
    obtain ⟨_, _, _, _, f5, _⟩ := batchR_facts (G2.out _ hmem)
    have HMk := hid (HM.out _ hmem)
    have HD := hid hd; clear hd hmem
    generalize l[k] = z at *
    go_wp2_with fail
    refine (peek_at z pos _ _ _ _ b1.1 f5 hp (lift HD.out (by (repeat first | exact zR | assumption | apply zA | apply zS | apply zD | apply zN | refine zT (by assumption) ?_ | omega | simp <;> omega))) HMk.out).mono ?_
    rintro r w4 hr
    cases hfb : findB z pos with
    | none =>
     rw [hfb] at hr
     obtain ⟨rfl, hb4⟩ := hr
     have hff : Hid (findS l pos = findS (l.drop (k + 1)) pos) := hid (by rw [hf.out, hst.out, hfb]; rfl)
     clear hfb
     have hb5 : Below w1.heap.size w1 w4 := below_then (show Below wr.heap.size wr w4 by (repeat first | exact zR | assumption | apply zA | apply zS | apply zD | apply zN | refine zT (by assumption) ?_ | omega | simp <;> omega)) hb
     go_wp2
     go_roundw
     case rel => exact ⟨k + 1, by omega, by go_num, hff, by first | exact hb5 | exact below_alloc hb5 _⟩
     case measure => simp [intOf]; omega
    | some en =>
     rw [hfb] at hr
     obtain ⟨v1, v2, rfl, hr1, hr2, hb4⟩ := hr
     have hff : Hid (findS l pos = some en) := hid (by rw [hf.out, hst.out, hfb]; rfl)
     clear hfb
     obtain ⟨a3, c3, hv3, _, _⟩ := sl_form hr1
     simp only [List.cons.injEq, and_true] at hv3
     subst hv3
     obtain ⟨a4, c4, hv4, _, _⟩ := sl_form hr2
     simp only [List.cons.injEq, and_true] at hv4
     subst hv4
     have HR1 := hid hr1; have HR2 := hid hr2; clear hr1 hr2
     have hb5 : Below wr.heap.size wr w4 := by (repeat first | exact zR | assumption | apply zA | apply zS | apply zD | apply zN | refine zT (by assumption) ?_ | omega | simp <;> omega)
     have R3 := RW.out.later hb5
     have c0 : w4.cell? ⟨w.heap.size + 1, 0, none⟩ = some (.slice none 0 0) := R3.cell 0
     have c1' : w4.cell? ⟨w.heap.size + 1, 1, none⟩ = some (.slice none 0 0) := R3.cell 1
     have f0 := R3.free 0
     have f1 := R3.free 1
     clear R3
     have hs4 := hb5.size
     have hzz : w.heap.size + 1 < w4.heap.size := by omega
     have hbf : Below w.heap.size w w4 := below_then hb5 hb3
     go_wp2
     refine bodyPost_ret (v := .tuple #[.agg #[.slice a3 en.links.length c3, .slice a4 en.data.length c4], .bool true]) (by simp [results, Tryz.results49, go_sem, c0, c1', World.cell?_alloc_some, World.cell?_setCell_far, hzz]) rfl ?_
     rw [hff.out]
     refine ⟨_, _, rfl, ?_, ?_, by (repeat first | exact zR | assumption | apply zA | apply zS | apply zD | apply zN | refine zT (by assumption) ?_ | omega | simp <;> omega)⟩
     ·refine rLinks.mono (rLinks.keep HR1.out fun b hb => ?_) fun b hb => ?_
      ·have hb' := hb.1
       have hb'' := hb.2
       simp at hb'
       repeat (first | rw [Below.heap_setCell _ _ _ _ (by dsimp only; omega)] | rw [Below.heap_alloc _ _ _ (by simp; omega)])
      ·have hb' := hb.1
       have hb'' := hb.2
       simp at hb'
       exact ⟨by omega, by simp; omega⟩
     ·refine rBytes.mono (rBytes.keep HR2.out fun b hb => ?_) fun b hb => ?_
      ·have hb' := hb.1
       have hb'' := hb.2
       simp at hb'
       repeat (first | rw [Below.heap_setCell _ _ _ _ (by dsimp only; omega)] | rw [Below.heap_alloc _ _ _ (by simp; omega)])
      ·have hb' := hb.1
       have hb'' := hb.2
       simp at hb'
       exact ⟨by omega, by simp; omega⟩
   ·obtain rfl : k = l.length := by omega
    have hff : Hid (findS l pos = none) := hid (by rw [hf.out, List.drop_length]; rfl)
    have R3 := RW.out
    have c0 : wr.cell? ⟨w.heap.size + 1, 0, none⟩ = some (.slice none 0 0) := R3.cell 0
    have c1' : wr.cell? ⟨w.heap.size + 1, 1, none⟩ = some (.slice none 0 0) := R3.cell 1
    have f0 := R3.free 0
    have f1 := R3.free 1
    clear R3
    go_wp2
    refine bodyPost_ret (v := .tuple #[.agg #[.slice none 0 0, .slice none 0 0], .bool false]) (by simp [results, Tryz.results49, go_sem, c0, c1']) rfl ?_
    rw [hff.out]
    exact ⟨rfl, by (repeat first | exact zR | assumption | apply zA | apply zS | apply zD | apply zN | refine zT (by assumption) ?_ | omega | simp <;> omega)⟩
end Go.Proofs.YtkipiefcnjfdjaaGreat
namespace Fl
set_option linter.unusedVariables false
open Go Ieee
theorem log2_eq {n L : Nat} (h1 : 2 ^ L ≤ n) (h2 : n < 2 ^ (L + 1)) : n.log2 = L := by
 have h0 : n ≠ 0 := by have := Nat.two_pow_pos L; omega
 have a := (Nat.le_log2 h0).2 h1
 have b := (Nat.log2_lt h0).2 h2
 omega
theorem log2_mul_pow {n : Nat} (k : Nat) (hn : n ≠ 0) : (n * 2 ^ k).log2 = n.log2 + k := by
 have a := Nat.log2_self_le hn
 have b := @Nat.lt_log2_self n
 refine log2_eq ?_ ?_
 ·rw [Nat.pow_add]; exact Nat.mul_le_mul_right _ a
 ·have e : 2 ^ (n.log2 + k + 1) = 2 ^ (n.log2 + 1) * 2 ^ k := by rw [← Nat.pow_add]; congr 1; omega
  rw [e]; exact Nat.mul_lt_mul_of_pos_right b (Nat.two_pow_pos k)
theorem cut_zero (neg : Bool) (n : Nat) : Toward.even.cut neg n 0 = n := by
 simp [Toward.cut, Nat.mod_one]
theorem cut_exact (neg : Bool) (n k : Nat) (hn : n ≠ 0) : Toward.even.cut neg (n * 2 ^ k) k = n := by
 have hl := log2_mul_pow k hn
 have hm : min k ((n * 2 ^ k).log2 + 2) = k := by rw [hl]; omega
 have hd : n * 2 ^ k / 2 ^ k = n := Nat.mul_div_cancel _ (Nat.two_pow_pos k)
 have hp := Nat.two_pow_pos k
 simp [Toward.cut, hm, Nat.one_shiftLeft, hd]
theorem cut_le (neg : Bool) (n k : Nat) : Toward.even.cut neg n k ≤ n / 2 ^ (min k (n.log2 + 2)) + 1 := by
 simp only [Toward.cut, Nat.one_shiftLeft]
 have : ∀ b : Bool, b.toNat ≤ 1 := by decide
 exact Nat.add_le_add_left (this _) _
theorem le_cut (neg : Bool) (n k : Nat) : n / 2 ^ (min k (n.log2 + 2)) ≤ Toward.even.cut neg n k := by
 simp only [Toward.cut, Nat.one_shiftLeft]
 exact Nat.le_add_right _ _
abbrev D : Format := double
theorem binade_eq : D.binade = 4503599627370496 := by decide +kernel
theorem infRung_eq : D.infRung = 9218868437227405312 := by decide +kernel
theorem sign_eq : D.signWeight = 9223372036854775808 := by decide +kernel
theorem least_eq : D.leastPlace = -1074 := by decide +kernel
theorem frac_eq : D.fractionBits = 52 := rfl
def rungOf (m : Nat) : Nat := (m.log2 + 1022) * 4503599627370496 + m * 2 ^ (52 - m.log2)
theorem nearest_small (neg : Bool) (m k : Nat) (h0 : m ≠ 0) (hm : m < 2 ^ 53) (hk : k ≤ 1074) :
  D.nearest neg (m * 2 ^ k) (-(k : Int)) = D.word neg (rungOf m) := by
 unfold rungOf
 have hL : m.log2 < 53 := (Nat.log2_lt h0).2 hm
 have hmk : m * 2 ^ k ≠ 0 := by have := Nat.mul_pos (Nat.pos_of_ne_zero h0) (Nat.two_pow_pos k); omega
 have hl := log2_mul_pow k h0
 have hlast : max (-(k : Int) + ((m * 2 ^ k).log2 : Nat) - (D.fractionBits : Nat)) D.leastPlace = (m.log2 : Int) - 52 := by
  rw [hl, least_eq, frac_eq]; omega
 have hkept : Toward.even.cut neg ((m * 2 ^ k) <<< (-(k : Int) - ((m.log2 : Int) - 52)).toNat) ((m.log2 : Int) - 52 - (-(k : Int))).toNat = m * 2 ^ (52 - m.log2) := by
  rcases Nat.lt_or_ge (52 - m.log2) k with h | h
  ·have e1 : (-(k : Int) - ((m.log2 : Int) - 52)).toNat = 0 := by omega
   have e2 : ((m.log2 : Int) - 52 - (-(k : Int))).toNat = k - (52 - m.log2) := by omega
   rw [e1, e2]
   have e3 : m * 2 ^ k = (m * 2 ^ (52 - m.log2)) * 2 ^ (k - (52 - m.log2)) := by
    rw [Nat.mul_assoc, ← Nat.pow_add]; congr 2; omega
   rw [Nat.shiftLeft_zero, e3]
   exact cut_exact _ _ _ (by have := Nat.mul_pos (Nat.pos_of_ne_zero h0) (Nat.two_pow_pos (52 - m.log2)); omega)
  ·have e1 : (-(k : Int) - ((m.log2 : Int) - 52)).toNat = 52 - m.log2 - k := by omega
   have e2 : ((m.log2 : Int) - 52 - (-(k : Int))).toNat = 0 := by omega
   rw [e1, e2, cut_zero, Nat.shiftLeft_eq, Nat.mul_assoc, ← Nat.pow_add]
   congr 2; omega
 unfold Format.nearest
 rw [if_neg hmk]
 simp only [hlast, hkept]
 have hlo : m * 2 ^ (52 - m.log2) < 2 ^ 53 := by
  have b := @Nat.lt_log2_self m
  have : m * 2 ^ (52 - m.log2) < 2 ^ (m.log2 + 1) * 2 ^ (52 - m.log2) := Nat.mul_lt_mul_of_pos_right b (Nat.two_pow_pos _)
  rw [← Nat.pow_add] at this
  have e : m.log2 + 1 + (52 - m.log2) = 53 := by omega
  rwa [e] at this
 have e4 : ((m.log2 : Int) - 52 - D.leastPlace).toNat = m.log2 + 1022 := by rw [least_eq]; omega
 rw [e4, infRung_eq, binade_eq]
 congr 1
 have : (2:Nat) ^ 53 = 9007199254740992 := by decide
 rw [this] at hlo
 rw [Nat.min_eq_left]
 omega
theorem kept_bounds (m : Nat) (h0 : m ≠ 0) (hm : m < 2 ^ 53) : 4503599627370496 ≤ m * 2 ^ (52 - m.log2) ∧ m * 2 ^ (52 - m.log2) < 9007199254740992 := by
 have hL : m.log2 < 53 := (Nat.log2_lt h0).2 hm
 have a := Nat.log2_self_le h0
 have b := @Nat.lt_log2_self m
 have e : m.log2 + 1 + (52 - m.log2) = 53 := by omega
 have e' : m.log2 + (52 - m.log2) = 52 := by omega
 constructor
 ·have : 2 ^ m.log2 * 2 ^ (52 - m.log2) ≤ m * 2 ^ (52 - m.log2) := Nat.mul_le_mul_right _ a
  rw [← Nat.pow_add, e'] at this
  simpa using this
 ·have : m * 2 ^ (52 - m.log2) < 2 ^ (m.log2 + 1) * 2 ^ (52 - m.log2) := Nat.mul_lt_mul_of_pos_right b (Nat.two_pow_pos _)
  rw [← Nat.pow_add, e] at this
  simpa using this
theorem read_word (neg : Bool) (E r : Nat) (hr : r < 4503599627370496) (hE : E < 2046) :
  D.read (D.word neg ((E + 1) * 4503599627370496 + r)) = .number neg (4503599627370496 + r) (-1074 + (E : Nat)) := by
 unfold Format.read Format.word
 rw [sign_eq, binade_eq, infRung_eq, least_eq]
 have e1 : ((E + 1) * 4503599627370496 + r) / 4503599627370496 = E + 1 := by omega
 have e2 : ((E + 1) * 4503599627370496 + r) % 4503599627370496 = r := by omega
 have e3 : ((E + 1) * 4503599627370496 + r) < 9218868437227405312 := by omega
 cases neg
 ·have e4 : ((E + 1) * 4503599627370496 + r) / 9223372036854775808 % 2 = 0 := by omega
  have e5 : ((E + 1) * 4503599627370496 + r) % 9223372036854775808 = (E + 1) * 4503599627370496 + r := by omega
  simp only [Bool.false_eq_true, if_false, e4, e5]
  rw [if_neg (by omega), if_pos e3, e1, e2]
  rfl
 ·have e4 : (9223372036854775808 + ((E + 1) * 4503599627370496 + r)) / 9223372036854775808 % 2 = 1 := by omega
  have e5 : (9223372036854775808 + ((E + 1) * 4503599627370496 + r)) % 9223372036854775808 = (E + 1) * 4503599627370496 + r := by omega
  simp only [if_true, e4, e5]
  rw [if_neg (by omega), if_pos e3, e1, e2]
  rfl
def fI (n : Int) : Nat := FloatKind.f64.nearest n
theorem fI_zero : fI 0 = 0 := by decide +kernel
theorem fI_word (n : Int) (h0 : n ≠ 0) (h : n.natAbs < 2 ^ 53) :
  fI n = D.word (n < 0) (rungOf n.natAbs) := by
 have := nearest_small (decide (n < 0)) n.natAbs 0 (by omega) h (by omega)
 have hz : -((0 : Nat) : Int) = 0 := rfl
 rw [Nat.pow_zero, Nat.mul_one, hz] at this
 have e : fI n = D.nearest (decide (n < 0)) n.natAbs 0 := rfl
 exact e.trans this
theorem read_fI (n : Int) (h0 : n ≠ 0) (h : n.natAbs < 2 ^ 53) :
  D.read (fI n) = .number (n < 0) (n.natAbs * 2 ^ (52 - n.natAbs.log2)) ((n.natAbs.log2 : Int) - 52) := by
 rw [fI_word n h0 h]
 unfold rungOf
 have hb := kept_bounds n.natAbs (by omega) h
 have hL : n.natAbs.log2 < 53 := (Nat.log2_lt (by omega)).2 h
 obtain ⟨r, hr⟩ : ∃ r, n.natAbs * 2 ^ (52 - n.natAbs.log2) = 4503599627370496 + r := ⟨n.natAbs * 2 ^ (52 - n.natAbs.log2) - 4503599627370496, by omega⟩
 rw [hr]
 have e : (n.natAbs.log2 + 1022) * 4503599627370496 + (4503599627370496 + r) = (n.natAbs.log2 + 1022 + 1) * 4503599627370496 + r := by omega
 have ep : (-1074 + ((n.natAbs.log2 + 1022 : Nat) : Int)) = (n.natAbs.log2 : Int) - 52 := by omega
 rw [e, read_word _ _ _ (by omega) (by omega), ep]
theorem read_zero : D.read 0 = .number false 0 (-1074) := by decide +kernel
theorem read_zero' (k : Nat) (hk : k = 1074) : D.read (fI 0) = .number (decide ((0 : Int) < 0)) (Int.natAbs 0 * 2 ^ k) (-(k : Int)) := by
 rw [fI_zero, read_zero, Int.natAbs_zero, Nat.zero_mul, hk]
 rfl
theorem read_int (n : Int) (h : n.natAbs < 2 ^ 53) : ∃ k : Nat, k ≤ 1074 ∧ D.read (fI n) = .number (n < 0) (n.natAbs * 2 ^ k) (-(k : Int)) := by
 by_cases h0 : n = 0
 ·subst h0
  obtain ⟨k, hk⟩ : ∃ k, k = 1074 := ⟨1074, rfl⟩
  exact ⟨k, by omega, read_zero' k hk⟩
 ·have hL : n.natAbs.log2 < 53 := (Nat.log2_lt (by omega)).2 h
  refine ⟨52 - n.natAbs.log2, by omega, ?_⟩
  rw [read_fI n h0 h]
  congr 1; omega
theorem signed_int (n : Int) (k u : Nat) : signed (n < 0) (n.natAbs * 2 ^ k) u = n * (2 ^ (k + u) : Nat) := by
 unfold signed
 rw [Nat.shiftLeft_eq, Nat.mul_assoc, ← Nat.pow_add]
 by_cases h : n < 0
 ·simp only [h, decide_true, if_true]
  rw [Int.natCast_mul, ← Int.neg_mul]; congr 1; omega
 ·simp only [h, decide_false, Bool.false_eq_true, if_false]
  rw [Int.natCast_mul]; congr 1; omega
theorem compare_mul (a b : Int) (p : Nat) (hp : 0 < p) : compare (a * p) (b * p) = compare a b := by
 have hp' : (0 : Int) < p := by omega
 simp only [compare, compareOfLessAndEq]
 have h1 : (a * p < b * p) = (a < b) := by simp [Int.mul_lt_mul_right hp']
 have h2 : (a * p = b * p) = (a = b) := by
  simp only [eq_iff_iff]
  constructor
  ·intro h; exact Int.eq_of_mul_eq_mul_right (by omega) h
  ·rintro rfl; rfl
 simp only [h1, h2]
theorem order_fI (a b : Int) (ha : a.natAbs < 2 ^ 53) (hb : b.natAbs < 2 ^ 53) : D.order (fI a) (fI b) = some (compare a b) := by
 obtain ⟨k, _, hk⟩ := read_int a ha
 obtain ⟨j, _, hj⟩ := read_int b hb
 unfold Format.order
 rw [hk, hj]
 simp only [Datum.order]
 rw [signed_int, signed_int]
 have e : (k + (-(k : Int) - min (-(k : Int)) (-(j : Int))).toNat) = j + (-(j : Int) - min (-(k : Int)) (-(j : Int))).toNat := by omega
 rw [e, compare_mul _ _ _ (Nat.two_pow_pos _)]
theorem nearest_int (t : Int) (k : Nat) (hk : k ≤ 1074) (h : t.natAbs < 2 ^ 53) (hz : t ≠ 0) : D.nearest (t < 0) (t.natAbs * 2 ^ k) (-(k : Int)) = fI t := by
 rw [fI_word t hz h, nearest_small _ _ _ (by omega) h hk]
theorem natAbs_mul_pow (t : Int) (p : Nat) : (t * (p : Nat)).natAbs = t.natAbs * p := by
 rw [Int.natAbs_mul]; rfl
theorem add_fI (a b : Int) (ha : a.natAbs < 2 ^ 53) (hb : b.natAbs < 2 ^ 53) (hab : (a + b).natAbs < 2 ^ 53) : D.add (fI a) (fI b) = some (fI (a + b)) := by
 obtain ⟨k, hk1, hk⟩ := read_int a ha
 obtain ⟨j, hj1, hj⟩ := read_int b hb
 unfold Format.add
 rw [hk, hj]
 simp only [Datum.sum, Option.map_some]
 rw [signed_int, signed_int]
 obtain ⟨u, hu1, hu⟩ : ∃ u : Nat, u ≤ 1074 ∧ min (-(k : Int)) (-(j : Int)) = -(u : Int) := ⟨max k j, by omega, by omega⟩
 have e1 : (k + (-(k : Int) - min (-(k : Int)) (-(j : Int))).toNat) = u := by omega
 have e2 : j + (-(j : Int) - min (-(k : Int)) (-(j : Int))).toNat = u := by omega
 rw [e1, e2, hu, ← Int.add_mul]
 have hp := Nat.two_pow_pos u
 congr 1
 by_cases hz : a + b = 0
 ·rw [hz]
  simp only [Int.zero_mul, if_true, Int.natAbs_zero]
  have hs : (decide (a < 0) && decide (b < 0)) = false := by
   by_cases h : a < 0 <;> simp [h]; omega
  rw [hs]
  show D.nearest false 0 _ = fI 0
  rw [fI_zero]
  simp [Format.nearest, Format.word]
 ·have hz' : ¬ ((a + b) * ((2 ^ u : Nat) : Int) = 0) := by
   intro h
   rcases Int.mul_eq_zero.1 h with h | h <;> omega
  rw [if_neg hz', natAbs_mul_pow]
  have hs : ((a + b) * ((2 ^ u : Nat) : Int) < 0) = (a + b < 0) := by
   have hp' : (0 : Int) < ((2 ^ u : Nat) : Int) := by omega
   have := Int.mul_lt_mul_right (b := a + b) (c := 0) hp'
   simpa using this
  simp only [hs]
  exact nearest_int _ _ hu1 hab hz
theorem cut_zero_way (neg : Bool) (n k : Nat) : Toward.zero.cut neg (n * 2 ^ k) k = n := by
 by_cases hn : n = 0
 ·subst hn; simp [Toward.cut]
 ·have hl := log2_mul_pow k hn
  have hm : min k ((n * 2 ^ k).log2 + 2) = k := by rw [hl]; omega
  have hd : n * 2 ^ k / 2 ^ k = n := Nat.mul_div_cancel _ (Nat.two_pow_pos k)
  simp [Toward.cut, hm, Nat.one_shiftLeft, hd]
theorem toInt_fI (n : Int) (h : n.natAbs < 2 ^ 53) : (D.read (fI n)).toInt .zero = some n := by
 obtain ⟨k, hk1, hk⟩ := read_int n h
 rw [hk]
 simp only [Datum.toInt, Datum.integral]
 have e1 : (-(k : Int)).toNat = 0 := by omega
 have e2 : (-(-(k : Int))).toNat = k := by omega
 rw [e1, e2, Nat.shiftLeft_zero, cut_zero_way]
 have := signed_int n 0 0
 simp only [Nat.pow_zero, Nat.mul_one, Nat.add_zero] at this
 rw [this]
 congr 1
 omega
theorem toIntVal_fI (n : Int) (h : n.natAbs < 2 ^ 53) : floatToIntVal .f64 (fI n) .i64 = some n := by
 unfold floatToIntVal
 have e : (FloatKind.f64.decode (fI n)).toInt .zero = some n := toInt_fI n h
 rw [e]
 have h1 : IntKind.i64.min = -9223372036854775808 := by decide
 have h2 : IntKind.i64.max = 9223372036854775807 := by decide
 have h3 : (2 : Nat) ^ 53 = 9007199254740992 := by decide
 simp only [h1, h2]
 rw [if_pos]
 omega
theorem read_kept (L kept : Nat) (h1 : 53 ≤ L) (h2 : L < 107) (h3 : 4503599627370496 ≤ kept) (h4 : kept ≤ 9007199254740992) :
  ∃ j r : Nat, 4503599627370496 ≤ r ∧ 1 ≤ j ∧ D.read (D.word false ((L + 1022) * 4503599627370496 + kept)) = .number false r (j : Int) := by
 by_cases hk : kept < 9007199254740992
 ·obtain ⟨r, hr⟩ : ∃ r, kept = 4503599627370496 + r := ⟨kept - 4503599627370496, by omega⟩
  have e : (L + 1022) * 4503599627370496 + kept = (L + 1022 + 1) * 4503599627370496 + r := by omega
  have ep : (-1074 + ((L + 1022 : Nat) : Int)) = ((L - 52 : Nat) : Int) := by omega
  rw [e, read_word _ _ _ (by omega) (by omega), ep]
  exact ⟨L - 52, 4503599627370496 + r, by omega, by omega, rfl⟩
 ·have e : (L + 1022) * 4503599627370496 + kept = (L + 1023 + 1) * 4503599627370496 + 0 := by omega
  have ep : (-1074 + ((L + 1023 : Nat) : Int)) = ((L - 51 : Nat) : Int) := by omega
  rw [e, read_word _ _ _ (by omega) (by omega), ep]
  exact ⟨L - 51, 4503599627370496 + 0, by omega, by omega, rfl⟩
theorem min_rung (L kept : Nat) (h2 : L < 107) (h4 : kept ≤ 9007199254740992) :
  min ((L + 1022) * 4503599627370496 + kept) 9218868437227405312 = (L + 1022) * 4503599627370496 + kept :=
 Nat.min_eq_left (by omega)
theorem nearest_big (m k : Nat) (h1 : 2 ^ 53 ≤ m) (hL2 : m.log2 < 107) : ∃ j r : Nat, 4503599627370496 ≤ r ∧ 1 ≤ j ∧
  D.read (D.nearest false (m * 2 ^ k) (-(k : Int))) = .number false r (j : Int) := by
 have h0 : m ≠ 0 := by have := Nat.two_pow_pos 53; omega
 have hL : 53 ≤ m.log2 := (Nat.le_log2 h0).2 h1
 have hmk : m * 2 ^ k ≠ 0 := by have := Nat.mul_pos (Nat.pos_of_ne_zero h0) (Nat.two_pow_pos k); omega
 have hl := log2_mul_pow k h0
 have hlast : max (-(k : Int) + ((m * 2 ^ k).log2 : Nat) - (D.fractionBits : Nat)) D.leastPlace = (m.log2 : Int) - 52 := by
  rw [hl, least_eq, frac_eq]; omega
 have e1 : (-(k : Int) - ((m.log2 : Int) - 52)).toNat = 0 := by omega
 have e2 : ((m.log2 : Int) - 52 - (-(k : Int))).toNat = m.log2 - 52 + k := by omega
 have e4 : ((m.log2 : Int) - 52 - D.leastPlace).toNat = m.log2 + 1022 := by rw [least_eq]; omega
 have hmin : min (m.log2 - 52 + k) ((m * 2 ^ k).log2 + 2) = m.log2 - 52 + k := by rw [hl]; omega
 have c1 := cut_le false (m * 2 ^ k) (m.log2 - 52 + k)
 have c2 := le_cut false (m * 2 ^ k) (m.log2 - 52 + k)
 rw [hmin] at c1 c2
 have hdiv : m * 2 ^ k / 2 ^ (m.log2 - 52 + k) = m / 2 ^ (m.log2 - 52) := by
  rw [Nat.pow_add]; exact Nat.mul_div_mul_right _ _ (Nat.two_pow_pos k)
 rw [hdiv] at c1 c2
 have a := Nat.log2_self_le h0
 have b := @Nat.lt_log2_self m
 have d1 : 4503599627370496 ≤ m / 2 ^ (m.log2 - 52) := by
  rw [Nat.le_div_iff_mul_le (Nat.two_pow_pos _)]
  have : (4503599627370496 : Nat) = 2 ^ 52 := by decide
  rw [this, ← Nat.pow_add]
  have : 52 + (m.log2 - 52) = m.log2 := by omega
  rw [this]; exact a
 have d2 : m / 2 ^ (m.log2 - 52) < 9007199254740992 := by
  rw [Nat.div_lt_iff_lt_mul (Nat.two_pow_pos _)]
  have : (9007199254740992 : Nat) = 2 ^ 53 := by decide
  rw [this, ← Nat.pow_add]
  have : 53 + (m.log2 - 52) = m.log2 + 1 := by omega
  rw [this]; exact b
 unfold Format.nearest
 rw [if_neg hmk]
 simp only [hlast, e1, e2, e4, Nat.shiftLeft_zero]
 generalize Toward.even.cut false (m * 2 ^ k) (m.log2 - 52 + k) = kept at *
 rw [infRung_eq, binade_eq]
 have k1 : 4503599627370496 ≤ kept := Nat.le_trans d1 c2
 have k2 : kept ≤ 9007199254740992 := Nat.le_trans c1 (Nat.succ_le_of_lt d2)
 rw [min_rung _ _ hL2 k2]
 exact read_kept _ _ hL hL2 k1 k2
theorem read_int_pos (n : Nat) (h0 : n ≠ 0) (h : n < 2 ^ 53) : ∃ k : Nat, k ≤ 52 ∧ D.read (fI n) = .number false (n * 2 ^ k) (-(k : Int)) := by
 have hL : n.log2 < 53 := (Nat.log2_lt h0).2 h
 refine ⟨52 - n.log2, by omega, ?_⟩
 have := read_fI n (by omega) (by simpa using h)
 rw [this]
 have e : (-((52 - n.log2 : Nat) : Int)) = (n.log2 : Int) - 52 := by omega
 rw [Int.natAbs_natCast, e]
 have : decide ((n : Int) < 0) = false := by simp
 rw [this]
theorem mul_val (a b : Nat) (a0 : a ≠ 0) (b0 : b ≠ 0) (ha : a < 2 ^ 53) (hb : b < 2 ^ 53) : ∃ k : Nat, k ≤ 104 ∧
  D.mul (fI a) (fI b) = some (D.nearest false (a * b * 2 ^ k) (-(k : Int))) := by
 obtain ⟨k, hk1, hk⟩ := read_int_pos a a0 ha
 obtain ⟨j, hj1, hj⟩ := read_int_pos b b0 hb
 refine ⟨k + j, by omega, ?_⟩
 unfold Format.mul
 rw [hk, hj]
 simp only [Datum.product, Option.map_some]
 have e : a * 2 ^ k * (b * 2 ^ j) = a * b * 2 ^ (k + j) := by
  rw [Nat.pow_add, Nat.mul_assoc, Nat.mul_assoc, Nat.mul_left_comm (2 ^ k)]
 have e' : (-(k : Int) + -(j : Int)) = -((k + j : Nat) : Int) := by omega
 rw [e, e']
 rfl
theorem mul_big (a b : Nat) (ha : a < 2 ^ 53) (hb : b < 2 ^ 53) (hab : 2 ^ 53 ≤ a * b) : ∃ r, D.mul (fI a) (fI b) = some r ∧ ∀ c : Nat, c < 2 ^ 53 → D.order r (fI c) = some .gt := by
 have a0 : a ≠ 0 := by rintro rfl; have := Nat.two_pow_pos 53; omega
 have b0 : b ≠ 0 := by rintro rfl; have := Nat.two_pow_pos 53; omega
 obtain ⟨k, hk, h⟩ := mul_val a b a0 b0 ha hb
 refine ⟨_, h, fun c hc => ?_⟩
 have hlt : (a * b).log2 < 107 := by
  have h1 : a * b < 2 ^ 53 * 2 ^ 53 := Nat.mul_lt_mul'' ha hb
  rw [← Nat.pow_add] at h1
  have h2 : a * b ≠ 0 := Nat.mul_ne_zero a0 b0
  have := (Nat.log2_lt h2).2 h1
  omega
 obtain ⟨j, r, hr, hj, hread⟩ := nearest_big (a * b) k hab hlt
 obtain ⟨i, hi1, hi⟩ := read_int c (by simpa using hc)
 unfold Format.order
 rw [hread, hi]
 simp only [Datum.order]
 rw [signed_int]
 have e1 : min (j : Int) (-(i : Int)) = -(i : Int) := by omega
 have e2 : ((j : Int) - -(i : Int)).toNat = j + i := by omega
 have e3 : (-(i : Int) - -(i : Int)).toNat = 0 := by omega
 rw [e1, e2, e3]
 unfold signed
 rw [Nat.shiftLeft_eq, Nat.add_zero, Nat.pow_add]
 have h53 : (2 : Nat) ^ 53 = 9007199254740992 := by decide
 have hp := Nat.two_pow_pos i
 have hj2 : 2 ≤ 2 ^ j := by
  have : 2 ^ 1 ≤ 2 ^ j := Nat.pow_le_pow_right (by omega) hj
  simpa using this
 have hlt2 : c * 2 ^ i < r * (2 ^ j * 2 ^ i) := by
  rw [← Nat.mul_assoc]
  refine Nat.mul_lt_mul_of_pos_right ?_ hp
  have : r * 2 ≤ r * 2 ^ j := Nat.mul_le_mul_left _ hj2
  omega
 have hlt3 : ((c : Nat) : Int) * ((2 ^ i : Nat) : Int) < ((r * (2 ^ j * 2 ^ i) : Nat) : Int) := by
  rw [← Int.natCast_mul]; omega
 simp only [Bool.false_eq_true, if_false]
 generalize ((r * (2 ^ j * 2 ^ i) : Nat) : Int) = X at *
 generalize ((c : Nat) : Int) * ((2 ^ i : Nat) : Int) = Y at *
 congr 1
 simp only [compare, compareOfLessAndEq]
 rw [if_neg (by omega), if_neg (by omega)]
#print axioms mul_big
#print axioms toIntVal_fI
end Fl
namespace Go.Proofs.YtkipiefcnjfdjaaGreat
open Go.RowKit Fl Go.Bs
set_option linter.unusedVariables false
set_option linter.unusedSimpArgs false
theorem unary_neg_float (k : FloatKind) (b : Nat) : Op.unary .neg (.float k b) = pure (.float k (Op.negFloat k b)) := rfl
theorem floatOfInt_fI (n : Int) : floatOfInt .f64 n = fI n := rfl
attribute [local go_sem] unary_neg_float floatOfInt_fI
theorem ord_gt (a b : Int) (ha : a.natAbs < 2 ^ 53) (hb : b.natAbs < 2 ^ 53) (h : b < a) : FloatKind.f64.format.order (fI a) (fI b) = some .gt := by
 have := order_fI a b ha hb
 rw [show compare a b = Ordering.gt from by simp only [compare, compareOfLessAndEq]; rw [if_neg (by omega), if_neg (by omega)]] at this
 exact this
theorem ord_lt (a b : Int) (ha : a.natAbs < 2 ^ 53) (hb : b.natAbs < 2 ^ 53) (h : a < b) : FloatKind.f64.format.order (fI a) (fI b) = some .lt := by
 have := order_fI a b ha hb
 rw [show compare a b = Ordering.lt from by simp only [compare, compareOfLessAndEq]; rw [if_pos (by omega)]] at this
 exact this
theorem ord_eq (a : Int) (ha : a.natAbs < 2 ^ 53) : FloatKind.f64.format.order (fI a) (fI a) = some .eq := by
 have := order_fI a a ha ha
 rw [show compare a a = Ordering.eq from by simp only [compare, compareOfLessAndEq]; simp] at this
 exact this
theorem most_fI : fI 1125899906842624 = 4832362400168542208 := by decide +kernel
theorem p53 : (2 : Nat) ^ 53 = 9007199254740992 := by decide
theorem int_of (P : Program) (t u : TypeId) (hs : (P.underlying t).isSome = true) (hd : P.underlying u = some (.int .i64)) (a : Int) (ha : a.natAbs < 2 ^ 53) (w : World) : (convert t u (.float .f64 (fI a))).run P w = .ok (.int .i64 a) w :=
 run_convert_float_int w t u .f64 .i64 _ a hs hd (toIntVal_fI a ha)
theorem int_of' (a : Int) (ha : a.natAbs < 2 ^ 53) (w : World) : (convert 150 3 (.float .f64 (fI a))).run Tryz.prog w = .ok (.int .i64 a) w :=
 int_of Tryz.prog _ _ (by rw [Tryz.underlying150]; rfl) Tryz.underlying3 a ha w
set_option maxHeartbeats 400000 in
theorem count_yes (a : Int) (h0 : 0 ≤ a) (h1 : a ≤ 1125899906842624) (w : World) :
  Calls Tryz.prog 172 #[.float .f64 (fI a)] w fun e w' => e = .returned (.bool true) ∧ w = w' := by
 have hb : a.natAbs < 2 ^ 53 := by rw [p53]; omega
 have h2 := fun w => int_of' a hb w
 have h3 : (FloatKind.f64.format.order (fI a) (fI a) == some Ordering.eq) = true := by rw [ord_eq a hb]; rfl
 have h4 : (FloatKind.f64.format.order (fI a) 0 == some Ordering.gt || FloatKind.f64.format.order (fI a) 0 == some Ordering.eq) = true := by
  rw [← fI_zero]
  rcases Int.lt_or_eq_of_le h0 with h | h
  ·rw [ord_gt a 0 hb (by decide) h]; rfl
  ·subst h; rw [ord_eq 0 (by decide)]; rfl
 have h5 : (FloatKind.f64.format.order (fI a) 4832362400168542208 == some Ordering.lt || FloatKind.f64.format.order (fI a) 4832362400168542208 == some Ordering.eq) = true := by
  rw [← most_fI]
  rcases Int.lt_or_eq_of_le h1 with h | h
  ·rw [ord_lt a _ hb (by decide) h]; rfl
  ·subst h; rw [ord_eq _ (by decide)]; rfl
 go_enter Tryz.func172, Tryz.ntmps172
 go_wp2
 go_ret
 exact ⟨rfl, rfl⟩
set_option maxHeartbeats 400000 in
theorem count_lt (a : Nat) (h : FloatKind.f64.format.order a 0 = some .lt) (w : World) :
  Calls Tryz.prog 172 #[.float .f64 a] w fun e w' => e = .returned (.bool false) ∧ w = w' := by
 have h4 : (FloatKind.f64.format.order a 0 == some Ordering.gt || FloatKind.f64.format.order a 0 == some Ordering.eq) = false := by rw [h]; rfl
 clear h
 go_enter Tryz.func172, Tryz.ntmps172
 go_wp2
 go_ret
 exact ⟨rfl, rfl⟩
set_option maxHeartbeats 400000 in
theorem count_gt (a : Nat) (h0 : FloatKind.f64.format.order a 0 = some .gt) (h : FloatKind.f64.format.order a 4832362400168542208 = some .gt) (w : World) :
  Calls Tryz.prog 172 #[.float .f64 a] w fun e w' => e = .returned (.bool false) ∧ w = w' := by
 have h4 : (FloatKind.f64.format.order a 0 == some Ordering.gt || FloatKind.f64.format.order a 0 == some Ordering.eq) = true := by rw [h0]; rfl
 have h5 : (FloatKind.f64.format.order a 4832362400168542208 == some Ordering.lt || FloatKind.f64.format.order a 4832362400168542208 == some Ordering.eq) = false := by rw [h]; rfl
 clear h h0
 go_enter Tryz.func172, Tryz.ntmps172
 go_wp2
 go_ret
 exact ⟨rfl, rfl⟩
def cnt (a : Int) : Bool := decide (0 ≤ a ∧ a ≤ 1125899906842624)
theorem count_any (a : Int) (hb : a.natAbs < 2 ^ 53) (w : World) :
  Calls Tryz.prog 172 #[.float .f64 (fI a)] w fun e w' => e = .returned (.bool (cnt a)) ∧ w = w' := by
 by_cases h0 : 0 ≤ a
 ·by_cases h1 : a ≤ 1125899906842624
  ·have : cnt a = true := by simp [cnt, h0, h1]
   rw [this]; exact count_yes a h0 h1 w
  ·have : cnt a = false := by simp [cnt, h1]
   rw [this]; exact count_gt _ (by rw [← fI_zero]; exact ord_gt a 0 hb (by decide) (by omega)) (by rw [← most_fI]; exact ord_gt a _ hb (by decide) (by omega)) w
 ·have : cnt a = false := by simp [cnt, h0]
  rw [this]; exact count_lt _ (by rw [← fI_zero]; exact ord_lt a 0 hb (by decide) (by omega)) w
def rt (a b : Int) : Bool := decide (0 ≤ a ∧ a ≤ 1125899906842624 ∧ 0 ≤ b ∧ b ≤ 1125899906842624 ∧ (0 < a ∨ b = 0))
set_option maxHeartbeats 400000 in
theorem right_no1 (a b : Nat) (h : ∀ w, Calls Tryz.prog 172 #[.float .f64 a] w fun e w' => e = .returned (.bool false) ∧ w = w') (w : World) :
  Calls Tryz.prog 111 #[.complex .f64 a b] w fun e w' => e = .returned (.bool false) ∧ w = w' := by
 have H := hid h; clear h
 go_enter Tryz.func111, Tryz.ntmps111
 go_wp2_with (go_at_call 172; refine (H.out _).mono ?_; rintro e w' ⟨rfl, rfl⟩)
 go_ret
 exact ⟨rfl, rfl⟩
set_option maxHeartbeats 400000 in
theorem right_no2 (a b : Nat) (h1 : ∀ w, Calls Tryz.prog 172 #[.float .f64 a] w fun e w' => e = .returned (.bool true) ∧ w = w')
  (h : ∀ w, Calls Tryz.prog 172 #[.float .f64 b] w fun e w' => e = .returned (.bool false) ∧ w = w') (w : World) :
  Calls Tryz.prog 111 #[.complex .f64 a b] w fun e w' => e = .returned (.bool false) ∧ w = w' := by
 have H := hid h; clear h
 have H1 := hid h1; clear h1
 go_enter Tryz.func111, Tryz.ntmps111
 go_wp2_with fail
 refine (H1.out _).mono ?_; rintro e w' ⟨rfl, rfl⟩
 go_wp2_with fail
 refine (H.out _).mono ?_; rintro e w' ⟨rfl, rfl⟩
 go_wp2
 go_ret
 exact ⟨rfl, rfl⟩
set_option maxHeartbeats 400000 in
theorem right_any (a b : Int) (ha : a.natAbs < 2 ^ 53) (hb : b.natAbs < 2 ^ 53) (w : World) :
  Calls Tryz.prog 111 #[.complex .f64 (fI a) (fI b)] w fun e w' => e = .returned (.bool (rt a b)) ∧ w = w' := by
 by_cases c1 : cnt a = true
 ·by_cases c2 : cnt b = true
  ·have d1 : 0 ≤ a ∧ a ≤ 1125899906842624 := by simpa [cnt] using c1
   have d2 : 0 ≤ b ∧ b ≤ 1125899906842624 := by simpa [cnt] using c2
   by_cases h : 0 < a
   ·have hr : rt a b = true := by simp [rt, d1, d2, h]
    rw [hr]
    have h3 : (FloatKind.f64.format.order (fI a) 0 == some Ordering.gt) = true := by rw [← fI_zero, ord_gt a 0 ha (by decide) h]; rfl
    clear hr c1 c2
    go_enter Tryz.func111, Tryz.ntmps111
    go_wp2_with fail
    refine (count_yes a d1.1 d1.2 _).mono ?_; rintro e w' ⟨rfl, rfl⟩
    go_wp2_with fail
    refine (count_yes b d2.1 d2.2 _).mono ?_; rintro e w' ⟨rfl, rfl⟩
    go_wp2
    go_ret
    exact ⟨rfl, rfl⟩
   ·obtain rfl : a = 0 := by omega
    by_cases hz : b = 0
    ·subst hz
     have h3 : (FloatKind.f64.format.order (fI 0) 0 == some Ordering.gt) = false := by rw [← fI_zero, ord_eq 0 (by decide)]; rfl
     have h5 : (FloatKind.f64.format.order (fI 0) 0 == some Ordering.eq) = true := by rw [← fI_zero, ord_eq 0 (by decide)]; rfl
     have hr : rt 0 0 = true := by decide
     rw [hr]
     clear hr c1 c2 h ha hb
     go_enter Tryz.func111, Tryz.ntmps111
     go_wp2_with fail
     refine (count_yes 0 d1.1 d1.2 _).mono ?_; rintro e w' ⟨rfl, rfl⟩
     go_wp2_with fail
     refine (count_yes 0 d1.1 d1.2 _).mono ?_; rintro e w' ⟨rfl, rfl⟩
     go_wp2
     go_ret
     exact ⟨rfl, rfl⟩
    ·have h3 : (FloatKind.f64.format.order (fI 0) 0 == some Ordering.gt) = false := by rw [← fI_zero, ord_eq 0 (by decide)]; rfl
     have h5 : (FloatKind.f64.format.order (fI b) 0 == some Ordering.eq) = false := by rw [← fI_zero, ord_gt b 0 hb (by decide) (by omega)]; rfl
     have hr : rt 0 b = false := by simp [rt, hz]
     rw [hr]
     clear hr c1 c2 h ha hb hz
     go_enter Tryz.func111, Tryz.ntmps111
     go_wp2_with fail
     refine (count_yes 0 d1.1 d1.2 _).mono ?_; rintro e w' ⟨rfl, rfl⟩
     go_wp2_with fail
     refine (count_yes b d2.1 d2.2 _).mono ?_; rintro e w' ⟨rfl, rfl⟩
     go_wp2
     go_ret
     exact ⟨rfl, rfl⟩
  ·have c2' : cnt b = false := by simpa using c2
   have hr : rt a b = false := by
    have : ¬ (0 ≤ b ∧ b ≤ 1125899906842624) := by simpa [cnt] using c2
    simp only [rt, decide_eq_false_iff_not]; omega
   rw [hr]
   exact right_no2 _ _ (fun w => by have := count_any a ha w; rwa [c1] at this) (fun w => by have := count_any b hb w; rwa [c2'] at this) w
 ·have c1' : cnt a = false := by simpa using c1
  have hr : rt a b = false := by
   have : ¬ (0 ≤ a ∧ a ≤ 1125899906842624) := by simpa [cnt] using c1
   simp only [rt, decide_eq_false_iff_not]; omega
  rw [hr]
  exact right_no1 _ _ (fun w => by have := count_any a ha w; rwa [c1'] at this) w
end Go.Proofs.YtkipiefcnjfdjaaGreat
namespace Go.Proofs.YtkipiefcnjfdjaaGreat
open Go.RowKit Fl Go.Bs
set_option linter.unusedVariables false
set_option linter.unusedSimpArgs false
attribute [local go_sem] unary_neg_float floatOfInt_fI
theorem rt_bound {a b : Int} (h : rt a b = true) : 0 ≤ a ∧ a ≤ 1125899906842624 ∧ 0 ≤ b ∧ b ≤ 1125899906842624 ∧ (0 < a ∨ b = 0) := by simpa [rt] using h
theorem rt_a {a b : Int} (h : rt a b = true) : a.natAbs < 2 ^ 53 := by have := rt_bound h; rw [p53]; omega
theorem rt_b {a b : Int} (h : rt a b = true) : b.natAbs < 2 ^ 53 := by have := rt_bound h; rw [p53]; omega
set_option maxHeartbeats 400000 in
theorem things_any (a b : Int) (ha : a.natAbs < 2 ^ 53) (hb : b.natAbs < 2 ^ 53) (w : World) :
  Calls Tryz.prog 52 #[.complex .f64 (fI a) (fI b)] w fun e w' => e = .returned (.int .i64 (if rt a b then a else 0)) ∧ w = w' := by
 have hr := right_any a b ha hb
 have h2 := fun w => int_of' a ha w
 cases h : rt a b
 all_goals
  rw [h] at hr
  have H := hid hr; clear hr h
  go_enter Tryz.func52, Tryz.ntmps52
  go_wp2_with (go_at_call 111; refine (H.out _).mono ?_; rintro e w' ⟨rfl, rfl⟩)
  go_ret
  exact ⟨rfl, rfl⟩
set_option maxHeartbeats 400000 in
theorem bytes_any (a b : Int) (ha : a.natAbs < 2 ^ 53) (hb : b.natAbs < 2 ^ 53) (w : World) :
  Calls Tryz.prog 53 #[.complex .f64 (fI a) (fI b)] w fun e w' => e = .returned (.int .i64 (if rt a b then b else 0)) ∧ w = w' := by
 have hr := right_any a b ha hb
 have h2 := fun w => int_of' b hb w
 cases h : rt a b
 all_goals
  rw [h] at hr
  have H := hid hr; clear hr h
  go_enter Tryz.func53, Tryz.ntmps53
  go_wp2_with (go_at_call 111; refine (H.out _).mono ?_; rintro e w' ⟨rfl, rfl⟩)
  go_ret
  exact ⟨rfl, rfl⟩
set_option maxHeartbeats 400000 in
theorem made_yes (a b : Int) (h : rt a b = true) (w : World) :
  Calls Tryz.prog 171 #[.int .i64 a, .int .i64 b] w fun e w' => e = .returned (.tuple #[.complex .f64 (fI a) (fI b), .bool true]) ∧ w = w' := by
 obtain ⟨h0, h1, h2, h3, h4⟩ := rt_bound h
 clear h
 rcases h4 with h4 | h4
 ·have e1 : decide (a < 0) = false := by simp; omega
  have e2 : decide (1125899906842624 < a) = false := by simp; omega
  have e3 : decide (b < 0) = false := by simp; omega
  have e4 : decide (1125899906842624 < b) = false := by simp; omega
  have e5 : (a == 0) = false := by simp; omega
  go_enter Tryz.func171, Tryz.ntmps171
  go_wp2
  go_ret2
  exact ⟨rfl, rfl⟩
 ·subst h4
  have e1 : decide (a < 0) = false := by simp; omega
  have e2 : decide (1125899906842624 < a) = false := by simp; omega
  by_cases e5 : (a == 0) = true
  ·go_enter Tryz.func171, Tryz.ntmps171
   go_wp2
   go_ret2
   exact ⟨rfl, rfl⟩
  ·have e6 : (a == 0) = false := by simpa using e5
   clear e5
   go_enter Tryz.func171, Tryz.ntmps171
   go_wp2
   go_ret2
   exact ⟨rfl, rfl⟩
set_option maxHeartbeats 400000 in
theorem one_yes (b : Int) (h : rt 1 b = true) (w : World) :
  Calls Tryz.prog 110 #[.int .i64 b] w fun e w' => e = .returned (.complex .f64 (fI 1) (fI b)) ∧ w = w' := by
 have H := hid h; clear h
 go_enter Tryz.func110, Tryz.ntmps110
 go_wp2_with (go_at_call 171; refine (made_yes 1 b H.out _).mono ?_; rintro e w' ⟨rfl, rfl⟩)
 go_ret
 exact ⟨rfl, rfl⟩
end Go.Proofs.YtkipiefcnjfdjaaGreat
namespace Go.Proofs.YtkipiefcnjfdjaaGreat
open Go.RowKit Fl Go.Bs
set_option linter.unusedVariables false
set_option linter.unusedSimpArgs false
attribute [local go_sem] unary_neg_float floatOfInt_fI
def sumGo : Int × Int → List (Int × Int) → Int × Int
 | s, [] => s
 | s, x :: l => if rt x.1 x.2 then (if rt (s.1 + x.1) (s.2 + x.2) then sumGo (s.1 + x.1, s.2 + x.2) l else (0, 0)) else (0, 0)
theorem add_cz (P : Program) (t : TypeId) (a b c d : Int) (ha : a.natAbs < 2 ^ 53) (hb : b.natAbs < 2 ^ 53) (hc : c.natAbs < 2 ^ 53) (hd : d.natAbs < 2 ^ 53) (h1 : (a + c).natAbs < 2 ^ 53) (h2 : (b + d).natAbs < 2 ^ 53) (w : World) :
  (binOp .add t (.complex .f64 (fI a) (fI b)) (.complex .f64 (fI c) (fI d))).run P w = .ok (.complex .f64 (fI (a + c)) (fI (b + d))) w := by
 refine run_complex_sum w .add (.inl rfl) t .f64 _ _ _ _ _ _ ?_
 unfold cSumBits floatBits
 have e1 : FloatKind.f64.format.add (fI a) (fI c) = some (fI (a + c)) := add_fI a c ha hc h1
 have e2 : FloatKind.f64.format.add (fI b) (fI d) = some (fI (b + d)) := add_fI b d hb hd h2
 simp only [e1, e2, Option.bind_some]
def Fits (p : Int × Int) : Prop := p.1.natAbs ≤ 2251799813685248 ∧ p.2.natAbs ≤ 2251799813685248
set_option maxHeartbeats 800000 in
theorem sum_any (l : List (Int × Int)) (hl : ∀ p ∈ l, Fits p) (A : Option Addr) (c : Nat) (w : World) (hlen : l.length ≤ 1000000)
  (hr : ∀ k, (hk : k < l.length) → ∃ b o, A = some ⟨b, o, none⟩ ∧ w.cell? ⟨b, o + k, none⟩ = some (.complex .f64 (fI l[k].1) (fI l[k].2))) :
  Calls Tryz.prog 109 #[.slice A l.length c] w fun e w' => e = .returned (.complex .f64 (fI (sumGo (0, 0) l).1) (fI (sumGo (0, 0) l).2)) ∧ w = w' := by
 have HL := hid hl; clear hl
 have HR := hid hr; clear hr
 go_enter Tryz.func109, Tryz.ntmps109
 go_wp2
 go_loop [3, 8] (fun s i => ∃ k : Nat, ∃ x y : Int, k ≤ l.length ∧ i = .int .i64 k ∧ s = .complex .f64 (fI x) (fI y) ∧ Hid (rt x y = true) ∧ Hid (sumGo (0, 0) l = sumGo (x, y) (l.drop k))) (fun _ i => l.length - (intOf i).toNat)
 case atStart => exact ⟨0, 0, 0, Nat.zero_le _, rfl, by rw [fI_zero], hid (by decide), hid rfl⟩
 case round =>
  obtain ⟨k, x, y, hk, rfl, rfl, hrt, hs⟩ := hrel
  by_cases hlt : k < l.length
  ·obtain ⟨b, o, hA, hcell⟩ := HR.out k hlt
   subst hA
   obtain ⟨u, v, huv⟩ : ∃ u v, l[k] = (u, v) := ⟨_, _, rfl⟩
   have hfit := HL.out _ (List.getElem_mem hlt)
   rw [huv] at hcell hfit
   have hd : l.drop k = (u, v) :: l.drop (k + 1) := by rw [← huv]; exact List.drop_eq_getElem_cons hlt
   rw [hd] at hs
   have HU := hid huv; clear huv hd
   simp only [Fits] at hfit
   obtain ⟨f1, f2⟩ := hfit
   have b1 : u.natAbs < 2 ^ 53 := by rw [p53]; omega
   have b2 : v.natAbs < 2 ^ 53 := by rw [p53]; omega
   obtain ⟨x0, x1, y0, y1, _⟩ := rt_bound hrt.out
   have b3 : x.natAbs < 2 ^ 53 := by rw [p53]; omega
   have b4 : y.natAbs < 2 ^ 53 := by rw [p53]; omega
   have b5 : (x + u).natAbs < 2 ^ 53 := by rw [p53]; omega
   have b6 : (y + v).natAbs < 2 ^ 53 := by rw [p53]; omega
   have hadd := add_cz Tryz.prog 80 x y u v b3 b4 b1 b2 b5 b6
   have hr1 := right_any u v b1 b2
   have hr2 := right_any (x + u) (y + v) b5 b6
   cases g1 : rt u v
   ·rw [g1] at hr1
    have H1 := hid hr1; clear hr1 hr2
    have G1 := hid g1; clear g1
    go_wp2_with (go_at_call 111; refine (H1.out _).mono ?_; rintro e w' ⟨rfl, rfl⟩)
    go_ret
    refine ⟨?_, rfl⟩
    rw [hs.out]
    simp only [sumGo, G1.out]
    simp only [Bool.false_eq_true, if_false, fI_zero]
    rfl
   ·rw [g1] at hr1
    cases g2 : rt (x + u) (y + v)
    ·rw [g2] at hr2
     have H1 := hid hr1; clear hr1
     have H2 := hid hr2; clear hr2
     have G1 := hid g1; clear g1
     have G2 := hid g2; clear g2
     go_wp2_with fail
     refine (H1.out _).mono ?_; rintro e w' ⟨rfl, rfl⟩
     go_wp2_with fail
     refine (H2.out _).mono ?_; rintro e w' ⟨rfl, rfl⟩
     go_wp2
     go_ret
     refine ⟨?_, rfl⟩
     rw [hs.out]
     simp only [sumGo, G1.out, G2.out]
     simp only [Bool.false_eq_true, if_false, if_true, fI_zero]
     rfl
    ·rw [g2] at hr2
     have H1 := hid hr1; clear hr1
     have H2 := hid hr2; clear hr2
     have G1 := hid g1; clear g1
     have G2 := hid g2; clear g2
     go_wp2_with fail
     refine (H1.out _).mono ?_; rintro e w' ⟨rfl, rfl⟩
     go_wp2_with fail
     refine (H2.out _).mono ?_; rintro e w' ⟨rfl, rfl⟩
     go_wp2
     go_round
     case rel =>
      refine ⟨k + 1, x + u, y + v, by omega, by go_num, rfl, G2, hid ?_⟩
      rw [hs.out]
      simp only [sumGo, G1.out, G2.out, if_true]
     case measure => simp [intOf]; omega
  ·obtain rfl : k = l.length := by omega
   go_wp2
   go_ret
   refine ⟨?_, rfl⟩
   rw [hs.out, List.drop_length]
   rfl
end Go.Proofs.YtkipiefcnjfdjaaGreat
namespace Go.Proofs.YtkipiefcnjfdjaaGreat
open Go.RowKit Fl Go.Bs
set_option linter.unusedVariables false
set_option linter.unusedSimpArgs false
attribute [local go_sem] unary_neg_float floatOfInt_fI
theorem sumGo2 (a b c d : Int) (h1 : rt a b = true) (h2 : rt c d = true) (h3 : rt (a + c) (b + d) = true) : sumGo (0, 0) [(a, b), (c, d)] = (a + c, b + d) := by
 simp only [sumGo, h1, h2, h3, Int.zero_add, if_true]
theorem sum_two (a b c d : Int) (h1 : rt a b = true) (h2 : rt c d = true) (h3 : rt (a + c) (b + d) = true) (w : World) :
  Calls Tryz.prog 109 #[.slice (some ⟨w.heap.size, 0, none⟩) 2 2] (w.alloc (.cells #[.complex .f64 (fI a) (fI b), .complex .f64 (fI c) (fI d)] 80)) fun e w' =>
   e = .returned (.complex .f64 (fI (a + c)) (fI (b + d))) ∧ w.alloc (.cells #[.complex .f64 (fI a) (fI b), .complex .f64 (fI c) (fI d)] 80) = w' := by
 have b1 := rt_bound h1
 have b2 := rt_bound h2
 have := sum_any [(a, b), (c, d)] (by
  intro p hp
  simp only [List.mem_cons, List.not_mem_nil, or_false] at hp
  rcases hp with rfl | rfl <;> (simp only [Fits]; omega)) (some ⟨w.heap.size, 0, none⟩) 2 (w.alloc (.cells #[.complex .f64 (fI a) (fI b), .complex .f64 (fI c) (fI d)] 80)) (by simp) (by
  intro k hk
  refine ⟨_, _, rfl, ?_⟩
  match k, hk with
  | 0, _ => go_simp
  | 1, _ => go_simp)
 rw [sumGo2 a b c d h1 h2 h3] at this
 exact this
end Go.Proofs.YtkipiefcnjfdjaaGreat
