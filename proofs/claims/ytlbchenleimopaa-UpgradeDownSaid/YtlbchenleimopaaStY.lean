/- What a segment of the version 1 becomes, by the program: whole; counting; an entry at a position. -/
import Derived.Test.YtlbchenleimopaaStX
namespace Go.Proofs.Ytlbchenleimopaa
open Go.RowKit Go.Bs
set_option linter.unusedVariables false
set_option linter.unusedSimpArgs false

theorem seg1R_facts {u : Seg1} (h : seg1R u = true) : u.entries.length ≤ 400 ∧ u.base + u.entries.length ≤ 4611686018427387904 ∧ totalO u.entries ≤ 1048576 ∧ (1 ≤ u.epoch ∧ u.epoch < 4611686018427387904) ∧ u.base < 4611686018427387904 := by
  simp only [seg1R, numR, epR, poR, Bool.and_eq_true, decide_eq_true_eq] at h
  exact ⟨h.2.1, h.2.2.1.2, h.2.2.2.1, h.1, h.2.2.1.1⟩
theorem le_sum_of {l : List Nat} {n : Nat} (h : n ∈ l) : n ≤ l.sum := by
  induction l with
  | nil => cases h
  | cons a l ih =>
    rw [List.sum_cons]
    rcases List.mem_cons.1 h with rfl | h
    · omega
    · have := ih h; omega
theorem totalO_mem {l : List Old} {x : Old} (h : x ∈ l) : x.data.length ≤ totalO l := le_sum_of (List.mem_map.2 ⟨x, h, rfl⟩)

set_option maxRecDepth 100000 in
set_option maxHeartbeats 1600000 in
theorem upgrade_Up1 (u : Seg1) (a : Option Addr) (n c : Nat) (w : World) (h0 : 0 ≤ u.epoch ∧ u.epoch ≤ 18446744073709551615) (h1 : 0 ≤ u.base ∧ u.base ≤ 18446744073709551615) (hl : rOlds.r (· < w.heap.size) w [.slice a n c] u.entries) (ht : totalO u.entries ≤ 1000000000000) :
    Calls Try.prog 8 #[.agg #[.int .u64 u.epoch, .int .u64 u.base, .slice a n c]] w (UpRet (up1R u) w) := by
  obtain ⟨rfl, hm, _, _⟩ := sl_len hl
  have HR := hid (fun (W : World) (hW : Below w.heap.size w W) => legacy_right1 u a _ c W h0 h1 (lift hl hW) ht)
  have HUR := hid (show up1R u = if seg1R u then (if u.entries.length ≤ 256 then (⟨u.epoch, upL u.epoch u.base u.entries⟩, 0) else (⟨0, []⟩, 15)) else (⟨0, []⟩, 3) from rfl)
  have HL := hid hl; clear hl
  cases hs : seg1R u
  · rw [hs] at HR
    have HF : Hid (up1R u = (⟨0, []⟩, 3)) := hid (by rw [HUR.out, hs]; rfl)
    clear hs
    go_enter Try.func8, Try.ntmps8
    go_wp2_with fail
    refine (HR.out _ (by (repeat (first | exact Below.refl _ _ | assumption | (refine below_alloc ?_ _) | (refine Below.setCell ?_ (by first | omega | (simp; done) | (simp; omega)) _) | (refine Below.drew ?_) | (refine below_drewN ?_ _) | (refine below_then (by assumption) ?_))))).mono ?_
    rintro e' w1 ⟨rfl, hb1⟩
    have hz : w.heap.size + 1 < w1.heap.size := by have := hb1.size; simp at this; omega
    have c0 : w1.cell? ⟨w.heap.size + 1, 0, none⟩ = some (.int .u64 0) := (Later.mk w1 hb1).cell (by go_simp)
    have c1 : w1.cell? ⟨w.heap.size + 1, 1, none⟩ = some (.slice none 0 0) := (Later.mk w1 hb1).cell (by go_simp)
    have f0 : w1.frozen? ⟨w.heap.size + 1, 0, none⟩ = false := (hb1.frozen (p := ⟨w.heap.size + 1, 0, none⟩) (by simp)).trans (by go_simp)
    have f1 : w1.frozen? ⟨w.heap.size + 1, 1, none⟩ = false := (hb1.frozen (p := ⟨w.heap.size + 1, 1, none⟩) (by simp)).trans (by go_simp)
    go_wp2
    refine bodyPost_ret (v := .tuple #[.agg #[.int .u64 0, .slice none 0 0], .int .i64 3]) (by simp [results, Try.results8, go_sem, c0, c1]) rfl ?_
    unfold UpRet
    rw [HF.out]
    exact ⟨_, rfl, nil_batches, by (repeat (first | exact Below.refl _ _ | assumption | (refine below_alloc ?_ _) | (refine Below.setCell ?_ (by first | omega | (simp; done) | (simp; omega)) _) | (refine Below.drew ?_) | (refine below_drewN ?_ _) | (refine below_then (by assumption) ?_)))⟩
  · rw [hs] at HR
    obtain ⟨g1, g2, g3, g4, g5⟩ := seg1R_facts hs
    have HU := hid (fun (W : World) (hW : Below w.heap.size w W) => upgrade_up1 u a _ c W h0 ⟨h1.1, g2⟩ (lift HL.out hW) g1 (fun x hx => by have := totalO_mem hx; omega))
    have hlen := upL_length u.epoch u.base u.entries
    obtain ⟨ep, bs, l⟩ := u
    dsimp only at *
    have HF : Hid (up1R ⟨ep, bs, l⟩ = if l.length ≤ 256 then (⟨ep, upL ep bs l⟩, 0) else (⟨0, []⟩, 15)) := hid (by rw [HUR.out, hs, if_pos rfl])
    clear hs
    generalize hL : upL ep bs l = L at *
    have HLL := hid hL; clear hL
    have HLEN := hid hlen; clear hlen
    go_enter Try.func8, Try.ntmps8
    go_wp2_with fail
    refine (HR.out _ (by (repeat (first | exact Below.refl _ _ | assumption | (refine below_alloc ?_ _) | (refine Below.setCell ?_ (by first | omega | (simp; done) | (simp; omega)) _) | (refine Below.drew ?_) | (refine below_drewN ?_ _) | (refine below_then (by assumption) ?_))))).mono ?_
    rintro e' w1 ⟨rfl, hb1⟩
    have hbw : Below w.heap.size w w1 := by (repeat (first | exact Below.refl _ _ | assumption | (refine below_alloc ?_ _) | (refine Below.setCell ?_ (by first | omega | (simp; done) | (simp; omega)) _) | (refine Below.drew ?_) | (refine below_drewN ?_ _) | (refine below_then (by assumption) ?_)))
    have hz : w.heap.size + 1 < w1.heap.size := by have := hb1.size; simp at this; omega
    have hz0 : w.heap.size < w1.heap.size := by omega
    have p0 : w1.cell? ⟨w.heap.size, 0, none⟩ = some (.int .u64 ep) := (Later.mk w1 hb1).cell (by go_simp)
    have p1 : w1.cell? ⟨w.heap.size, 1, none⟩ = some (.int .u64 bs) := (Later.mk w1 hb1).cell (by go_simp)
    have p2 : w1.cell? ⟨w.heap.size, 2, none⟩ = some (.slice a l.length c) := (Later.mk w1 hb1).cell (by go_simp)
    have r0 : Blk w1 (w.heap.size + 1) 30 #[.int .u64 0, .slice none 0 0] := Blk.later (by (repeat (first | assumption | exact Blk.newAt _ _ _ (by first | (simp; done) | (simp; omega)) | refine Blk.alloc ?_ _ | refine Blk.drew ?_ | refine Blk.drewN ?_ _ | refine Blk.far ?_ (by first | (simp; done) | (simp; omega)) _))) hb1
    have RB := hid r0; clear r0
    go_wp2_with fail
    refine (HU.out _ hbw).mono ?_
    rintro e' w2 ⟨v2, rfl, hr2, hb2⟩
    obtain ⟨a2, c2, hv2, _, _⟩ := sl_form hr2
    simp only [List.cons.injEq, and_true] at hv2
    subst hv2
    have HR2 := hid hr2; clear hr2
    have hLL : L.length ≤ 1000000000000 := by rw [HLEN.out]; omega
    go_wp2_with fail
    refine (upgrade_sized ep _ _ _ _ hLL).mono ?_
    rintro e' w3 ⟨rfl, hb3⟩
    have R3 := RB.out.later (below_then hb3 hb2)
    have c0 : w3.cell? ⟨w.heap.size + 1, 0, none⟩ = some (.int .u64 0) := R3.cell 0
    have c1 : w3.cell? ⟨w.heap.size + 1, 1, none⟩ = some (.slice none 0 0) := R3.cell 1
    have f0 := R3.free 0
    have f1 := R3.free 1
    have hzz : w.heap.size + 1 < w3.heap.size := by have := hb3.size; have := hb2.size; omega
    clear R3
    have hbf : Below w.heap.size w w3 := hbw.trans ((hb2.mono (by omega)).trans (hb3.mono (by have := hb2.size; omega)))
    by_cases h16 : L.length ≤ 16
    · rw [if_pos h16]
      have h256 : l.length ≤ 256 := by rw [HLEN.out] at h16; omega
      have HF2 : Hid (up1R ⟨ep, bs, l⟩ = (⟨ep, L⟩, 0)) := hid (by rw [HF.out, if_pos h256])
      go_wp2
      refine bodyPost_ret (v := .tuple #[.agg #[.int .u64 ep, .slice a2 L.length c2], .int .i64 0]) (by simp [results, Try.results8, go_sem, c0, c1]) rfl ?_
      unfold UpRet
      rw [HF2.out]
      refine ⟨_, rfl, ?_, by (repeat (first | exact Below.refl _ _ | assumption | (refine below_alloc ?_ _) | (refine Below.setCell ?_ (by first | omega | (simp; done) | (simp; omega)) _) | (refine Below.drew ?_) | (refine below_drewN ?_ _) | (refine below_then (by assumption) ?_)))⟩
      have hs1 : w1.heap.size ≤ w2.heap.size := hb2.size
      refine rBatches.mono (rBatches.keep HR2.out fun b hb => ?_) fun b hb => by have := hb.2; have := hb3.size; simp; omega
      have hb' := hb.1
      repeat rw [Below.heap_setCell _ _ _ _ (by dsimp only; omega)]
      exact hb3.block b hb.2
    · rw [if_neg h16]
      have h256 : ¬ l.length ≤ 256 := by rw [HLEN.out] at h16; omega
      have HF2 : Hid (up1R ⟨ep, bs, l⟩ = (⟨0, []⟩, 15)) := hid (by rw [HF.out, if_neg h256])
      go_wp2
      refine bodyPost_ret (v := .tuple #[.agg #[.int .u64 0, .slice none 0 0], .int .i64 15]) (by simp [results, Try.results8, go_sem, c0, c1]) rfl ?_
      unfold UpRet
      rw [HF2.out]
      exact ⟨_, rfl, nil_batches, by (repeat (first | exact Below.refl _ _ | assumption | (refine below_alloc ?_ _) | (refine Below.setCell ?_ (by first | omega | (simp; done) | (simp; omega)) _) | (refine Below.drew ?_) | (refine below_drewN ?_ _) | (refine below_then (by assumption) ?_)))⟩

/-- How many entries there are, and their bytes. -/
def nEntries (l : List Batch) : Nat := (l.map fun b => b.entries.length).sum
def nBytes (l : List Batch) : Nat := (l.map fun b => total b.entries).sum
theorem sum_step (f : Batch → Nat) (l : List Batch) (k : Nat) (h : k < l.length) : ((l.take (k + 1)).map f).sum = ((l.take k).map f).sum + f l[k] := by
  rw [List.take_succ_eq_append_getElem h, List.map_append, List.sum_append]
  simp
theorem sum_take_le (f : Batch → Nat) (l : List Batch) (k : Nat) : ((l.take k).map f).sum ≤ (l.map f).sum := by
  have : (l.map f).sum = ((l.take k).map f).sum + ((l.drop k).map f).sum := by
    rw [← List.sum_append, ← List.map_append, List.take_append_drop]
  omega

set_option maxHeartbeats 1600000 in
theorem ref34_counts (e : Int) (l : List Batch) (a : Option Addr) (n c : Nat) (w : World) (hl : rBatches.r (· < w.heap.size) w [.slice a n c] l) (h1 : nEntries l ≤ 1000000000000) (h2 : nBytes l ≤ 1000000000000) :
    Calls Try.prog 11 #[.agg #[.int .u64 e, .slice a n c]] w fun r w' => r = .returned (.tuple #[.int .i64 (nEntries l : Nat), .int .i64 (nBytes l : Nat)]) ∧ Below w.heap.size w w' := by
  obtain ⟨rfl, hm, _, _⟩ := sl_len hl
  have HL := hid hl; clear hl
  go_enter Try.func11, Try.ntmps11
  go_wp2_with fail
  refine wp_world (fun W => Below w.heap.size w W ∧ w.heap.size < W.heap.size ∧ W.cell? ⟨w.heap.size, 1, none⟩ = some (.slice a l.length c)) ⟨by (repeat (first | exact Below.refl _ _ | assumption | (refine below_alloc ?_ _) | (refine Below.setCell ?_ (by first | omega | (simp; done) | (simp; omega)) _) | (refine Below.drew ?_) | (refine below_drewN ?_ _) | (refine below_then (by assumption) ?_))), by simp, by go_simp⟩ ?_
  intro W ⟨hbW, hzW, q1⟩
  go_loopw [4, 5, 6] (fun x y i wr => ∃ k : Nat, k ≤ l.length ∧ i = .int .i64 k ∧ x = .int .i64 (nEntries (l.take k) : Nat) ∧ y = .int .i64 (nBytes (l.take k) : Nat) ∧ Below W.heap.size W wr) (fun _ _ i _ => l.length - (intOf i).toNat)
  case atStart => exact ⟨0, Nat.zero_le _, rfl, rfl, rfl, Below.refl _ _⟩
  case round =>
    obtain ⟨k, hk, rfl, rfl, rfl, hb⟩ := hrel
    have hb3 := below_then hb hbW
    have t1 : wr.cell? ⟨w.heap.size, 1, none⟩ = some (.slice a l.length c) := (Later.mk wr hb).cell q1
    have hz3 : w.heap.size < wr.heap.size := by have := hb.size; omega
    by_cases hlt : k < l.length
    · obtain ⟨b, o, hA, hbb, a1, c1, X0, X1, X2, _, _, hd⟩ := batch_at (lift HL.out hb3) hlt
      subst hA
      have s1 := hid (sum_step (fun b => b.entries.length) l k hlt)
      have s2 := hid (sum_step (fun b => total b.entries) l k hlt)
      have t3 := sum_take_le (fun b => b.entries.length) l (k + 1)
      have t4 := sum_take_le (fun b => total b.entries) l (k + 1)
      rw [s1.out] at t3
      rw [s2.out] at t4
      have g1 : nEntries (l.take k) + l[k].entries.length ≤ 1000000000000 := Nat.le_trans t3 h1
      have g2 : nBytes (l.take k) + total l[k].entries ≤ 1000000000000 := Nat.le_trans t4 h2
      clear t3 t4
      have S1 : Hid (nEntries (l.take (k + 1)) = nEntries (l.take k) + l[k].entries.length) := s1
      have S2 : Hid (nBytes (l.take (k + 1)) = nBytes (l.take k) + total l[k].entries) := s2
      clear s1 s2
      have HD := hid hd; clear hd
      generalize l[k] = z at *
      generalize nEntries (l.take k) = x at *
      generalize nBytes (l.take k) = y at *
      go_wp2_with fail
      refine (ref24_join z.entries _ _ _ _ (lift HD.out (by (repeat (first | exact Below.refl _ _ | assumption | (refine below_alloc ?_ _) | (refine Below.setCell ?_ (by first | omega | (simp; done) | (simp; omega)) _) | (refine Below.drew ?_) | (refine below_drewN ?_ _) | (refine below_then (by assumption) ?_))))) (by omega)).mono ?_
      rintro r w4 ⟨v, rfl, hr4, hb4⟩
      obtain ⟨a4, c4, hv4, _, _⟩ := sl_form hr4
      simp only [List.cons.injEq, and_true] at hv4
      subst hv4
      have hj : (joined z.entries).length = total z.entries := joined_length _
      rw [hj]
      clear hr4 hj
      have hb5 := below_then hb4 hb
      go_wp2
      go_roundw
      case rel => exact ⟨k + 1, by omega, by go_num, by rw [S1.out]; simp only [Int.natCast_add], by rw [S2.out]; simp only [Int.natCast_add], hb5⟩
      case measure => simp [intOf]; omega
    · obtain rfl : k = l.length := by omega
      rw [List.take_length]
      go_wp2
      go_ret2
      exact ⟨rfl, hb3⟩
end Go.Proofs.Ytlbchenleimopaa
