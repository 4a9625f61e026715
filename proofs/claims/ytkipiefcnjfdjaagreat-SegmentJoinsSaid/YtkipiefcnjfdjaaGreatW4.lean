/- Needed by segNeeds, part 4: texts put together by shake.py; no condition. -/
import Derived.Test.YtkipiefcnjfdjaaGreatW3
import Derived.Laws.MakeOwn
import Derived.Test.YtkipiefcnjfdjaaGreatW1
import Derived.Test.YtkipiefcnjfdjaaGreatW2
namespace Go.Bs
open Go.RowKit
set_option linter.unusedVariables false
structure MarkD where
 pos : Int
 count : Int
 at_ : Int
def rMark : Rp MarkD := rBy (fun m => (m.pos, m.count, m.at_)) (rPair (rInt .u64) (rPair (rInt .i64) (rInt .i64)))
def rMarks : Rp (List MarkD) := rSl 3 rMark
structure MarkN (m : MarkD) : Prop where
 p : 0 ≤ m.pos ∧ m.pos ≤ 18446744073709551615
 c : -9223372036854775808 ≤ m.count ∧ m.count ≤ 9223372036854775807
 a : -9223372036854775808 ≤ m.at_ ∧ m.at_ ≤ 9223372036854775807
theorem i64_wf {n : Int} (h : -9223372036854775808 ≤ n ∧ n ≤ 9223372036854775807) : (Lit.int .i64 n).wf = true := by
 simp [Lit.wf, IntKind.min, IntKind.max, IntKind.signed, IntKind.bits]; omega
theorem mark_cells {S : Nat → Prop} {w : World} {cs : List Value} {x : MarkD} (h : rMark.r S w cs x) : cs = [.int .u64 x.pos, .int .i64 x.count, .int .i64 x.at_] ∧ MarkN x := by
 obtain ⟨c1, c2, rfl, ⟨rfl, hw⟩, d1, d2, rfl, ⟨rfl, hw2⟩, ⟨rfl, hw3⟩⟩ := h
 exact ⟨rfl, bounds_u64 hw, bounds_i64 hw2, bounds_i64 hw3⟩
theorem mark_mk {S : Nat → Prop} {w : World} {x : MarkD} (h : MarkN x) : rMark.r S w [.int .u64 x.pos, .int .i64 x.count, .int .i64 x.at_] x :=
 ⟨[_], [_, _], rfl, ⟨rfl, u64_wf h.p⟩, [_], [_], rfl, ⟨rfl, i64_wf h.c⟩, ⟨rfl, i64_wf h.a⟩⟩
theorem mark_at {S : Nat → Prop} {w : World} {xs : List MarkD} {a : Option Addr} {n c : Nat} (h : rMarks.r S w [.slice a n c] xs) {i : Nat} (hi : i < xs.length) : ∃ b off, a = some ⟨b, off, none⟩ ∧ S b ∧ w.cell? ⟨b, off + i * 3, none⟩ = some (.int .u64 xs[i].pos) ∧ w.cell? ⟨b, off + i * 3 + 1, none⟩ = some (.int .i64 xs[i].count) ∧ w.cell? ⟨b, off + i * 3 + 2, none⟩ = some (.int .i64 xs[i].at_) ∧ MarkN xs[i] := by
 obtain ⟨b, off, e, hS, cs, _, hc, hA⟩ := sl_at h hi
 obtain ⟨rfl, hn⟩ := mark_cells hA
 exact ⟨b, off, e, hS, hc 0 _ rfl, hc 1 _ rfl, hc 2 _ rfl, hn⟩
def fitsM (m : MarkD) (pos at_ : Int) : Bool := decide (1 ≤ m.count) && (decide (m.count ≤ 16) && (decide (pos ≤ m.pos) && (decide (m.pos < 4611686018427387904) && (decide (m.pos + m.count ≤ 4611686018427387904) && (decide (at_ < m.at_) && decide (m.at_ ≤ 1099511627775))))))
def riseM : Int → Int → List MarkD → Bool
 | _, _, [] => true
 | p, a, m :: l => fitsM m p a && riseM (m.pos + m.count) m.at_ l
def marksR (l : List MarkD) : Bool := riseM 0 0 l && decide (l.length ≤ 16)
theorem fitsM_facts {m : MarkD} {p a : Int} (h : fitsM m p a = true) : 1 ≤ m.count ∧ m.count ≤ 16 ∧ p ≤ m.pos ∧ m.pos < 4611686018427387904 ∧ m.pos + m.count ≤ 4611686018427387904 ∧ a < m.at_ ∧ m.at_ ≤ 1099511627775 := by
 simpa only [fitsM, Bool.and_eq_true, decide_eq_true_eq] using h
end Go.Bs
namespace Go.Proofs.YtkipiefcnjfdjaaGreat
open Go.RowKit Go.Bs Go.Maps
set_option linter.unusedVariables false
set_option linter.unusedSimpArgs false
theorem index_end (m : MarkD) (hp : 0 ≤ m.pos) (hc : 0 ≤ m.count ∧ m.count ≤ 9223372036854775807) (hs : m.pos + m.count ≤ 18446744073709551615) (w : World) :
  Calls Tryz.prog 262 #[.agg #[.int .u64 m.pos, .int .i64 m.count, .int .i64 m.at_]] w fun r w' => r = .returned (.int .u64 (m.pos + m.count)) ∧ Below w.heap.size w w' := by
 obtain ⟨p, c, a⟩ := m
 dsimp only at *
 have e1 : c % 18446744073709551616 = c := by omega
 go_enter Tryz.func262, Tryz.ntmps262
 go_wp2
 go_ret
 exact ⟨rfl, by (repeat first | exact zR | assumption | apply zA | apply zS | apply zD | apply zN | refine zT (by assumption) ?_ | omega | simp <;> omega)⟩
set_option maxRecDepth 100000 in
set_option maxHeartbeats 1600000 in
theorem index_fits (m : MarkD) (hN : MarkN m) (pos a : Int) (w : World) :
  Calls Tryz.prog 281 #[.agg #[.int .u64 m.pos, .int .i64 m.count, .int .i64 m.at_], .int .u64 pos, .int .i64 a] w fun r w' => r = .returned (.bool (fitsM m pos a)) ∧ Below w.heap.size w w' := by
 by_cases h0 : 1 ≤ m.count
 ·by_cases h1 : m.count ≤ 16
  ·by_cases h2 : pos ≤ m.pos
   ·by_cases h3 : m.pos < 4611686018427387904
    ·by_cases h4 : m.pos + m.count ≤ 4611686018427387904
     ·by_cases h5 : a < m.at_
      ·by_cases h6 : m.at_ ≤ 1099511627775
       ·have d0 : decide (1 ≤ m.count) = true := decide_eq_true h0
        have d1 : decide (m.count ≤ 16) = true := decide_eq_true h1
        have d2 : decide (pos ≤ m.pos) = true := decide_eq_true h2
        have d3 : decide (m.pos < 4611686018427387904) = true := decide_eq_true h3
        have d4 : decide (m.pos + m.count ≤ 4611686018427387904) = true := decide_eq_true h4
        have d5 : decide (a < m.at_) = true := decide_eq_true h5
        have d6 : decide (m.at_ ≤ 1099511627775) = true := decide_eq_true h6
        have hff : Hid (fitsM m pos a = true) := hid (by simp only [fitsM, d0, d1, d2, d3, d4, d5, d6, Bool.true_and, Bool.false_and])
        have HE := hid (fun W : World => index_end m hN.p.1 ⟨by omega, by omega⟩ (by omega) W)
        clear h0 h1 h2 h3 h4 h5 h6 hN
        obtain ⟨mp, mc, ma⟩ := m
        dsimp only at *
        go_enter Tryz.func281, Tryz.ntmps281
        go_wp2_with fail
        refine (HE.out _).mono ?_
        rintro r w1 ⟨rfl, hb1⟩
        have hbox := (Blk.new w 160 #[.int .u64 mp, .int .i64 mc, .int .i64 ma]).later hb1
        have c2 : w1.cell? ⟨w.heap.size, 2, none⟩ = some (.int .i64 ma) := hbox.cell 2
        clear hbox
        go_wp2
        go_ret
        exact ⟨by rw [hff.out]; rfl, by (repeat first | exact zR | assumption | apply zA | apply zS | apply zD | apply zN | refine zT (by assumption) ?_ | omega | simp <;> omega)⟩
       ·have d0 : decide (1 ≤ m.count) = true := decide_eq_true h0
        have d1 : decide (m.count ≤ 16) = true := decide_eq_true h1
        have d2 : decide (pos ≤ m.pos) = true := decide_eq_true h2
        have d3 : decide (m.pos < 4611686018427387904) = true := decide_eq_true h3
        have d4 : decide (m.pos + m.count ≤ 4611686018427387904) = true := decide_eq_true h4
        have d5 : decide (a < m.at_) = true := decide_eq_true h5
        have d6 : decide (m.at_ ≤ 1099511627775) = false := decide_eq_false h6
        have hff : Hid (fitsM m pos a = false) := hid (by simp only [fitsM, d0, d1, d2, d3, d4, d5, d6, Bool.true_and, Bool.false_and])
        have HE := hid (fun W : World => index_end m hN.p.1 ⟨by omega, by omega⟩ (by omega) W)
        clear h0 h1 h2 h3 h4 h5 h6 hN
        obtain ⟨mp, mc, ma⟩ := m
        dsimp only at *
        go_enter Tryz.func281, Tryz.ntmps281
        go_wp2_with fail
        refine (HE.out _).mono ?_
        rintro r w1 ⟨rfl, hb1⟩
        have hbox := (Blk.new w 160 #[.int .u64 mp, .int .i64 mc, .int .i64 ma]).later hb1
        have c2 : w1.cell? ⟨w.heap.size, 2, none⟩ = some (.int .i64 ma) := hbox.cell 2
        clear hbox
        go_wp2
        go_ret
        exact ⟨by rw [hff.out]; rfl, by (repeat first | exact zR | assumption | apply zA | apply zS | apply zD | apply zN | refine zT (by assumption) ?_ | omega | simp <;> omega)⟩
      ·have d0 : decide (1 ≤ m.count) = true := decide_eq_true h0
       have d1 : decide (m.count ≤ 16) = true := decide_eq_true h1
       have d2 : decide (pos ≤ m.pos) = true := decide_eq_true h2
       have d3 : decide (m.pos < 4611686018427387904) = true := decide_eq_true h3
       have d4 : decide (m.pos + m.count ≤ 4611686018427387904) = true := decide_eq_true h4
       have d5 : decide (a < m.at_) = false := decide_eq_false h5
       have hff : Hid (fitsM m pos a = false) := hid (by simp only [fitsM, d0, d1, d2, d3, d4, d5, Bool.true_and, Bool.false_and])
       have HE := hid (fun W : World => index_end m hN.p.1 ⟨by omega, by omega⟩ (by omega) W)
       clear h0 h1 h2 h3 h4 h5 hN
       obtain ⟨mp, mc, ma⟩ := m
       dsimp only at *
       go_enter Tryz.func281, Tryz.ntmps281
       go_wp2_with fail
       refine (HE.out _).mono ?_
       rintro r w1 ⟨rfl, hb1⟩
       have hbox := (Blk.new w 160 #[.int .u64 mp, .int .i64 mc, .int .i64 ma]).later hb1
       have c2 : w1.cell? ⟨w.heap.size, 2, none⟩ = some (.int .i64 ma) := hbox.cell 2
       clear hbox
       go_wp2
       go_ret
       exact ⟨by rw [hff.out]; rfl, by (repeat first | exact zR | assumption | apply zA | apply zS | apply zD | apply zN | refine zT (by assumption) ?_ | omega | simp <;> omega)⟩
     ·have d0 : decide (1 ≤ m.count) = true := decide_eq_true h0
      have d1 : decide (m.count ≤ 16) = true := decide_eq_true h1
      have d2 : decide (pos ≤ m.pos) = true := decide_eq_true h2
      have d3 : decide (m.pos < 4611686018427387904) = true := decide_eq_true h3
      have d4 : decide (m.pos + m.count ≤ 4611686018427387904) = false := decide_eq_false h4
      have hff : Hid (fitsM m pos a = false) := hid (by simp only [fitsM, d0, d1, d2, d3, d4, Bool.true_and, Bool.false_and])
      have HE := hid (fun W : World => index_end m hN.p.1 ⟨by omega, by omega⟩ (by omega) W)
      clear h0 h1 h2 h3 h4 hN
      obtain ⟨mp, mc, ma⟩ := m
      dsimp only at *
      go_enter Tryz.func281, Tryz.ntmps281
      go_wp2_with fail
      refine (HE.out _).mono ?_
      rintro r w1 ⟨rfl, hb1⟩
      have hbox := (Blk.new w 160 #[.int .u64 mp, .int .i64 mc, .int .i64 ma]).later hb1
      have c2 : w1.cell? ⟨w.heap.size, 2, none⟩ = some (.int .i64 ma) := hbox.cell 2
      clear hbox
      go_wp2
      go_ret
      exact ⟨by rw [hff.out]; rfl, by (repeat first | exact zR | assumption | apply zA | apply zS | apply zD | apply zN | refine zT (by assumption) ?_ | omega | simp <;> omega)⟩
    ·have d0 : decide (1 ≤ m.count) = true := decide_eq_true h0
     have d1 : decide (m.count ≤ 16) = true := decide_eq_true h1
     have d2 : decide (pos ≤ m.pos) = true := decide_eq_true h2
     have d3 : decide (m.pos < 4611686018427387904) = false := decide_eq_false h3
     have hff : Hid (fitsM m pos a = false) := hid (by simp only [fitsM, d0, d1, d2, d3, Bool.true_and, Bool.false_and])
     clear h0 h1 h2 h3 hN
     obtain ⟨mp, mc, ma⟩ := m
     dsimp only at *
     go_enter Tryz.func281, Tryz.ntmps281
     go_wp2
     go_ret
     exact ⟨by rw [hff.out]; rfl, by (repeat first | exact zR | assumption | apply zA | apply zS | apply zD | apply zN | refine zT (by assumption) ?_ | omega | simp <;> omega)⟩
   ·have d0 : decide (1 ≤ m.count) = true := decide_eq_true h0
    have d1 : decide (m.count ≤ 16) = true := decide_eq_true h1
    have d2 : decide (pos ≤ m.pos) = false := decide_eq_false h2
    have hff : Hid (fitsM m pos a = false) := hid (by simp only [fitsM, d0, d1, d2, Bool.true_and, Bool.false_and])
    clear h0 h1 h2 hN
    obtain ⟨mp, mc, ma⟩ := m
    dsimp only at *
    go_enter Tryz.func281, Tryz.ntmps281
    go_wp2
    go_ret
    exact ⟨by rw [hff.out]; rfl, by (repeat first | exact zR | assumption | apply zA | apply zS | apply zD | apply zN | refine zT (by assumption) ?_ | omega | simp <;> omega)⟩
  ·have d0 : decide (1 ≤ m.count) = true := decide_eq_true h0
   have d1 : decide (m.count ≤ 16) = false := decide_eq_false h1
   have hff : Hid (fitsM m pos a = false) := hid (by simp only [fitsM, d0, d1, Bool.true_and, Bool.false_and])
   clear h0 h1 hN
   obtain ⟨mp, mc, ma⟩ := m
   dsimp only at *
   go_enter Tryz.func281, Tryz.ntmps281
   go_wp2
   go_ret
   exact ⟨by rw [hff.out]; rfl, by (repeat first | exact zR | assumption | apply zA | apply zS | apply zD | apply zN | refine zT (by assumption) ?_ | omega | simp <;> omega)⟩
 ·have d0 : decide (1 ≤ m.count) = false := decide_eq_false h0
  have hff : Hid (fitsM m pos a = false) := hid (by simp only [fitsM, d0, Bool.true_and, Bool.false_and])
  clear h0 hN
  obtain ⟨mp, mc, ma⟩ := m
  dsimp only at *
  go_enter Tryz.func281, Tryz.ntmps281
  go_wp2
  go_ret
  exact ⟨by rw [hff.out]; rfl, by (repeat first | exact zR | assumption | apply zA | apply zS | apply zD | apply zN | refine zT (by assumption) ?_ | omega | simp <;> omega)⟩
theorem riseM_step (p a : Int) (l : List MarkD) (k : Nat) (h : k < l.length) : riseM p a (l.drop k) = (fitsM l[k] p a && riseM (l[k].pos + l[k].count) l[k].at_ (l.drop (k + 1))) := by
 rw [List.drop_eq_getElem_cons h]; rfl
set_option maxRecDepth 100000 in
set_option maxHeartbeats 3200000 in
theorem index_right (l : List MarkD) (al : Option Addr) (nl cl : Nat) (w : World) (hl : rMarks.r (· < w.heap.size) w [.slice al nl cl] l) :
  Calls Tryz.prog 261 #[.slice al nl cl] w fun r w' => r = .returned (.bool (marksR l)) ∧ Below w.heap.size w w' := by
 obtain ⟨rfl, hm, _, _⟩ := sl_len hl
 have HL := hid hl; clear hl
 go_enter Tryz.func261, Tryz.ntmps261
 go_wp2_with fail
 go_loopw [3, 4, 9] (fun p a i wr => ∃ (k : Nat) (pp aa : Int), k ≤ l.length ∧ i = .int .i64 k ∧ p = .int .u64 pp ∧ a = .int .i64 aa ∧ Hid (riseM 0 0 l = riseM pp aa (l.drop k)) ∧ Below w.heap.size w wr) (fun _ _ i _ => l.length - (intOf i).toNat)
 case atStart => exact ⟨0, 0, 0, Nat.zero_le _, rfl, rfl, rfl, hid rfl, Below.refl _ _⟩
 case round =>
  obtain ⟨k, pp, aa, hk, rfl, rfl, rfl, hf, hb⟩ := hrel
  by_cases hlt : k < l.length
  ·obtain ⟨b, o, hA, hbb, x0, x1, x2, hN⟩ := mark_at (lift HL.out hb) hlt
   subst hA
   have hst := hid (riseM_step pp aa l k hlt)
   have i1 : (k : Int) < (l.length : Int) := by omega
   generalize l[k] = m at *
   have HF := hid (fun W : World => index_fits m hN pp aa W)
   go_wp2_with fail
   refine (HF.out _).mono ?_
   rintro r w1 ⟨rfl, hb1⟩
   have hbox := (Blk.new wr 160 #[.int .u64 m.pos, .int .i64 m.count, .int .i64 m.at_]).later hb1
   have hb2 : Below w.heap.size w w1 := below_then (below_then hb1 (by (repeat first | exact zR | assumption | apply zA | apply zS | apply zD | apply zN | refine zT (by assumption) ?_ | omega | simp <;> omega))) hb
   cases hfm : fitsM m pp aa
   ·have hff : Hid (marksR l = false) := hid (by unfold marksR; rw [hf.out, hst.out, hfm]; rfl)
    clear hfm hbox
    go_wp2
    go_ret
    exact ⟨by rw [hff.out]; rfl, hb2⟩
   ·obtain ⟨g1, g2, g3, g4, g5, g6, g7⟩ := fitsM_facts hfm
    have hff : Hid (riseM 0 0 l = riseM (m.pos + m.count) m.at_ (l.drop (k + 1))) := hid (by rw [hf.out, hst.out, hfm]; rfl)
    have HE := hid (fun s : Later w1 => index_end m hN.p.1 ⟨by omega, by omega⟩ (by omega) s.at_)
    have Y0 := fun s : Later w1 => s.cell (hbox.cell 0)
    have Y1 := fun s : Later w1 => s.cell (hbox.cell 1)
    have Y2 := fun s : Later w1 => s.cell (hbox.cell 2)
    simp at Y0 Y1 Y2
    clear hfm hbox g1 g2 g3 g4 g5 g6 g7 hN
    go_wp2_with fail
    refine wp_region_later (by kernel_rfl) (by kernel_rfl) ?_
    repeat (go_big_quiet_step ((go_at_call 262; exact later_of (HE.out _))))
    refine wpQuiet_nil ?_
    rintro W5 ⟨⟨W5', hb5⟩, rfl⟩
    go_wp2
    go_roundw
    case rel => exact ⟨k + 1, _, _, by omega, by go_num, rfl, rfl, hff, below_then hb5 hb2⟩
    case measure => simp [intOf]; omega
  ·obtain rfl : k = l.length := by omega
   have hff : Hid (marksR l = decide ((l.length : Int) ≤ 16)) := hid (by unfold marksR; rw [hf.out, List.drop_length]; simp only [riseM, Bool.true_and, decide_eq_decide]; omega)
   go_wp2
   go_ret
   exact ⟨by rw [hff.out]; rfl, hb⟩
end Go.Proofs.YtkipiefcnjfdjaaGreat
namespace Go.Bs
open Go.RowKit
set_option linter.unusedVariables false
def marksB : Int → Int → List MarkD → List UInt8
 | _, _, [] => []
 | p, a, m :: l => varB (m.pos - p).toNat ++ (varB m.count.toNat ++ (varB (m.at_ - a - 1).toNat ++ marksB (m.pos + m.count) m.at_ l))
def indexB (l : List MarkD) : List UInt8 := varB l.length ++ marksB 0 0 l
theorem marksB_len : ∀ (l : List MarkD) (p a : Int), (marksB p a l).length ≤ 30 * l.length
 | [], _, _ => by simp [marksB]
 | m :: l, p, a => by
  have h1 := (varB_len (m.pos - p).toNat).1
  have h2 := (varB_len m.count.toNat).1
  have h3 := (varB_len (m.at_ - a - 1).toNat).1
  have h4 := marksB_len l (m.pos + m.count) m.at_
  simp only [marksB, List.length_append, List.length_cons]
  omega
theorem marksB_step (p a : Int) (l : List MarkD) (k : Nat) (h : k < l.length) : marksB p a (l.drop k) = varB (l[k].pos - p).toNat ++ (varB l[k].count.toNat ++ (varB (l[k].at_ - a - 1).toNat ++ marksB (l[k].pos + l[k].count) l[k].at_ (l.drop (k + 1)))) := by
 rw [List.drop_eq_getElem_cons h]; rfl
def countM (l : List MarkD) : Int := (l.map MarkD.count).sum
theorem countM_step (l : List MarkD) (k : Nat) (h : k < l.length) : countM (l.take (k + 1)) = countM (l.take k) + l[k].count := by
 rw [List.take_succ_eq_append_getElem h]; simp only [countM, List.map_append, List.sum_append, List.map_cons, List.map_nil, List.sum_cons, List.sum_nil]; omega
theorem riseM_mem : ∀ (l : List MarkD) (p a : Int), riseM p a l = true → ∀ m ∈ l, 1 ≤ m.count ∧ m.count ≤ 16 ∧ m.pos + m.count ≤ 4611686018427387904
 | [], _, _, _, m, hm => by cases hm
 | x :: l, p, a, h, m, hm => by
  simp only [riseM, Bool.and_eq_true] at h
  rcases List.mem_cons.1 hm with rfl | hm
  ·obtain ⟨h1, h2, _, _, h5, _⟩ := fitsM_facts h.1
   exact ⟨h1, h2, h5⟩
  ·exact riseM_mem l _ _ h.2 m hm
theorem countM_le (l : List MarkD) (h : ∀ m ∈ l, 1 ≤ m.count ∧ m.count ≤ 16) : (l.length : Int) ≤ countM l ∧ countM l ≤ 16 * l.length := by
 induction l with
 | nil => simp [countM]
 | cons m l ih =>
  have h1 := h m (List.mem_cons_self ..)
  have h2 := ih fun x hx => h x (List.mem_cons_of_mem _ hx)
  simp only [countM, List.map_cons, List.sum_cons, List.length_cons] at h2 ⊢
  omega
end Go.Bs
namespace Go.Proofs.YtkipiefcnjfdjaaGreat
open Go.RowKit Go.Bs Go.Maps
set_option linter.unusedVariables false
set_option linter.unusedSimpArgs false
theorem varint_putI (w : World) {g base most : Nat} {J : List UInt8} {a : Option Addr} {c : Nat} (h : PenAt w g base most J a c) (x : Int) (hx : 0 ≤ x ∧ x ≤ 18446744073709551615) (hfit : J.length + (varB x.toNat).length ≤ most) (hlen : J.length + (varB x.toNat).length ≤ 100000000000000) :
  Calls Tryz.prog 73 #[.pointer (some ⟨g, 0, none⟩), .int .u64 x] w fun r w' => r = .returned (.tuple #[]) ∧ PenStep w g base most (J ++ varB x.toNat) a w' := by
 have := varint_put w h x.toNat (by omega) hfit hlen
 rw [Int.toNat_of_nonneg hx.1] at this
 exact this
theorem PenStep.at {w1 w : World} {g base most : Nat} {J : List UInt8} {a : Option Addr} (h : PenStep w1 g base most J a w) : ∃ a' c', PenAt w g base most J a' c' ∧ (∀ (J' : List UInt8) (w' : World), PenStep w g base most J' a' w' → PenStep w1 g base most J' a w') := by
 obtain ⟨a', c', h1, h2, h3⟩ := h
 exact ⟨a', c', h1, fun J' w' k => PenStep.trans (J := J) h2 h3 k⟩
theorem PenStep.blk {w1 w : World} {g base most : Nat} {J : List UInt8} {a : Option Addr} (h : PenStep w1 g base most J a w) {b : Nat} {t : TypeId} {cs : Array Value} (hB : Blk w1 b t cs) (hn : ¬ PenF g a b) : Blk w b t cs := by
 obtain ⟨a', c', h1, h2, h3⟩ := h
 exact hB.tch h2 hn
theorem PenStep.tch {w1 w : World} {g base most : Nat} {J : List UInt8} {a : Option Addr} (h : PenStep w1 g base most J a w) : Tch (PenF g a) w1 w := by
 obtain ⟨a', c', h1, h2, h3⟩ := h
 exact h2
set_option maxRecDepth 100000 in
set_option maxHeartbeats 3200000 in
theorem index_put (w : World) {g base most : Nat} {J : List UInt8} {a : Option Addr} {c : Nat} (h : PenAt w g base most J a c) (l : List MarkD) (al : Option Addr) (nl cl : Nat)
  (hl : rMarks.r (fun q => q < w.heap.size ∧ ¬ PenF g a q) w [.slice al nl cl] l) (hR : marksR l = true) (hfit : J.length + (indexB l).length ≤ most) (hlen : J.length + (indexB l).length ≤ 100000000000000) :
  Calls Tryz.prog 225 #[.pointer (some ⟨g, 0, none⟩), .slice al nl cl] w fun r w' => r = .returned (.tuple #[]) ∧ PenStep w g base most (J ++ indexB l) a w' := by
 obtain ⟨rfl, hm, _, _⟩ := sl_len hl
 have HR := hid (index_right l al _ cl w (rMarks.mono hl fun q hq => hq.1))
 rw [hR] at HR
 simp only [marksR, Bool.and_eq_true, decide_eq_true_eq] at hR
 have hix : Hid (indexB l = varB l.length ++ marksB 0 0 l) := hid rfl
 have HLN : Hid (∀ D E : List UInt8, indexB l = D ++ E → J.length + D.length + E.length ≤ most ∧ J.length + D.length + E.length ≤ 100000000000000) := hid fun D E e => by rw [e, List.length_append] at hfit hlen; omega
 have HV := hid (fun (W : World) (hW : Below w.heap.size w W) => by
  have h0 := HLN.out _ _ hix.out
  exact varint_put W (h.later hW) l.length (by omega) (by omega) (by omega))
 have HL := hid hl
 have HRI := hid hR.1
 have HP := hid h
 have hl16 := hR.2
 clear h hl hR hfit hlen
 go_enter Tryz.func225, Tryz.ntmps225
 go_wp2_with fail
 refine HR.out.mono ?_
 rintro r w1 ⟨rfl, hb1⟩
 go_wp2_with fail
 refine (HV.out _ hb1).mono ?_
 rintro r w2 ⟨rfl, hs2⟩
 have HS2 := hid (PenStep.later hb1 hs2)
 clear hs2
 go_wp2_with fail
 go_loopw [4, 5, 20] (fun p at_ i wr => ∃ (k : Nat) (pp aa : Int) (D : List UInt8), k ≤ l.length ∧ i = .int .i64 k ∧ p = .int .u64 pp ∧ at_ = .int .i64 aa ∧ 0 ≤ pp ∧ 0 ≤ aa ∧ Hid (riseM pp aa (l.drop k) = true) ∧ Hid (indexB l = D ++ marksB pp aa (l.drop k)) ∧ Hid (PenStep w g base most (J ++ D) a wr)) (fun _ _ i _ => l.length - (intOf i).toNat)
 case atStart => exact ⟨0, 0, 0, _, Nat.zero_le _, rfl, rfl, rfl, by omega, by omega, HRI, hix, HS2⟩
 case round =>
  obtain ⟨k, pp, aa, D, hk, rfl, rfl, rfl, hp0, ha0, hri, hD, HST⟩ := hrel
  by_cases hlt : k < l.length
  ·have hrT := HST.out.tch
   have hsz := hrT.size
   obtain ⟨b, o, hA, hbb, x0, x1, x2, hN⟩ := mark_at (rMarks.keep HL.out fun q hq => hrT.block q hq.1 hq.2) hlt
   subst hA
   have hst := riseM_step pp aa l k hlt
   have hms := hid (marksB_step pp aa l k hlt)
   rw [hri.out] at hst
   generalize l[k] = m at *
   simp only [eq_comm (a := true), Bool.and_eq_true] at hst
   obtain ⟨g1, g2, g3, g4, g5, g6, g7⟩ := fitsM_facts hst.1
   have HRI2 := hid hst.2
   clear hst
   have i1 : (k : Int) < (l.length : Int) := by omega
   have i2 := hbb.1
   have hN1 := hN.p
   obtain ⟨a3, c3, p3, k3⟩ := HST.out.at
   have K3 := hid k3
   have hno : ¬ PenF g a3 wr.heap.size := fun hf => by
    rw [penF_is] at hf
    rcases hf with e | e
    ·have := p3.blk.lt; omega
    ·have := (p3.own_lt (penF_is.2 (.inr e))).2; omega
   have P3 := hid p3
   have HNO := hid hno
   have hlen := HLN.out _ _ (hD.out.trans (congrArg (D ++ ·) hms.out))
   simp only [List.length_append] at hlen
   clear k3 p3 hno hrT
   go_wp2_with fail
   have hW : Below wr.heap.size wr (wr.alloc (.cells #[.int .u64 m.pos, .int .i64 m.count, .int .i64 m.at_] 160)) := by (repeat first | exact zR | assumption | apply zA | apply zS | apply zD | apply zN | refine zT (by assumption) ?_ | omega | simp <;> omega)
   have hBX := Blk.new wr 160 #[.int .u64 m.pos, .int .i64 m.count, .int .i64 m.at_]
   generalize wr.alloc (.cells #[.int .u64 m.pos, .int .i64 m.count, .int .i64 m.at_] 160) = W1 at *
   have HBX := hid hBX
   refine (varint_putI W1 (P3.out.later hW) (m.pos - pp) (by omega) (by simp only [List.length_append]; omega) (by simp only [List.length_append]; omega)).mono ?_
   rintro r w4 ⟨rfl, hs4⟩
   have HW := hid hW
   have B4 := hs4.blk HBX.out HNO.out
   have HS4 := hid hs4
   have y1 : w4.cell? ⟨wr.heap.size, 1, none⟩ = some (.int .i64 m.count) := B4.cell 1
   have e1 : m.count % 18446744073709551616 = m.count := by omega
   clear hs4 B4 hW hBX
   go_wp2_with fail
   obtain ⟨a4, c4, p4, k4⟩ := HS4.out.at
   refine (varint_putI w4 p4 m.count (by omega) (by simp only [List.length_append]; omega) (by simp only [List.length_append]; omega)).mono ?_
   rintro r w5 ⟨rfl, hs5⟩
   have hs5 := k4 _ _ hs5
   have B5 := hs5.blk HBX.out HNO.out
   have HS5 := hid hs5
   have y2 : w5.cell? ⟨wr.heap.size, 2, none⟩ = some (.int .i64 m.at_) := B5.cell 2
   have e2 : (m.at_ - aa - 1) % 18446744073709551616 = m.at_ - aa - 1 := by omega
   clear hs5 B5 p4 k4 y1
   go_wp2_with fail
   obtain ⟨a5, c5, p5, k5⟩ := HS5.out.at
   refine (varint_putI w5 p5 (m.at_ - aa - 1) (by omega) (by simp only [List.length_append]; omega) (by simp only [List.length_append]; omega)).mono ?_
   rintro r w6 ⟨rfl, hs6⟩
   have hs6 := k5 _ _ hs6
   have hbox := hs6.blk HBX.out HNO.out
   have HS6 := hid (K3.out _ _ (PenStep.later HW.out hs6))
   have HE := hid (fun s : Later w6 => index_end m hN.p.1 ⟨by omega, by omega⟩ (by omega) s.at_)
   have Y0 := fun s : Later w6 => s.cell (hbox.cell 0)
   have Y1 := fun s : Later w6 => s.cell (hbox.cell 1)
   have Y2 := fun s : Later w6 => s.cell (hbox.cell 2)
   simp at Y0 Y1 Y2
   have hx0 : 0 ≤ m.pos + m.count := by omega
   have hx1 : 0 ≤ m.at_ := by omega
   clear hs6 hbox p5 k5 y2 e2 e1 hlen hN
   go_wp2_with fail
   refine wp_region_later (by kernel_rfl) (by kernel_rfl) ?_
   repeat (go_big_quiet_step ((go_at_call 262; exact later_of (HE.out _))))
   refine wpQuiet_nil ?_
   rintro W5 ⟨⟨W5', hb5⟩, rfl⟩
   go_wp2
   have hst7 := HS6.out.at
   obtain ⟨a7, c7, p7, k7⟩ := hst7
   have HS7 := hid (k7 _ _ (PenStep.refl (p7.later hb5) |> fun h => PenStep.later hb5 h))
   go_roundw
   case rel => exact ⟨k + 1, _, _, D ++ (varB (m.pos - pp).toNat ++ (varB m.count.toNat ++ varB (m.at_ - aa - 1).toNat)), by omega, by go_num, rfl, rfl, hx0, hx1, HRI2, hid (by rw [hD.out, hms.out]; simp), by simpa using HS7⟩
   case measure => simp [intOf]; omega
  ·obtain rfl : k = l.length := by omega
   have hff : Hid (indexB l = D) := hid (by rw [hD.out, List.drop_length]; simp [marksB])
   go_wp2
   first | go_end0 | refine bodyPost_ret (results_none rfl _ _ _) rfl ?_
   exact ⟨rfl, by rw [hff.out]; exact HST.out⟩
end Go.Proofs.YtkipiefcnjfdjaaGreat
namespace Go.Bs
open Go.RowKit
def endsM (l : List MarkD) : Int × Int := match l.head?, l.getLast? with
 | some a, some b => (a.pos, b.pos + b.count)
 | _, _ => (0, 0)
theorem endsM_some {l : List MarkD} (h : 0 < l.length) : endsM l = (l[0].pos, (l[l.length - 1]'(by omega)).pos + (l[l.length - 1]'(by omega)).count) := by
 unfold endsM
 rw [List.head?_eq_getElem?, List.getLast?_eq_getElem?, List.getElem?_eq_getElem h, List.getElem?_eq_getElem (by omega)]
end Go.Bs
namespace Go.Proofs.YtkipiefcnjfdjaaGreat
open Go.RowKit Go.Bs Go.Maps
set_option linter.unusedVariables false
set_option linter.unusedSimpArgs false
set_option maxRecDepth 100000 in
set_option maxHeartbeats 1600000 in
theorem index_bytes (w : World) (l : List MarkD) (al : Option Addr) (nl cl : Nat) (hl : rMarks.r (· < w.heap.size) w [.slice al nl cl] l) (hR : marksR l = true) :
  Calls Tryz.prog 176 #[.slice al nl cl] w fun r w' => ∃ x, r = .returned (.tuple #[x, .int .i64 0]) ∧ rBytes.r (fun q => w.heap.size ≤ q ∧ q < w'.heap.size) w' [x] (indexB l) ∧ Below w.heap.size w w' := by
 obtain ⟨rfl, _, _, _⟩ := sl_len hl
 have hlb : (indexB l).length ≤ 1024 := by
  have h1 := (varB_len l.length).1
  have h2 := marksB_len l 0 0
  have h3 := hR
  simp only [marksR, Bool.and_eq_true, decide_eq_true_eq] at h3
  simp only [indexB, List.length_append]
  omega
 have HN := hid (fun W : World => pen_new W 1024 (by omega))
 have HP := hid (fun (W : World) (g : Nat) (h : PenAt W g g 1024 [] none 0) (h1 : rMarks.r (fun q => q < W.heap.size ∧ ¬ PenF g none q) W [.slice al l.length cl] l) => index_put W h l al _ cl h1 hR (by simpa using hlb) (by simp; omega))
 have HD := hid hl
 generalize indexB l = K at *
 clear hl hR
 go_enter Tryz.func176, Tryz.ntmps176
 go_wp2_with fail
 refine (HN.out w).mono ?_
 rintro r w2 ⟨rfl, hp2, hb2⟩
 have hz2 := hb2.size
 have HQ := hid (HP.out w2 _ hp2 (rMarks.mono (rMarks.keep HD.out fun q hq => hb2.block q hq) fun q hq => ⟨by omega, by rw [penF_is]; rintro (e | e); omega; cases e⟩))
 clear hp2
 go_wp2_with fail
 refine HQ.out.mono ?_
 rintro r w3 ⟨rfl, hs3⟩
 have K3 : Hid (PenOk w2 w.heap.size 1024 K w3) := hid hs3
 clear hs3 HQ
 go_wp2_with fail
 obtain ⟨a7, b7, p7, k7, _⟩ := K3.out.at
 refine (pen_bytes w3 p7).mono ?_
 rintro r w8 ⟨x, rfl, hr, hb8⟩
 have hbw := K3.out.below hb2 (by omega)
 have HR := hid hr
 clear hr k7 p7
 go_wp2
 go_ret2
 exact ⟨_, rfl, rBytes.mono HR.out fun q hq => ⟨by have := hbw.size; omega, hq.2⟩, below_then hb8 hbw⟩
set_option maxRecDepth 100000 in
set_option maxHeartbeats 1600000 in
theorem index_entries (w : World) (l : List MarkD) (al : Option Addr) (nl cl : Nat) (hl : rMarks.r (· < w.heap.size) w [.slice al nl cl] l) (hR : marksR l = true) :
  Calls Tryz.prog 226 #[.slice al nl cl] w fun r w' => r = .returned (.int .i64 (countM l)) ∧ Below w.heap.size w w' := by
 obtain ⟨rfl, hm, _, _⟩ := sl_len hl
 have HR := hid (index_right l al _ cl w hl)
 rw [hR] at HR
 simp only [marksR, Bool.and_eq_true, decide_eq_true_eq] at hR
 have HM := hid (fun m hm => riseM_mem l 0 0 hR.1 m hm)
 have HL := hid hl
 have h16 := hR.2
 clear hl hR
 go_enter Tryz.func226, Tryz.ntmps226
 go_wp2_with fail
 refine HR.out.mono ?_
 rintro r w1 ⟨rfl, hb1⟩
 go_wp2_with fail
 go_loopw [3, 11] (fun n i wr => ∃ (k : Nat) (s : Int), k ≤ l.length ∧ i = .int .i64 k ∧ n = .int .i64 s ∧ Hid (countM (l.take k) = s) ∧ 0 ≤ s ∧ s ≤ 16 * k ∧ Below w.heap.size w wr) (fun _ i _ => l.length - (intOf i).toNat)
 case atStart => exact ⟨0, 0, Nat.zero_le _, rfl, rfl, hid rfl, by omega, by omega, hb1⟩
 case round =>
  obtain ⟨k, s, hk, rfl, rfl, hf, hs0, hs1, hb⟩ := hrel
  by_cases hlt : k < l.length
  ·obtain ⟨b, o, hA, hbb, x0, x1, x2, hN⟩ := mark_at (lift HL.out hb) hlt
   subst hA
   have hst := hid (countM_step l k hlt)
   obtain ⟨g1, g2, _⟩ := HM.out _ (List.getElem_mem hlt)
   generalize l[k] = m at *
   have i1 : (k : Int) < (l.length : Int) := by omega
   go_wp2
   go_roundw
   case rel => exact ⟨k + 1, _, by omega, by go_num, rfl, hid (by rw [hst.out, hf.out]), by omega, by omega, by (repeat first | exact zR | assumption | apply zA | apply zS | apply zD | apply zN | refine zT (by assumption) ?_ | omega | simp <;> omega)⟩
   case measure => simp [intOf]; omega
  ·obtain rfl : k = l.length := by omega
   have hff : Hid (countM l = s) := hid (by rw [← hf.out, List.take_length])
   go_wp2
   go_ret
   exact ⟨by rw [hff.out]; rfl, hb⟩
set_option maxRecDepth 100000 in
set_option maxHeartbeats 1600000 in
theorem index_ends (w : World) (l : List MarkD) (al : Option Addr) (nl cl : Nat) (hl : rMarks.r (· < w.heap.size) w [.slice al nl cl] l) (hR : marksR l = true) :
  Calls Tryz.prog 227 #[.slice al nl cl] w fun r w' => r = .returned (.tuple #[.int .u64 (endsM l).1, .int .u64 (endsM l).2]) ∧ Below w.heap.size w w' := by
 obtain ⟨rfl, hm, _, _⟩ := sl_len hl
 rcases Nat.eq_zero_or_pos l.length with h0 | h0
 ·obtain rfl := List.eq_nil_of_length_eq_zero h0
  clear hl h0
  go_enter Tryz.func227, Tryz.ntmps227
  go_wp2
  go_ret2
  exact ⟨rfl, by (repeat first | exact zR | assumption | apply zA | apply zS | apply zD | apply zN | refine zT (by assumption) ?_ | omega | simp <;> omega)⟩
 ·have HR := hid (index_right l al _ cl w hl)
  rw [hR] at HR
  simp only [marksR, Bool.and_eq_true, decide_eq_true_eq] at hR
  have HL := hid hl
  have hen := hid (endsM_some h0)
  obtain ⟨b, o, hA, hbb, x0, _, _, hN⟩ := mark_at hl h0
  obtain ⟨b2, o2, hA2, hbb2, z0, z1, z2, hN2⟩ := mark_at (i := l.length - 1) hl (by omega)
  subst hA
  simp only [Option.some.injEq, Addr.mk.injEq, and_true] at hA2
  obtain ⟨rfl, rfl⟩ := hA2
  obtain ⟨g1, g2, g3⟩ := riseM_mem l 0 0 hR.1 _ (List.getElem_mem (show l.length - 1 < l.length by omega))
  generalize l[0] = m0 at *
  generalize l[l.length - 1] = m1 at *
  simp only [Nat.zero_mul, Nat.add_zero] at x0
  obtain ⟨n, hn⟩ : ∃ n, l.length = n + 1 := ⟨l.length - 1, by omega⟩
  generalize endsM l = E at *
  clear hl hR hbb2 HL
  generalize l.length = L at *
  subst hn
  simp only [Nat.add_sub_cancel] at z0 z1 z2
  have hE := hen.out
  subst hE
  dsimp only
  have d0 : (((n + 1 : Nat) : Int) == 0) = false := beq_eq_false_iff_ne.2 (by omega)
  have d1 : ((n + 1 : Nat) : Int) = (n : Int) + 1 := by omega
  rw [d1] at d0
  have hw : wrap64 (n : Int) = n := by
   unfold wrap64; omega
  have i1 : (n : Int) < (n : Int) + 1 := by omega
  have i0 : (0 : Int) < (n : Int) + 1 := by omega
  clear hen
  go_enter Tryz.func227, Tryz.ntmps227
  go_wp2_with fail
  refine HR.out.mono ?_
  rintro r w1 ⟨rfl, hb1⟩
  have HE := hid (fun s : Later w1 => index_end m1 hN2.p.1 ⟨by omega, by omega⟩ (by omega) s.at_)
  have Y0 := fun s : Later w1 => s.cell ((hb1.cell (p := ⟨b, o, none⟩) hbb).trans x0)
  have Y1 := fun s : Later w1 => s.cell ((hb1.cell (p := ⟨b, o + n * 3, none⟩) hbb).trans z0)
  have Y2 := fun s : Later w1 => s.cell ((hb1.cell (p := ⟨b, o + n * 3 + 1, none⟩) hbb).trans z1)
  have Y3 := fun s : Later w1 => s.cell ((hb1.cell (p := ⟨b, o + n * 3 + 2, none⟩) hbb).trans z2)
  go_wp2_with fail
  refine wp_region_later (by kernel_rfl) (by kernel_rfl) ?_
  repeat (go_big_quiet_step ((go_at_call 262; exact later_of (HE.out _))))
  refine wpQuiet_nil ?_
  rintro W5 ⟨⟨W5', hb5⟩, rfl⟩
  go_wp2
  go_ret2
  exact ⟨rfl, below_then hb5 hb1⟩
end Go.Proofs.YtkipiefcnjfdjaaGreat
namespace Go.Bs
open Go.RowKit
set_option linter.unusedVariables false
structure FootD where
 ep : Int
 n : Int
 en : Int
 first : Int
 fin : Int
 at_ : Int
 size : Int
def FootD.val (f : FootD) : Array Value := #[.int .u64 f.ep, .int .i64 f.n, .int .i64 f.en, .int .u64 f.first, .int .u64 f.fin, .int .i64 f.at_, .int .i64 f.size]
structure FootR (f : FootD) : Prop where
 ep : epR f.ep = true
 n0 : 0 ≤ f.n
 n1 : f.n ≤ 16
 en0 : f.n ≤ f.en
 en1 : f.en ≤ f.n * 16
 at0 : 1 ≤ f.at_
 at1 : f.at_ ≤ 1099511627775
 sz0 : 1 ≤ f.size
 sz1 : f.size ≤ 2097152
 sp : if f.n = 0 then f.first = 0 ∧ f.fin = 0 else 0 ≤ f.first ∧ f.first < f.fin ∧ f.fin ≤ 4611686018427387904 ∧ f.en ≤ f.fin - f.first
def FootD.nums (f : FootD) : List Int := [f.n, f.en, f.first, f.fin, f.at_, f.size]
theorem FootR.nums {f : FootD} (h : FootR f) : ∀ x ∈ f.nums, 0 ≤ x ∧ x ≤ 18446744073709551615 := by
 obtain ⟨_, h1, h2, h3, h4, h5, h6, h7, h8, h9⟩ := h
 intro x hx
 simp only [FootD.nums, List.mem_cons, List.not_mem_nil, or_false] at hx
 split at h9 <;> rcases hx with rfl | rfl | rfl | rfl | rfl | rfl <;> omega
end Go.Bs
namespace Go.Proofs.YtkipiefcnjfdjaaGreat
open Go.RowKit Go.Bs Go.Maps
set_option linter.unusedVariables false
set_option linter.unusedSimpArgs false
def footP (f : FootD) : List UInt8 := [3] ++ varB f.ep.toNat ++ numsB f.nums
theorem footP_len (f : FootD) : (footP f).length ≤ 71 := by
 have h1 := (varB_len f.ep.toNat).1
 have h2 := numsB_len f.nums
 simp only [footP, List.length_append, List.length_cons, List.length_nil, FootD.nums] at h2 ⊢
 omega
theorem footer_spans (f : FootD) (hR : FootR f) (w : World) :
  Calls Tryz.prog 282 #[.agg f.val] w fun r w' => r = .returned (.bool true) ∧ Below w.heap.size w w' := by
 obtain ⟨_, h1, h2, h3, h4, h5, h6, h7, h8, h9⟩ := hR
 obtain ⟨ep, n, en, fi, fe, a, s⟩ := f
 dsimp only [FootD.val] at *
 by_cases h0 : n = 0
 ·subst h0
  rw [if_pos rfl] at h9
  obtain ⟨rfl, rfl⟩ := h9
  clear h1 h2 h3 h4 h5 h6 h7 h8
  go_enter Tryz.func282, Tryz.ntmps282
  go_wp2
  go_ret
  exact ⟨rfl, by (repeat first | exact zR | assumption | apply zA | apply zS | apply zD | apply zN | refine zT (by assumption) ?_ | omega | simp <;> omega)⟩
 ·rw [if_neg h0] at h9
  have d0 : (n == 0) = false := beq_eq_false_iff_ne.2 h0
  have d1 : decide (fi < fe) = true := decide_eq_true (by omega)
  have d2 : decide (fe ≤ 4611686018427387904) = true := decide_eq_true (by omega)
  have d3 : decide (en ≤ fe - fi) = true := decide_eq_true (by omega)
  have e1 : en % 18446744073709551616 = en := by omega
  have e2 : 0 ≤ fe - fi ∧ fe - fi ≤ 18446744073709551615 := by omega
  go_enter Tryz.func282, Tryz.ntmps282
  go_wp2
  go_ret
  exact ⟨rfl, by (repeat first | exact zR | assumption | apply zA | apply zS | apply zD | apply zN | refine zT (by assumption) ?_ | omega | simp <;> omega)⟩
set_option maxRecDepth 100000 in
set_option maxHeartbeats 1600000 in
theorem footer_right (f : FootD) (hR : FootR f) (w : World) :
  Calls Tryz.prog 263 #[.agg f.val] w fun r w' => r = .returned (.bool true) ∧ Below w.heap.size w w' := by
 have HS := hid (fun W : World => footer_spans f hR W)
 obtain ⟨h0, h1, h2, h3, h4, h5, h6, h7, h8, _⟩ := hR
 obtain ⟨ep, n, en, fi, fe, a, s⟩ := f
 dsimp only [FootD.val] at *
 have HE := hid (epoch_right ep)
 rw [h0] at HE
 have d1 : decide (0 ≤ n) = true := decide_eq_true h1
 have d2 : decide (n ≤ 16) = true := decide_eq_true h2
 have d3 : decide (n ≤ en) = true := decide_eq_true h3
 have d4 : decide (en ≤ n * 16) = true := decide_eq_true h4
 have d5 : decide (1 ≤ a) = true := decide_eq_true h5
 have d6 : decide (a ≤ 1099511627775) = true := decide_eq_true h6
 have d7 : decide (1 ≤ s) = true := decide_eq_true h7
 have d8 : decide (s ≤ 2097152) = true := decide_eq_true h8
 clear h0
 go_enter Tryz.func263, Tryz.ntmps263
 go_wp2_with fail
 refine (HE.out _).mono ?_
 rintro r w1 ⟨rfl, rfl⟩
 go_wp2_with fail
 refine (HS.out _).mono ?_
 rintro r w1 ⟨rfl, hb1⟩
 go_wp2
 go_ret
 exact ⟨rfl, by (repeat first | exact zR | assumption | apply zA | apply zS | apply zD | apply zN | refine zT (by assumption) ?_ | omega | simp <;> omega)⟩
set_option maxRecDepth 100000 in
set_option maxHeartbeats 3200000 in
theorem footer_payload (f : FootD) (hR : FootR f) (w : World) :
  Calls Tryz.prog 228 #[.agg f.val] w fun r w' => ∃ x, r = .returned (.tuple #[x, .int .i64 0]) ∧ rBytes.r (fun q => w.heap.size ≤ q ∧ q < w'.heap.size) w' [x] (footP f) ∧ Below w.heap.size w w' := by
 have HRT := hid (fun W : World => footer_right f hR W)
 have HNB := hid hR.nums
 have hpl := footP_len f
 have hpe : Hid (footP f = [3] ++ varB f.ep.toNat ++ numsB f.nums) := hid rfl
 have hep := hR.ep
 have hep' := hep
 simp only [epR, decide_eq_true_eq] at hep'
 obtain ⟨_, h1, h2, h3, h4, h5, h6, h7, h8, _⟩ := hR
 have hvl := (varB_len f.ep.toNat).1
 have hnl : Hid (f.nums.length = 6) := hid rfl
 have hcs : Hid ((u64Cells f.nums).toArray = #[.int .u64 f.n, .int .u64 f.en, .int .u64 f.first, .int .u64 f.fin, .int .u64 f.at_, .int .u64 f.size]) := hid rfl
 have hst := hid (fun k h => numsB_step f.nums k h)
 have hle : Hid (∀ k (h : k < f.nums.length), (numsB (f.nums.take k)).length + (varB (f.nums[k]'h).toNat).length ≤ 60) := hid fun k h => by
  have e := congrArg List.length (numsB_step f.nums k h)
  have e2 := numsB_len (f.nums.take (k + 1))
  rw [List.length_append] at e
  have e3 : (f.nums.take (k + 1)).length ≤ 6 := by rw [List.length_take]; simp [FootD.nums]; omega
  omega
 generalize footP f = K at *
 generalize f.nums = xs at *
 obtain ⟨ep, n, en, fi, fe, at_, s⟩ := f
 dsimp only [FootD.val] at *
 have e1 : n % 18446744073709551616 = n := by omega
 have e2 : en % 18446744073709551616 = en := by omega
 have e3 : at_ % 18446744073709551616 = at_ := by omega
 have e4 : s % 18446744073709551616 = s := by omega
 have HN := hid (fun W : World => pen_new W 80 (by omega))
 go_enter Tryz.func228, Tryz.ntmps228
 go_wp2_with fail
 refine (HN.out _).mono ?_
 rintro r w2 ⟨rfl, hp2, hb2⟩
 have hbox := (Blk.new w 91 #[.int .u64 ep, .int .i64 n, .int .i64 en, .int .u64 fi, .int .u64 fe, .int .i64 at_, .int .i64 s]).later hb2
 have hbw2 : Below w.heap.size w w2 := by (repeat first | exact zR | assumption | apply zA | apply zS | apply zD | apply zN | refine zT (by assumption) ?_ | omega | simp <;> omega)
 have c0 : w2.cell? ⟨w.heap.size, 0, none⟩ = some (.int .u64 ep) := hbox.cell 0
 have c1 : w2.cell? ⟨w.heap.size, 1, none⟩ = some (.int .i64 n) := hbox.cell 1
 have c2 : w2.cell? ⟨w.heap.size, 2, none⟩ = some (.int .i64 en) := hbox.cell 2
 have c3 : w2.cell? ⟨w.heap.size, 3, none⟩ = some (.int .u64 fi) := hbox.cell 3
 have c4 : w2.cell? ⟨w.heap.size, 4, none⟩ = some (.int .u64 fe) := hbox.cell 4
 have c5 : w2.cell? ⟨w.heap.size, 5, none⟩ = some (.int .i64 at_) := hbox.cell 5
 have c6 : w2.cell? ⟨w.heap.size, 6, none⟩ = some (.int .i64 s) := hbox.cell 6
 have HBX := hid hbox
 have HBW2 := hid hbw2
 have K2 := hid (PenOk.new hp2)
 generalize hg : (w.alloc (.cells #[.int .u64 ep, .int .i64 n, .int .i64 en, .int .u64 fi, .int .u64 fe, .int .i64 at_, .int .i64 s] 91)).heap.size = g at *
 have hgw : w.heap.size < g := by rw [← hg]; simp
 have hg2 : g ≤ w2.heap.size := by rw [← hg]; exact hb2.size
 clear hbox hbw2 hp2 hb2 hg
 go_wp2_with fail
 refine (HRT.out _).mono ?_
 rintro r w3 ⟨rfl, hb3⟩
 have K3 := hid (K2.out.later hb3)
 clear c0 c1 c2 c3 c4 c5 c6
 go_wp2_with fail
 obtain ⟨a3, b3, p3, k3, _⟩ := K3.out.at
 have hW : Below w3.heap.size w3 (w3.alloc (.cells #[.int .u8 3] 5)) := by (repeat first | exact zR | assumption | apply zA | apply zS | apply zD | apply zN | refine zT (by assumption) ?_ | omega | simp <;> omega)
 have hlit := lit_byte w3 3 (by omega)
 simp only [Int.cast_ofNat_Int] at hlit
 generalize w3.alloc (.cells #[.int .u8 3] 5) = W3 at *
 refine (pen_put W3 (p3.later hW) [3] _ 1 1 hlit (by simp) (by simp)).mono ?_
 rintro r w4 ⟨rfl, hs4⟩
 have K4 := hid (k3 (PenStep.later hW hs4))
 have q4 := K4.out.blk HBX.out (by omega)
 have c0 : w4.cell? ⟨w.heap.size, 0, none⟩ = some (.int .u64 ep) := q4.cell 0
 clear k3 hs4 hW hlit p3 q4
 go_wp2_with fail
 obtain ⟨a4, b4, p4, k4, _⟩ := K4.out.at
 have HEP : Hid (ep = (ep.toNat : Int)) := hid (by omega)
 refine ((by have := epoch_put w4 p4 ep.toNat (by rw [← HEP.out]; exact hep) (by simp; omega) (by simp; omega); rw [← HEP.out] at this; exact this : Calls Tryz.prog 71 #[.pointer (some ⟨g, 0, none⟩), .int .u64 ep] w4 fun r w' => r = .returned (.tuple #[]) ∧ PenStep w4 g g 80 (([] ++ [3]) ++ varB ep.toNat) a4 w')).mono ?_
 rintro r w5 ⟨rfl, hs5⟩
 have K5 := hid (k4 hs5)
 have q5 := K5.out.blk HBX.out (by omega)
 have c1 : w5.cell? ⟨w.heap.size, 1, none⟩ = some (.int .i64 n) := q5.cell 1
 have c2 : w5.cell? ⟨w.heap.size, 2, none⟩ = some (.int .i64 en) := q5.cell 2
 have c3 : w5.cell? ⟨w.heap.size, 3, none⟩ = some (.int .u64 fi) := q5.cell 3
 have c4 : w5.cell? ⟨w.heap.size, 4, none⟩ = some (.int .u64 fe) := q5.cell 4
 have c5 : w5.cell? ⟨w.heap.size, 5, none⟩ = some (.int .i64 at_) := q5.cell 5
 have c6 : w5.cell? ⟨w.heap.size, 6, none⟩ = some (.int .i64 s) := q5.cell 6
 clear k4 hs5 p4 q5 c0
 go_wp2_with fail
 refine wp_world (fun W => Below w5.heap.size w5 W ∧ Blk W w5.heap.size 22 (u64Cells xs).toArray) ⟨by (repeat first | exact zR | assumption | apply zA | apply zS | apply zD | apply zN | refine zT (by assumption) ?_ | omega | simp <;> omega), by rw [hcs.out]; exact Blk.new _ _ _⟩ ?_
 rintro W ⟨hW, hB⟩
 obtain ⟨a5, b5, p5, k5, _⟩ := K5.out.at
 have HW := hid hW
 have HB := hid hB
 have HNO : Hid (¬ PenF g a5 w5.heap.size) := hid fun hf => by have := (p5.own_lt hf).2; omega
 have HK5 := hid (fun (J' : List UInt8) (w' : World) (h : PenStep W g g 80 J' a5 w') => k5 (PenStep.later hW h))
 have HP5 := hid (p5.later hW)
 clear c1 c2 c3 c4 c5 c6 k5 hW hB p5
 go_loopw [38] (fun i wr => ∃ k : Nat, k ≤ 6 ∧ i = .int .i64 k ∧ Hid (PenStep W g g 80 (([] ++ [3]) ++ varB ep.toNat ++ numsB (xs.take k)) a5 wr)) (fun i _ => 6 - (intOf i).toNat)
 case atStart => exact ⟨0, Nat.zero_le _, rfl, hid (by simpa [numsB] using PenStep.refl HP5.out)⟩
 case round =>
  obtain ⟨k, hk, rfl, HST⟩ := hrel
  by_cases hlt : k < 6
  ·have hkx : k < xs.length := by rw [hnl.out]; exact hlt
   have x0 : wr.cell? ⟨w5.heap.size, k, none⟩ = some (.int .u64 xs[k]) := by
    refine ((HST.out.blk HB.out HNO.out).cell k).trans ?_
    simp [u64Cells, hkx]
   have HS := hid (hst.out k hkx)
   have hl := hle.out k hkx
   have hb := HNB.out _ (List.getElem_mem hkx)
   generalize xs[k] = x at *
   have i1 : (k : Int) < 6 := by omega
   obtain ⟨a7, b7, p7, k7⟩ := HST.out.at
   have HV := hid (varint_putI wr p7 x hb (by simp; omega) (by simp; omega))
   have HK7 := hid k7
   clear p7 k7
   go_wp2_with fail
   refine HV.out.mono ?_
   rintro r w7 ⟨rfl, hs7⟩
   have HS7 := hid (HK7.out _ _ hs7)
   clear hs7
   go_wp2
   go_roundw
   case rel => exact ⟨k + 1, by omega, by go_num, hid (by rw [HS.out]; have := HS7.out; rw [List.append_assoc] at this; exact this)⟩
   case measure => simp [intOf]; omega
  ·obtain rfl : k = 6 := by omega
   have K6 : Hid (PenOk w2 g 80 K wr) := hid (by
    have h := HK5.out _ _ HST.out
    rw [List.take_of_length_le (by rw [hnl.out]; omega), List.nil_append, ← hpe.out] at h
    exact h)
   go_wp2_with fail
   obtain ⟨a7, b7, p7, k7, _⟩ := K6.out.at
   refine (pen_bytes wr p7).mono ?_
   rintro r w8 ⟨x, rfl, hr, hb8⟩
   have hbw := K6.out.below HBW2.out (by omega)
   have HR := hid hr
   clear hr k7 p7
   go_wp2
   go_ret2
   exact ⟨_, rfl, rBytes.mono HR.out fun q hq => ⟨by have := hbw.size; omega, hq.2⟩, below_then hb8 hbw⟩
end Go.Proofs.YtkipiefcnjfdjaaGreat
namespace Go.Proofs.YtkipiefcnjfdjaaGreat
open Go.RowKit Go.Bs Go.Maps
set_option linter.unusedVariables false
set_option linter.unusedSimpArgs false
def trailB (n : Nat) : List UInt8 := fixedB 4 n ++ (fixedB 4 (crcSum (fixedB 4 n)) ++ [76, 79, 72, 84])
theorem trailB_len (n : Nat) : (trailB n).length = 12 := by simp [trailB, fixedB_len]
def footB (f : FootD) : List UInt8 := frameB (footP f) ++ trailB (frameB (footP f)).length
theorem footer_size (w : World) : Calls Tryz.prog 241 #[] w fun r w' => r = .returned (.int .i64 12) ∧ w = w' := by
 go_enter Tryz.func241, Tryz.ntmps241
 go_wp2
 go_ret
 exact ⟨rfl, rfl⟩
set_option maxRecDepth 100000 in
set_option maxHeartbeats 1600000 in
theorem footer_trailer (n : Nat) (hn : n < 18446744073709551616) (w : World) :
  Calls Tryz.prog 229 #[.int .i64 n] w fun r w' => ∃ x, r = .returned x ∧ rBytes.r (fun q => w.heap.size ≤ q ∧ q < w'.heap.size) w' [x] (trailB n) ∧ Below w.heap.size w w' := by
 have hff : Hid (trailB n = ([] ++ fixedB 4 n) ++ fixedB 4 (crcSum (fixedB 4 n)) ++ [76, 79, 72, 84]) := hid (by simp [trailB])
 have HF := hid (fun W : World => pen_fixed n hn 4 (by omega) W)
 have hfl := fixedB_len 4 n
 have HC := hid (fun (W : World) (a : Option Addr) (n' c : Nat) h => crc_sum (fixedB 4 n) a n' c W h)
 have HL := crcSum_lt (fixedB 4 n)
 have HN := hid (fun W : World => pen_new W 12 (by omega))
 have e1 : (n : Int) % 18446744073709551616 = n := by omega
 generalize trailB n = K at *
 generalize crcSum (fixedB 4 n) = s at *
 generalize fixedB 4 n = D at *
 go_enter Tryz.func229, Tryz.ntmps229
 go_wp2_with fail
 refine (footer_size _).mono ?_
 rintro r w1 ⟨rfl, rfl⟩
 go_wp2_with fail
 refine (HN.out w).mono ?_
 rintro r w2 ⟨rfl, hp2, hb2⟩
 have HP2 := hid hp2
 have hz2 := hp2.blk.lt
 clear hp2
 go_wp2_with fail
 refine (HF.out _).mono ?_
 rintro r w3 ⟨v, rfl, ho, hb3⟩
 obtain ⟨a, c, rfl⟩ := own_form ho
 have hr := own_bytes2 (l := D) hfl.symm ho
 have HR := hid hr
 have hbw3 := hid (below_then hb3 hb2)
 have HP3 := hid (HP2.out.later hb3)
 clear ho hr
 go_wp2_with fail
 refine (pen_put w3 HP3.out D a _ c (rBytes.mono (S' := (· < w3.heap.size)) HR.out fun q hq => hq.2) (by simp; omega) (by simp; omega)).mono ?_
 rintro r w4 ⟨rfl, hs4⟩
 have K4 : Hid (PenOk w3 w.heap.size 12 ([] ++ D) w4) := hid hs4
 have ht4 := K4.out.tch
 have hs4' := ht4.size
 have HR4 := hid (rBytes.mono (S' := (· < w4.heap.size)) (rBytes.keep HR.out fun q hq => ht4.block q hq.2 (by omega)) fun q hq => by omega)
 clear hs4 ht4
 go_wp2_with fail
 refine (HC.out w4 a _ c HR4.out).mono ?_
 rintro r w5 ⟨rfl, hb5⟩
 have K5 := hid (K4.out.later hb5)
 have e2 : (s : Int) % 18446744073709551616 = s := by omega
 go_wp2_with fail
 obtain ⟨a5, b5, p5, k5, _⟩ := K5.out.at
 refine (pen_wfixed w5 p5 s (by omega) 4 (by omega) (by simp; omega) (by simp; omega)).mono ?_
 rintro r w6 ⟨rfl, hs6⟩
 have K6 := hid (k5 hs6)
 have hl6 := fixedB_len 4 s
 clear hs6 k5 p5
 go_wp2_with fail
 obtain ⟨a6, b6, p6, k6, _⟩ := K6.out.at
 refine (pen_text w6 p6 ⟨#[76, 79, 72, 84]⟩ (by decide) [76, 79, 72, 84] rfl (by simp; omega) (by simp; omega)).mono ?_
 rintro r w7 ⟨rfl, hs7⟩
 have k7 := k6 hs7
 rw [← hff.out] at k7
 have K7 := hid k7
 clear hs7 k6 p6 k7
 go_wp2_with fail
 obtain ⟨a7, b7, p7, k7, _⟩ := K7.out.at
 refine (pen_bytes w7 p7).mono ?_
 rintro r w8 ⟨x, rfl, hr, hb8⟩
 have hbw := K7.out.below hbw3.out (Nat.le_refl _)
 have HRR := hid hr
 clear hr k7 p7
 go_wp2
 go_ret
 exact ⟨_, rfl, rBytes.mono HRR.out fun q hq => ⟨by have := hbw.size; omega, hq.2⟩, below_then hb8 hbw⟩
set_option maxRecDepth 100000 in
set_option maxHeartbeats 1600000 in
theorem footer_bytes (f : FootD) (hR : FootR f) (w : World) :
  Calls Tryz.prog 178 #[.agg f.val] w fun r w' => ∃ x, r = .returned (.tuple #[x, .int .i64 0]) ∧ OwnB w' w.heap.size x (footB f) ∧ Below w.heap.size w w' := by
 obtain ⟨i0, hi, hz0, hz1, hz2⟩ := info_parts info8
 have HP := hid (fun W : World => footer_payload f hR W)
 have hpl := footP_len f
 have hfb : Hid (footB f = frameB (footP f) ++ trailB (frameB (footP f)).length) := hid rfl
 have hfl : (frameB (footP f)).length ≤ 100 := by
  rw [frameB_len, blobB_len]
  have := (varB_len (footP f).length).1
  omega
 have HF := hid (fun (W : World) (a : Option Addr) (n c : Nat) h => frame_bytes W (footP f) a n c h (by omega))
 have HT := hid (fun W : World => footer_trailer (frameB (footP f)).length (by omega) W)
 have htl : (trailB (frameB (footP f)).length).length ≤ 12 := by rw [trailB_len]; omega
 generalize footB f = K at *
 generalize trailB (frameB (footP f)).length = T at *
 generalize frameB (footP f) = D at *
 generalize footP f = P at *
 have hfv : f.val = #[.int .u64 f.ep, .int .i64 f.n, .int .i64 f.en, .int .u64 f.first, .int .u64 f.fin, .int .i64 f.at_, .int .i64 f.size] := rfl
 rw [hfv]
 rw [hfv] at HP
 clear hfv hR
 go_enter Tryz.func178, Tryz.ntmps178
 go_wp2_with fail
 refine (HP.out _).mono ?_
 rintro r w1 ⟨v, rfl, hr, hb1⟩
 obtain ⟨a1, c1, hv1, hr1, _⟩ := sl_form hr
 simp only [List.cons.injEq, and_true] at hv1
 subst hv1
 have HR := hid (rBytes.mono (S' := (· < w1.heap.size)) hr1 fun q hq => hq.2)
 have hbw1 : Below w.heap.size w w1 := by (repeat first | exact zR | assumption | apply zA | apply zS | apply zD | apply zN | refine zT (by assumption) ?_ | omega | simp <;> omega)
 clear hr hr1
 go_wp2_with fail
 refine (HF.out w1 a1 _ c1 HR.out).mono ?_
 rintro r w2 ⟨v, rfl, ho2, hb2⟩
 obtain ⟨a2, c2, rfl⟩ := ho2.form
 have hbw2 := below_then hb2 hbw1
 have HO2 := hid ho2
 clear ho2
 go_wp2_with fail
 refine (HT.out w2).mono ?_
 rintro r w3 ⟨v, rfl, hr3, hb3⟩
 obtain ⟨a3, c3, hv3, hr3', _⟩ := sl_form hr3
 simp only [List.cons.injEq, and_true] at hv3
 subst hv3
 have HS := hid (src_bytes (rBytes.mono (S' := (· < w3.heap.size)) hr3' fun q hq => hq.2))
 have HO3 : Hid (w3.ownsRow w.heap.size 5 1 (.slice a2 D.length c2) D.length (byteCells D)) := hid (own_below (HO2.out.low hbw1.size) hb3)
 have HONE := hid (byteCells_one T)
 have hbw3 := below_then hb3 hbw2
 have hz3 := hbw3.size
 clear hr3 hr3'
 go_wp2_with (at_builtin; go_loud (refine wpList_append_src rfl _ _ _ rfl w.heap.size 5 i0 (.int .u8 0) 1 1 Tryz.underlying28 hi hz0 hz1 hz2 rfl (by decide) (.slice a2 D.length c2) D.length (byteCells D) rfl HO3.out a3 T.length c3 (byteCells T) rfl HS.out HONE.out (by simp only [maxLen]; omega) (by omega) (by omega) ?_; intro v' w4 hown4 hgrow4 hat4; have HG := hid hgrow4; have HO4 := hid hown4; clear hgrow4 hown4 hat4))
 have hB : Below w.heap.size w w4 := Below.grown hbw3 HG.out (by omega) (fun g e => (HO3.out.lt g e).1)
 have hO := OwnB.app HO4.out
 rw [← hfb.out] at hO
 have HO := hid hO
 clear hO
 go_wp2
 go_ret2
 exact ⟨_, rfl, HO.out, hB⟩
def recB (k : UInt8) (D : List UInt8) : List UInt8 := frameB (k :: D)
set_option maxRecDepth 100000 in
set_option maxHeartbeats 1600000 in
theorem seg_record (k : Nat) (hk : k < 256) (D : List UInt8) (a : Option Addr) (n c : Nat) (w : World) (hl : rBytes.r (· < w.heap.size) w [.slice a n c] D) (hm : D.length + 1 ≤ 2097152) :
  Calls Tryz.prog 175 #[.int .u8 k, .slice a n c] w fun r w' => ∃ x, r = .returned x ∧ OwnB w' w.heap.size x (recB (UInt8.ofNat k) D) ∧ Below w.heap.size w w' := by
 obtain ⟨rfl, hlm, _, _⟩ := sl_len hl
 obtain ⟨i0, hi, hz0, hz1, hz2⟩ := info_parts info8
 have HF := hid (fun (W : World) (a : Option Addr) (n c : Nat) h => frame_bytes W (UInt8.ofNat k :: D) a n c h (by simp; omega))
 have hrb : Hid (recB (UInt8.ofNat k) D = frameB (UInt8.ofNat k :: D)) := hid rfl
 have hcl : Hid ([Value.int .u8 (k : Int)] ++ byteCells D = byteCells (UInt8.ofNat k :: D)) := hid (by
  rw [show (k : Int) = ((UInt8.ofNat k).toNat : Int) from byte_small hk]; rfl)
 have HS := hid (fun (W : World) (hW : Below w.heap.size w W) => src_bytes (lift hl hW))
 have HONE := hid (byteCells_one D)
 have HO := hid (own_new1 (w := w.alloc (.cells #[.int .u8 (k : Int)] 5)) (base := w.heap.size) (e := 5) (Nat.le_refl _) (World.alloc_heap_new w _))
 clear hl
 go_enter Tryz.func175, Tryz.ntmps175
 go_wp2_with (at_builtin; go_loud (refine wpList_append_src rfl _ _ _ rfl w.heap.size 5 i0 (.int .u8 0) 1 1 Tryz.underlying28 hi hz0 hz1 hz2 rfl (by decide) (.slice (some ⟨w.heap.size, 0, none⟩) 1 1) 1 _ rfl HO.out a D.length c (byteCells D) rfl (HS.out _ (by (repeat first | exact zR | assumption | apply zA | apply zS | apply zD | apply zN | refine zT (by assumption) ?_ | omega | simp <;> omega))) HONE.out (by simp only [maxLen]; omega) (by omega) (by simp) ?_; intro v' w1 hown1 hgrow1 hat1; obtain ⟨a', c', rfl⟩ := own_form hown1; have HG := hid hgrow1; have HO1 := hid hown1; clear hgrow1 hown1 hat1))
 have ho := HO1.out
 rw [hcl.out] at ho
 have hB : Below w.heap.size w w1 := Below.grown (by (repeat first | exact zR | assumption | apply zA | apply zS | apply zD | apply zN | refine zT (by assumption) ?_ | omega | simp <;> omega)) HG.out (by simp) (fun g e => (HO.out.lt g e).1)
 have HR1 := hid (own_bytes (l := UInt8.ofNat k :: D) (by simp; omega) ho)
 clear ho
 refine (HF.out w1 a' _ c' HR1.out).mono ?_
 rintro r w2 ⟨v, rfl, ho2, hb2⟩
 rw [← hrb.out] at ho2
 have HO2 := hid (ho2.low hB.size)
 clear ho2
 go_wp2
 go_ret
 exact ⟨_, rfl, HO2.out, below_then hb2 hB⟩
end Go.Proofs.YtkipiefcnjfdjaaGreat
namespace Go.Proofs.YtkipiefcnjfdjaaGreat
open Go.RowKit Go.Bs Go.Maps
set_option linter.unusedVariables false
set_option linter.unusedSimpArgs false
def markC (m : MarkD) : List Value := [.int .u64 m.pos, .int .i64 m.count, .int .i64 m.at_]
structure MarksAt (w : World) (base : Nat) (v : Value) (M : List MarkD) : Prop where
 own : w.ownsRow base 160 3 v M.length (M.map markC).flatten
 nat : ∀ m ∈ M, MarkN m
theorem MarksAt.nil {w : World} {base : Nat} : MarksAt w base (.slice none 0 0) [] := ⟨⟨rfl, .inl ⟨rfl, rfl⟩⟩, by simp⟩
theorem MarksAt.read {w : World} {base : Nat} {v : Value} {M : List MarkD} (h : MarksAt w base v M) : rMarks.r (fun q => base ≤ q ∧ q < w.heap.size) w [v] M :=
 OwnEls.slice (Nat.le_refl _) ⟨M.map markC, h.own, by simp, by intro cs hcs; obtain ⟨m, _, rfl⟩ := List.mem_map.1 hcs; rfl, fun i cs x hi hx => by
  rw [List.getElem?_map, hx] at hi
  simp at hi
  subst hi
  exact mark_mk (h.nat x (List.mem_of_getElem? hx))⟩
def footM (ep : Int) (M : List MarkD) (at_ size : Int) : FootD := ⟨ep, M.length, countM M, (endsM M).1, (endsM M).2, at_, size⟩
set_option maxRecDepth 100000 in
set_option maxHeartbeats 1600000 in
theorem seg_footOf (ep : Int) (M : List MarkD) (at_ size : Int) (al : Option Addr) (nl cl : Nat) (w : World) (hl : rMarks.r (· < w.heap.size) w [.slice al nl cl] M) (hR : marksR M = true) :
  Calls Tryz.prog 177 #[.int .u64 ep, .slice al nl cl, .int .i64 at_, .int .i64 size] w fun r w' => r = .returned (.agg (footM ep M at_ size).val) ∧ Below w.heap.size w w' := by
 obtain ⟨rfl, hm, _, _⟩ := sl_len hl
 have HE := hid (fun (W : World) (hW : Below w.heap.size w W) => index_entries W M al _ cl (lift hl hW) hR)
 have HN := hid (fun (W : World) (hW : Below w.heap.size w W) => index_ends W M al _ cl (lift hl hW) hR)
 have hff : Hid ((footM ep M at_ size).val = #[.int .u64 ep, .int .i64 M.length, .int .i64 (countM M), .int .u64 (endsM M).1, .int .u64 (endsM M).2, .int .i64 at_, .int .i64 size]) := hid rfl
 generalize countM M = n at *
 generalize (endsM M).1 = e1 at *
 generalize (endsM M).2 = e2 at *
 clear hl hR
 go_enter Tryz.func177, Tryz.ntmps177
 go_wp2_with fail
 refine (HE.out _ (by (repeat first | exact zR | assumption | apply zA | apply zS | apply zD | apply zN | refine zT (by assumption) ?_ | omega | simp <;> omega))).mono ?_
 rintro r w1 ⟨rfl, hb1⟩
 have hz1 : w.heap.size + 1 ≤ w1.heap.size := by have := hb1.size; simpa using this
 have q0 := (Blk.new w 91 #[.int .u64 0, .int .i64 0, .int .i64 0, .int .u64 0, .int .u64 0, .int .i64 0, .int .i64 0]).later hb1
 have hbw1 : Below w.heap.size w w1 := by (repeat first | exact zR | assumption | apply zA | apply zS | apply zD | apply zN | refine zT (by assumption) ?_ | omega | simp <;> omega)
 have Q0 := hid q0
 clear q0
 go_wp2_with fail
 refine (HN.out _ (by (repeat first | exact zR | assumption | apply zA | apply zS | apply zD | apply zN | refine zT (by assumption) ?_ | omega | simp <;> omega))).mono ?_
 rintro r w2 ⟨rfl, hb2⟩
 have hB := (Blk.new w1 91 #[.int .u64 ep, .int .i64 M.length, .int .i64 n, .int .u64 0, .int .u64 0, .int .i64 at_, .int .i64 size]).later hb2
 have hbw2 : Below w.heap.size w w2 := by (repeat first | exact zR | assumption | apply zA | apply zS | apply zD | apply zN | refine zT (by assumption) ?_ | omega | simp <;> omega)
 have hz12 : w1.heap.size < w2.heap.size := hB.lt
 have hB0 := Q0.out.later (below_then hb2 (by (repeat first | exact zR | assumption | apply zA | apply zS | apply zD | apply zN | refine zT (by assumption) ?_ | omega | simp <;> omega)))
 have c0 : w2.cell? ⟨w1.heap.size, 0, none⟩ = some (.int .u64 ep) := hB.cell 0
 have z0 : w2.cell? ⟨w.heap.size, 0, none⟩ = some (.int .u64 0) := hB0.cell 0
 have g0 := hB0.free 0
 have c1 : w2.cell? ⟨w1.heap.size, 1, none⟩ = some (.int .i64 M.length) := hB.cell 1
 have z1 : w2.cell? ⟨w.heap.size, 1, none⟩ = some (.int .i64 0) := hB0.cell 1
 have g1 := hB0.free 1
 have c2 : w2.cell? ⟨w1.heap.size, 2, none⟩ = some (.int .i64 n) := hB.cell 2
 have z2 : w2.cell? ⟨w.heap.size, 2, none⟩ = some (.int .i64 0) := hB0.cell 2
 have g2 := hB0.free 2
 have c3 : w2.cell? ⟨w1.heap.size, 3, none⟩ = some (.int .u64 0) := hB.cell 3
 have z3 : w2.cell? ⟨w.heap.size, 3, none⟩ = some (.int .u64 0) := hB0.cell 3
 have g3 := hB0.free 3
 have c4 : w2.cell? ⟨w1.heap.size, 4, none⟩ = some (.int .u64 0) := hB.cell 4
 have z4 : w2.cell? ⟨w.heap.size, 4, none⟩ = some (.int .u64 0) := hB0.cell 4
 have g4 := hB0.free 4
 have c5 : w2.cell? ⟨w1.heap.size, 5, none⟩ = some (.int .i64 at_) := hB.cell 5
 have z5 : w2.cell? ⟨w.heap.size, 5, none⟩ = some (.int .i64 0) := hB0.cell 5
 have g5 := hB0.free 5
 have c6 : w2.cell? ⟨w1.heap.size, 6, none⟩ = some (.int .i64 size) := hB.cell 6
 have z6 : w2.cell? ⟨w.heap.size, 6, none⟩ = some (.int .i64 0) := hB0.cell 6
 have g6 := hB0.free 6
 have f3 := hB.free 3
 have f4 := hB.free 4
 clear hB hB0
 go_wp2
 refine bodyPost_ret (v := .agg #[.int .u64 ep, .int .i64 M.length, .int .i64 n, .int .u64 e1, .int .u64 e2, .int .i64 at_, .int .i64 size]) (by simp [results, Tryz.results177, go_sem, World.cell?_setCell_far, z0, z1, z2, z3, z4, z5, z6]) rfl ⟨by rw [hff.out], by clear hb1 hb2 hbw1; (repeat (first | with_reducible exact Below.refl _ _ | with_reducible assumption | (with_reducible refine below_alloc ?_ _) | (with_reducible refine Below.setCell ?_ (by first | omega | (simp; done) | (simp; omega)) _) | (with_reducible refine Below.drew ?_) | (with_reducible refine below_drewN ?_ _) | (refine below_then (by with_reducible assumption) ?_)))⟩
end Go.Proofs.YtkipiefcnjfdjaaGreat
namespace Go.Proofs.YtkipiefcnjfdjaaGreat
open Go.RowKit Go.Bs Go.Maps
set_option linter.unusedVariables false
set_option linter.unusedSimpArgs false
theorem headsB_len (l : List Entry) (p : Int) (hR : entriesR p l = true) : (headsB p l).length ≤ 1000 * l.length := by
 induction l generalizing p with
 | nil => simp [headsB]
 | cons e l ih =>
  simp only [entriesR, Bool.and_eq_true] at hR
  have h1 := headN_le p e
  unfold headN at h1
  rw [if_pos hR.1] at h1
  have h2 := ih (p + 1) hR.2
  simp only [headsB, List.length_append, List.length_cons]
  omega
theorem batchB_len {b : Batch} (hR : batchR b = true) : (batchB b).length ≤ 21 + (headsB b.base b.entries).length + (blockB (joined b.entries)).length ∧ (batchB b).length ≤ 40 + (varB (total b.entries)).length + total b.entries + (headsB b.base b.entries).length ∧ (headsB b.base b.entries).length ≤ 16000 := by
 have hR' := hR
 simp only [batchR, Bool.and_eq_true, fitsR, decide_eq_true_eq] at hR'
 have h1 := (varB_len b.epoch.toNat).1
 have h2 := (varB_len b.base.toNat).1
 have h3 := varB_len_small (x := b.entries.length) (by omega)
 have h4 := blockB_len (joined b.entries)
 rw [joined_length] at h4
 have h5 := headsB_len b.entries b.base hR'.2.2.2
 simp only [batchB, aheadB, List.length_append]
 omega
end Go.Proofs.YtkipiefcnjfdjaaGreat
namespace Go.Bs
open Go.RowKit
set_option linter.unusedVariables false
def endP : Int → List MarkD → Int
 | p, [] => p
 | _, m :: l => endP (m.pos + m.count) l
def endA : Int → List MarkD → Int
 | a, [] => a
 | _, m :: l => endA m.at_ l
theorem endP_snoc : ∀ (M : List MarkD) (p : Int) (m : MarkD), endP p (M ++ [m]) = m.pos + m.count
 | [], _, _ => rfl
 | x :: M, p, m => endP_snoc M _ m
theorem endA_snoc : ∀ (M : List MarkD) (p : Int) (m : MarkD), endA p (M ++ [m]) = m.at_
 | [], _, _ => rfl
 | x :: M, p, m => endA_snoc M _ m
theorem riseM_snoc : ∀ (M : List MarkD) (p a : Int) (m : MarkD), riseM p a (M ++ [m]) = (riseM p a M && fitsM m (endP p M) (endA a M))
 | [], p, a, m => by simp [riseM, endP, endA]
 | x :: M, p, a, m => by
  simp only [List.cons_append, riseM, endP, endA]
  rw [riseM_snoc M _ _ m, Bool.and_assoc]
theorem endP_ge : ∀ (M : List MarkD) (p a : Int), riseM p a M = true → p + countM M ≤ endP p M ∧ (M ≠ [] → endP p M ≤ 4611686018427387904)
 | [], p, a, _ => by simp [countM, endP]
 | x :: M, p, a, h => by
  simp only [riseM, Bool.and_eq_true] at h
  obtain ⟨h1, h2, h3, h4, h5, h6, h7⟩ := fitsM_facts h.1
  have h8 := endP_ge M (x.pos + x.count) x.at_ h.2
  simp only [countM, List.map_cons, List.sum_cons, endP] at h8 ⊢
  refine ⟨by omega, fun _ => ?_⟩
  cases M with
  | nil => simpa [endP] using h5
  | cons y M => exact h8.2 (by simp)
theorem endsM_eq : ∀ (M : List MarkD) (p : Int), M ≠ [] → (endsM M).2 = endP p M := by
 intro M p h
 have h0 : 0 < M.length := List.length_pos_iff.2 h
 rw [endsM_some h0]
 dsimp only
 have e2 := endP_snoc M.dropLast p (M.getLast h)
 rw [List.dropLast_concat_getLast] at e2
 rw [e2, List.getLast_eq_getElem]
theorem foot_right {ep : Int} {M : List MarkD} {at_ size : Int} (he : epR ep = true) (hM : marksR M = true) (hn : ∀ m ∈ M, MarkN m) (ha : 1 ≤ at_ ∧ at_ ≤ 1099511627775) (hs : 1 ≤ size ∧ size ≤ 2097152) : FootR ⟨ep, M.length, countM M, (endsM M).1, (endsM M).2, at_, size⟩ := by
 have hM' := hM
 simp only [marksR, Bool.and_eq_true, decide_eq_true_eq] at hM'
 have hc := countM_le M fun m hm => by obtain ⟨h1, h2, _⟩ := riseM_mem M 0 0 hM'.1 m hm; exact ⟨h1, h2⟩
 refine ⟨he, by simp, by dsimp only; omega, hc.1, by dsimp only; omega, ha.1, ha.2, hs.1, hs.2, ?_⟩
 dsimp only
 cases M with
 | nil => simp [endsM]
 | cons x M =>
  rw [if_neg (by simp; omega)]
  have h0 := hM'.1
  simp only [riseM, Bool.and_eq_true] at h0
  obtain ⟨h1, h2, h3, h4, h5, h6, h7⟩ := fitsM_facts h0.1
  have hr : riseM x.pos 0 (x :: M) = true := by
   simp only [riseM, Bool.and_eq_true]
   exact ⟨by simp only [fitsM, Bool.and_eq_true, decide_eq_true_eq]; omega, h0.2⟩
  have h8 := endP_ge (x :: M) x.pos 0 hr
  have h9 := endsM_eq (x :: M) x.pos (by simp)
  have h10 : (endsM (x :: M)).1 = x.pos := by rw [endsM_some (by simp)]; rfl
  rw [h9, h10]
  have h11 := (hn x (List.mem_cons_self ..)).p.1
  have h12 := h8.2 (by simp)
  have h13 := hc.1
  simp only [List.length_cons] at h13
  refine ⟨h11, by omega, h12, by omega⟩
end Go.Bs
namespace Go.Proofs.YtkipiefcnjfdjaaGreat
open Go.RowKit Go.Bs Go.Maps
set_option linter.unusedVariables false
set_option linter.unusedSimpArgs false
theorem batchR_facts {b : Batch} (h : batchR b = true) : 1 ≤ b.epoch ∧ b.epoch < 4611686018427387904 ∧ 1 ≤ b.entries.length ∧ b.entries.length ≤ 16 ∧ b.base + b.entries.length ≤ 4611686018427387904 ∧ total b.entries ≤ 1048576 := by
 simp only [batchR, epR, fitsR, Bool.and_eq_true, decide_eq_true_eq] at h
 exact ⟨h.1.1, h.1.2, h.2.1.1, h.2.1.2.1, h.2.1.2.2.2, h.2.2.1⟩
theorem chainR_mem {e : Int} : ∀ {p : Option Batch} {l : List Batch}, chainR e p l = true → ∀ b ∈ l, batchR b = true
 | _, [], _, b, hb => by cases hb
 | p, x :: l, h, b, hb => by
  simp only [chainR, Bool.and_eq_true] at h
  rcases List.mem_cons.1 hb with rfl | hb
  ·exact h.1
  ·exact chainR_mem h.2.2 b hb
theorem segR_facts {g : Seg} (h : segR g = true) : (1 ≤ g.epoch ∧ g.epoch < 4611686018427387904) ∧ g.batches.length ≤ 16 ∧ ∀ b ∈ g.batches, batchR b = true := by
 simp only [segR, epR, Bool.and_eq_true, decide_eq_true_eq] at h
 exact ⟨h.1, h.2.1, chainR_mem h.2.2⟩
def segGo : List UInt8 → List MarkD → List Batch → List UInt8 × List MarkD
 | J, M, [] => (J, M)
 | J, M, b :: l => segGo (J ++ recB 1 (batchB b)) (M ++ [⟨b.base, b.entries.length, J.length⟩]) l
def segW (ep : Int) (l : List Batch) : List UInt8 × List MarkD := segGo (headHB 3 ep.toNat 0) [] l
def segX (ep : Int) (l : List Batch) : List UInt8 := recB 2 (indexB (segW ep l).2)
def segF (ep : Int) (l : List Batch) : FootD := footM ep (segW ep l).2 (segW ep l).1.length (segX ep l).length
def segB (ep : Int) (l : List Batch) : List UInt8 := (segW ep l).1 ++ segX ep l ++ footB (segF ep l)
theorem batchB_le {b : Batch} (h : batchR b = true) : (batchB b).length ≤ 1100000 := by
 have h1 := (batchB_len h).2
 have h2 := (varB_len (total b.entries)).1
 have h3 := (batchR_facts h).2.2.2.2.2
 omega
theorem recB_len (k : UInt8) (D : List UInt8) : (recB k D).length ≤ D.length + 15 ∧ 1 ≤ (recB k D).length := by
 have := varB_len (k :: D).length
 simp only [recB, frameB_len, blobB_len, List.length_cons] at this ⊢
 omega
theorem headHB_len {v ep bs : Nat} (h1 : ep < 4611686018427387904) (h2 : bs < 4611686018427387904) : (headHB v ep bs).length ≤ 27 ∧ 5 ≤ (headHB v ep bs).length := by
 have := headP_len (v := v) (varB_len9 (x := ep) (by omega)) (varB_len9 (x := bs) (by omega))
 simp only [headHB, List.length_append, fixedB_len]
 simp only [headP, List.length_append, List.length_cons] at this ⊢
 omega
theorem segGo_right {e : Int} : ∀ (l : List Batch) (J : List UInt8) (M : List MarkD) (p : Option Batch), riseM 0 0 M = true → (∀ m ∈ M, MarkN m) → (match p with | none => endP 0 M = 0 | some b => endP 0 M = b.base + b.entries.length) → endA 0 M < J.length → J.length + 1200000 * l.length ≤ 1000000000 → M.length + l.length ≤ 16 → (∀ b ∈ l, batchN b) → chainR e p l = true →
  marksR (segGo J M l).2 = true ∧ (segGo J M l).1.length ≤ J.length + 1200000 * l.length ∧ J.length ≤ (segGo J M l).1.length ∧ ∀ m ∈ (segGo J M l).2, MarkN m
 | [], J, M, p, hM, hN, _, _, _, hl, _, _ => by
  refine ⟨?_, by simp [segGo], by simp [segGo], hN⟩
  simp only [segGo, marksR, hM, Bool.true_and]
  exact decide_eq_true (by simpa using hl)
 | b :: l, J, M, p, hM, hN, hp, hA, hJ, hl, hbn, hc => by
  simp only [chainR, Bool.and_eq_true] at hc
  obtain ⟨hb, hm, hc⟩ := hc
  have hB := batchB_le hb
  have hr := recB_len 1 (batchB b)
  obtain ⟨f1, f2, f3, f4, f5, f6⟩ := batchR_facts hb
  have hbn0 := (hbn b (List.mem_cons_self ..)).2.1
  simp only [List.length_cons] at hJ hl
  have hfit : fitsM ⟨b.base, b.entries.length, J.length⟩ (endP 0 M) (endA 0 M) = true := by
   simp only [fitsM, Bool.and_eq_true, decide_eq_true_eq]
   refine ⟨by omega, by omega, ?_, by omega, by omega, hA, by omega⟩
   cases p with
   | none => rw [show endP 0 M = 0 from hp]; omega
   | some q =>
    simp only [mayR, Bool.and_eq_true, decide_eq_true_eq] at hm
    rw [show endP 0 M = q.base + q.entries.length from hp]; exact hm.2.2
  have hr2 := segGo_right (e := e) l (J ++ recB 1 (batchB b)) (M ++ [⟨b.base, b.entries.length, J.length⟩]) (some b) (by rw [riseM_snoc, hM, hfit]; rfl)
   (fun m hm => by
    rcases List.mem_append.1 hm with hm | hm
    ·exact hN m hm
    ·rw [List.mem_singleton] at hm; subst hm; exact ⟨hbn0, by dsimp only; omega, by dsimp only; omega⟩)
   (by dsimp only; rw [endP_snoc]) (by rw [endA_snoc]; simp; omega) (by rw [List.length_append]; omega) (by rw [List.length_append]; simp; omega) (fun x hx => hbn x (List.mem_cons_of_mem _ hx)) hc
  simp only [segGo]
  refine ⟨hr2.1, ?_, ?_, hr2.2.2.2⟩
  ·have := hr2.2.1; rw [List.length_append] at this; simp only [List.length_cons]; omega
  ·have := hr2.2.2.1; rw [List.length_append] at this; omega
theorem segW_right {ep : Int} {l : List Batch} (hR : segR ⟨ep, l⟩ = true) (hbn : ∀ b ∈ l, batchN b) : marksR (segW ep l).2 = true ∧ 5 ≤ (segW ep l).1.length ∧ (segW ep l).1.length ≤ 20000000 ∧ ∀ m ∈ (segW ep l).2, MarkN m := by
 obtain ⟨h1, h2, _⟩ := segR_facts hR
 simp only [segR, Bool.and_eq_true, decide_eq_true_eq] at hR
 have h1' : 1 ≤ ep ∧ ep < 4611686018427387904 := h1
 have h2' : l.length ≤ 16 := h2
 have hh := headHB_len (v := 3) (ep := ep.toNat) (bs := 0) (by omega) (by omega)
 have := segGo_right (e := ep) l (headHB 3 ep.toNat 0) [] none rfl (by simp) rfl (by simp only [endA]; omega) (by omega) (by simpa using h2') hbn hR.2.2
 unfold segW
 exact ⟨this.1, by omega, by omega, this.2.2.2⟩
theorem indexB_len {M : List MarkD} (h : marksR M = true) : (indexB M).length ≤ 490 := by
 simp only [marksR, Bool.and_eq_true, decide_eq_true_eq] at h
 have h1 := (varB_len M.length).1
 have h2 := marksB_len M 0 0
 simp only [indexB, List.length_append]
 omega
theorem segF_right {ep : Int} {l : List Batch} (hR : segR ⟨ep, l⟩ = true) (hbn : ∀ b ∈ l, batchN b) : FootR (segF ep l) := by
 obtain ⟨h1, h2, h3, h4⟩ := segW_right hR hbn
 have h5 := indexB_len h1
 have h6 := recB_len 2 (indexB (segW ep l).2)
 simp only [segR, Bool.and_eq_true] at hR
 exact foot_right hR.1 h1 h4 (by omega) (by unfold segX; omega)
end Go.Proofs.YtkipiefcnjfdjaaGreat
namespace Go.Proofs.YtkipiefcnjfdjaaGreat
open Go.RowKit Go.Bs Go.Maps
set_option linter.unusedVariables false
set_option linter.unusedSimpArgs false
def headE (h : List Link × Nat) : Entry := ⟨h.1, []⟩
def sizeCells (l : List (List Link × Nat)) : List Value := l.map fun h => .int .i64 (h.2 : Int)
structure HeadsAt (lo : Nat) (W : World) (v u : Value) (J : List (List Link × Nat)) : Prop where
 els : ∃ cells, OwnElsF (fun b => lo ≤ b ∧ b < W.heap.size ∧ u.ownBlock ≠ some b) rEntryW lo 75 2 W v (J.map headE) cells
 szs : W.ownsRow lo 3 1 u J.length (sizeCells J)
theorem own_ne {W : World} {lo lo' : Nat} {e e' : TypeId} {sz sz' n m : Nat} {v u : Value} {xs ys : List Value} (h : W.ownsRow lo e sz v n xs) (h' : W.ownsRow lo' e' sz' u m ys) (hne : e ≠ e') : ∀ b, v.ownBlock = some b → u.ownBlock ≠ some b := by
 intro b hv hu
 rcases h.2 with ⟨rfl, _⟩ | ⟨g, cap, cur, rfl, _, hg, _⟩
 ·cases hv
 ·rcases h'.2 with ⟨rfl, _⟩ | ⟨g', cap', cur', rfl, _, hg', _⟩
  ·cases hu
  ·have e1 : g = b := by simpa [Value.ownBlock] using hv
   have e2 : g' = b := by simpa [Value.ownBlock] using hu
   subst e1 e2
   rw [hg] at hg'
   simp at hg'
   exact hne hg'.2
theorem own_stays {W W' : World} {lo : Nat} {e : TypeId} {sz n : Nat} {v : Value} {xs : List Value} (h : W.ownsRow lo e sz v n xs) (hk : ∀ b, v.ownBlock = some b → b < W.heap.size → W'.heap[b]? = W.heap[b]?) : W'.ownsRow lo e sz v n xs := by
 refine ⟨h.1, ?_⟩
 rcases h.2 with h0 | ⟨g', cap, cur, h1, h2, h3, h4⟩
 ·exact .inl h0
 ·exact .inr ⟨g', cap, cur, h1, h2, (hk g' (by rw [h1]; rfl) (Blk.lt h3)).trans h3, h4⟩
theorem own_lt {W : World} {lo : Nat} {e : TypeId} {sz n : Nat} {v : Value} {xs : List Value} (h : W.ownsRow lo e sz v n xs) : ∀ b, v.ownBlock = some b → lo ≤ b ∧ b < W.heap.size := by
 intro b hv
 rcases h.2 with ⟨rfl, _⟩ | ⟨g, cap, cur, rfl, hb, hg, _⟩
 ·cases hv
 ·have e1 : g = b := by simpa [Value.ownBlock] using hv
  subst e1
  exact ⟨hb, Blk.lt hg⟩
theorem HeadsAt.nil {lo : Nat} {W : World} : HeadsAt lo W (.slice none 0 0) (.slice none 0 0) [] := ⟨⟨[], OwnElsF.nil⟩, ⟨rfl, .inl ⟨rfl, rfl⟩⟩⟩
theorem HeadsAt.tch {lo g : Nat} {W W' : World} {v u : Value} {J : List (List Link × Nat)} (h : HeadsAt lo W v u J) (hb : Tch (fun b => b = g ∨ W.heap.size ≤ b) W W') (hg : g < lo) : HeadsAt lo W' v u J := by
 obtain ⟨⟨cells, OA⟩, hu⟩ := h
 have hk : ∀ b, lo ≤ b → b < W.heap.size → W'.heap[b]? = W.heap[b]? := fun b h1 h2 => hb.block b h2 (by omega)
 refine ⟨⟨cells, ?_⟩, own_stays hu fun b hv hl => hk b (own_lt hu b hv).1 hl⟩
 refine OwnElsF.mono (OwnElsF.keep OA (fun b h => hk b h.1 h.2.1) fun b hv => hk b (own_lt OA.1 b hv).1 (own_lt OA.1 b hv).2) fun b h => ⟨h.1, Nat.lt_of_lt_of_le h.2.1 hb.size, h.2.2⟩
structure HeadsMid (lo : Nat) (B : Nat) (W : World) (v u : Value) (J J' : List (List Link × Nat)) : Prop where
 els : ∃ cells, OwnElsF (fun b => lo ≤ b ∧ b < B ∧ u.ownBlock ≠ some b) rEntryW lo 75 2 W v (J'.map headE) cells
 szs : W.ownsRow lo 3 1 u J.length (sizeCells J)
 le : B ≤ W.heap.size
theorem HeadsMid.of {lo : Nat} {W W' : World} {v v' u : Value} {J : List (List Link × Nat)} {x : List Link × Nat} {cells : List (List Value)} {news : List Value}
  (OA : OwnElsF (fun b => lo ≤ b ∧ b < W.heap.size ∧ u.ownBlock ≠ some b) rEntryW lo 75 2 W v (J.map headE) cells) (hu : W.ownsRow lo 3 1 u J.length (sizeCells J))
  (hn : news.length = 2) (hx : rEntryW.r (fun b => (lo ≤ b ∧ b < W.heap.size ∧ u.ownBlock ≠ some b) ∧ v.ownBlock ≠ some b) W news (headE x))
  (hown : W'.ownsRow lo 75 2 v' (J.length + 1) (cells.flatten ++ news)) (hg : W.grownBy W' v.ownBlock) (hat : v'.ownBlock = v.ownBlock ∨ v'.ownBlock = some W.heap.size) : HeadsMid lo W.heap.size W' v' u J (J ++ [x]) := by
 refine ⟨⟨cells ++ [news], ?_⟩, own_stays hu fun b hv hl => hg.block b hl (fun e => own_ne OA.1 hu (by decide) b e.symm hv), hg.size⟩
 rw [List.map_append, List.map_cons, List.map_nil]
 exact OwnElsF.push OA (fun b hb => hb.2.1) hn hx (by simpa using hown) hg hat
theorem HeadsMid.below {lo B : Nat} {W W' : World} {v u : Value} {J J' : List (List Link × Nat)} (h : HeadsMid lo B W v u J J') (hb : Below W.heap.size W W') : HeadsMid lo B W' v u J J' := by
 obtain ⟨⟨cells, OA⟩, hu, hB⟩ := h
 exact ⟨⟨cells, OwnElsF.keep OA (fun b h => hb.block b (by have := h.2.1; omega)) fun b hv => hb.block b (own_lt OA.1 b hv).2⟩, own_stays hu fun b hv hl => hb.block b hl, by have := hb.size; omega⟩
theorem HeadsMid.to {lo B : Nat} {W W' : World} {v u u' : Value} {J : List (List Link × Nat)} {x : List Link × Nat} (h : HeadsMid lo B W v u J (J ++ [x]))
  (hown : W'.ownsRow lo 3 1 u' (J.length + 1) (sizeCells J ++ [.int .i64 (x.2 : Int)])) (hg : W.grownBy W' u.ownBlock) (hat : u'.ownBlock = u.ownBlock ∨ u'.ownBlock = some W.heap.size) : HeadsAt lo W' v u' (J ++ [x]) := by
 obtain ⟨⟨cells, OA⟩, hu, hB⟩ := h
 refine ⟨⟨cells, ?_⟩, ?_⟩
 ·refine OwnElsF.mono (OwnElsF.keep OA (fun b h => hg.block b (by have := h.2.1; omega) (fun e => h.2.2 e.symm)) fun b hv => hg.block b (own_lt OA.1 b hv).2 (fun e => own_ne OA.1 hu (by decide) b hv e.symm)) fun b h => ⟨h.1, ?_, fun e => ?_⟩
  ·have := h.2.1; have := hg.size; omega
  ·rcases hat with h' | h'
   ·exact h.2.2 (h' ▸ e)
   ·rw [h'] at e; have := Option.some.inj e; have := h.2.1; omega
 ·have e : sizeCells (J ++ [x]) = sizeCells J ++ [.int .i64 (x.2 : Int)] := by simp [sizeCells]
  rw [e, List.length_append]
  exact hown
theorem HeadsAt.out {lo : Nat} {W : World} {v u : Value} {J : List (List Link × Nat)} (h : HeadsAt lo W v u J) : rEntriesW.r (fun b => lo ≤ b ∧ b < W.heap.size) W [v] (J.map headE) := by
 obtain ⟨⟨cells, OA⟩, hu⟩ := h
 exact OwnEls.sliceW (Nat.le_refl _) ⟨cells, OwnElsF.to OA fun b h => ⟨h.1, h.2.1⟩⟩
end Go.Proofs.YtkipiefcnjfdjaaGreat
namespace Go.Proofs.YtkipiefcnjfdjaaGreat
open Go.RowKit Go.Bs
set_option linter.unusedVariables false
set_option linter.unusedSimpArgs false
structure AppI (w W : World) (ep : Int) (a : Option Addr) (n c : Nat) (b : Batch) (ab : Option Addr) (nb cb : Nat) : Prop where
 below : Below w.heap.size w W
 g : Blk W w.heap.size 62 #[.int .u64 ep, .slice a n c]
 x : Blk W (w.heap.size + 1) 25 #[.int .u64 b.epoch, .int .u64 b.base, .slice ab nb cb]
 r : Blk W (w.heap.size + 1 + 1) 62 #[.int .u64 0, .slice none 0 0]
theorem AppI.later {w W W' : World} {ep : Int} {a : Option Addr} {n c : Nat} {b : Batch} {ab : Option Addr} {nb cb : Nat} (h : AppI w W ep a n c b ab nb cb) (hb : Below W.heap.size W W') : AppI w W' ep a n c b ab nb cb :=
 ⟨below_then hb h.below, h.g.later hb, h.x.later hb, h.r.later hb⟩
theorem AppI.grown {w W W' : World} {ep : Int} {a : Option Addr} {n c : Nat} {b : Batch} {ab : Option Addr} {nb cb : Nat} {v : Value} (h : AppI w W ep a n c b ab nb cb) (hg : W.grownBy W' v.ownBlock) (hv : ∀ g, v.ownBlock = some g → w.heap.size + 3 ≤ g) : AppI w W' ep a n c b ab nb cb :=
 ⟨h.below.grown hg h.below.size (fun g e => by have := hv g e; omega), h.g.grown hg (fun e => by have := hv _ e.symm; omega), h.x.grown hg (fun e => by have := hv _ e.symm; omega), h.r.grown hg (fun e => by have := hv _ e.symm; omega)⟩
set_option maxRecDepth 100000 in
set_option maxHeartbeats 6400000 in
theorem segment_append (ep : Int) (l : List Batch) (b : Batch) (a : Option Addr) (n c : Nat) (ab : Option Addr) (nb cb : Nat) (w : World) (h0 : 0 ≤ ep ∧ ep ≤ 18446744073709551615) (hl : rBatches.r (· < w.heap.size) w [.slice a n c] l) (hb0 : 0 ≤ b.epoch ∧ b.epoch ≤ 18446744073709551615) (hb1 : 0 ≤ b.base ∧ b.base ≤ 18446744073709551615) (hb : rEntries.r (· < w.heap.size) w [.slice ab nb cb] b.entries)
  (hfair : ∀ x ∈ l, Fair x.entries) (hfb : Fair b.entries) (hmild : ∀ z ∈ l, MildB z) (hmb : MildB b) :
  Calls Tryz.prog 40 #[.agg #[.int .u64 ep, .slice a n c], .agg #[.int .u64 b.epoch, .int .u64 b.base, .slice ab nb cb]] w fun r w' => ∃ v e', r = .returned (.tuple #[.agg #[.int .u64 e', v], .int .i64 (appendC ep l b)]) ∧ (e' = if appendC ep l b = 0 then ep else 0) ∧ rBatches.r (Fresh w w') w' [v] (if appendC ep l b = 0 then l ++ [b] else []) ∧ Below w.heap.size w w' := by
 obtain ⟨rfl, hm, _, _⟩ := sl_len hl
 obtain ⟨rfl, hm2, _, _⟩ := sl_len hb
 obtain ⟨i0, hi, hz0, hz1, hz2⟩ := info_parts infoBatch
 have HR := hid (fun (W : World) (hW : Below w.heap.size w W) => segment_right ep l a _ c W h0 (lift hl hW) hfair)
 have HB := hid (fun (W : World) (hW : Below w.heap.size w W) => batch_right b ab _ cb W hb0 hb1 (lift hb hW) hfb)
 have HL := hid hl
 have HE := hid hb
 have hw0 : (0 : Nat) ≤ 0 := Nat.le_refl 0
 have HI0 : Hid (AppI w (((w.alloc (.cells #[.int .u64 ep, .slice a l.length c] 62)).alloc (.cells #[.int .u64 b.epoch, .int .u64 b.base, .slice ab b.entries.length cb] 25)).alloc (.cells #[.int .u64 0, .slice none 0 0] 62)) ep a l.length c b ab b.entries.length cb) := hid
  ⟨below_alloc (below_alloc (below_alloc (Below.refl _ _) _) _) _, ((Blk.new w _ _).alloc _).alloc _, (Blk.new1 w _ _ _).alloc _, Blk.newAt _ _ _ (by simp)⟩
 clear hl hb
 cases hs : segR ⟨ep, l⟩
 ·rw [hs] at HR
  have hC : Hid (appendC ep l b = 3) := hid (by unfold appendC; rw [if_pos (.inl hs)])
  simp only [hC.out, show ((3 : Int) = 0) = False from by decide, if_false]
  clear hs
  go_enter Tryz.func40, Tryz.ntmps40
  go_wp2_with fail
  refine (HR.out _ HI0.out.below).mono ?_
  rintro r w1 ⟨rfl, hb1'⟩
  have HI1 := hid (HI0.out.later hb1')
  clear hb1'
  have g0 : w1.cell? ⟨w.heap.size, 0, none⟩ = some (.int .u64 ep) := HI1.out.g.cell 0
  have g1 : w1.cell? ⟨w.heap.size, 1, none⟩ = some (.slice a l.length c) := HI1.out.g.cell 1
  have x0 : w1.cell? ⟨w.heap.size + 1, 0, none⟩ = some (.int .u64 b.epoch) := HI1.out.x.cell 0
  have x1 : w1.cell? ⟨w.heap.size + 1, 1, none⟩ = some (.int .u64 b.base) := HI1.out.x.cell 1
  have x2 : w1.cell? ⟨w.heap.size + 1, 2, none⟩ = some (.slice ab b.entries.length cb) := HI1.out.x.cell 2
  have r0 : w1.cell? ⟨w.heap.size + 1 + 1, 0, none⟩ = some (.int .u64 0) := HI1.out.r.cell 0
  have r1 : w1.cell? ⟨w.heap.size + 1 + 1, 1, none⟩ = some (.slice none 0 0) := HI1.out.r.cell 1
  have f0 : w1.frozen? ⟨w.heap.size + 1 + 1, 0, none⟩ = false := HI1.out.r.free 0
  have f1 : w1.frozen? ⟨w.heap.size + 1 + 1, 1, none⟩ = false := HI1.out.r.free 1
  go_wp2
  refine bodyPost_ret (v := .tuple #[.agg #[.int .u64 0, .slice none 0 0], .int .i64 3]) (by simp [results, Tryz.results40, go_sem, World.cell?_setCell_far, r0, r1]) rfl ⟨_, _, rfl, rfl, rSl_mk (xs := []) rfl (Nat.le_refl _) (Nat.zero_le _) (.inl rfl), ?_⟩
  have hb9 := HI1.out.below
  clear hw0
  exact (hb9.setCell (by dsimp only; omega) _).setCell (by dsimp only; omega) _
 ·obtain ⟨_, hl16, hall⟩ := segR_facts hs
  dsimp only at hl16 hall
  rw [hs] at HR
  have HF := hid (fun (W : World) (hW : Below w.heap.size w W) => seg_follows ep l b a ab _ c b.entries.length cb W (lift HL.out hW) (fun p hp => by have := (batchR_facts (hall p hp)).2.2.2.2.1; omega))
  cases hbr : batchR b
  ·rw [hbr] at HB
   have hC : Hid (appendC ep l b = 3) := hid (by unfold appendC; rw [if_pos (.inr hbr)])
   simp only [hC.out, show ((3 : Int) = 0) = False from by decide, if_false]
   clear hs hbr hall
   go_enter Tryz.func40, Tryz.ntmps40
   go_wp2_with fail
   refine (HR.out _ HI0.out.below).mono ?_
   rintro r w1 ⟨rfl, hb1'⟩
   have HI1 := hid (HI0.out.later hb1')
   clear hb1'
   have g0 : w1.cell? ⟨w.heap.size, 0, none⟩ = some (.int .u64 ep) := HI1.out.g.cell 0
   have g1 : w1.cell? ⟨w.heap.size, 1, none⟩ = some (.slice a l.length c) := HI1.out.g.cell 1
   have x0 : w1.cell? ⟨w.heap.size + 1, 0, none⟩ = some (.int .u64 b.epoch) := HI1.out.x.cell 0
   have x1 : w1.cell? ⟨w.heap.size + 1, 1, none⟩ = some (.int .u64 b.base) := HI1.out.x.cell 1
   have x2 : w1.cell? ⟨w.heap.size + 1, 2, none⟩ = some (.slice ab b.entries.length cb) := HI1.out.x.cell 2
   have r0 : w1.cell? ⟨w.heap.size + 1 + 1, 0, none⟩ = some (.int .u64 0) := HI1.out.r.cell 0
   have r1 : w1.cell? ⟨w.heap.size + 1 + 1, 1, none⟩ = some (.slice none 0 0) := HI1.out.r.cell 1
   have f0 : w1.frozen? ⟨w.heap.size + 1 + 1, 0, none⟩ = false := HI1.out.r.free 0
   have f1 : w1.frozen? ⟨w.heap.size + 1 + 1, 1, none⟩ = false := HI1.out.r.free 1
   go_wp2_with fail
   refine (HB.out _ HI1.out.below).mono ?_
   rintro r w2 ⟨rfl, hb2'⟩
   clear g0 g1 x0 x1 x2 r0 r1 f0 f1
   have HI2 := hid (HI1.out.later hb2')
   clear hb2'
   have g0 : w2.cell? ⟨w.heap.size, 0, none⟩ = some (.int .u64 ep) := HI2.out.g.cell 0
   have g1 : w2.cell? ⟨w.heap.size, 1, none⟩ = some (.slice a l.length c) := HI2.out.g.cell 1
   have x0 : w2.cell? ⟨w.heap.size + 1, 0, none⟩ = some (.int .u64 b.epoch) := HI2.out.x.cell 0
   have x1 : w2.cell? ⟨w.heap.size + 1, 1, none⟩ = some (.int .u64 b.base) := HI2.out.x.cell 1
   have x2 : w2.cell? ⟨w.heap.size + 1, 2, none⟩ = some (.slice ab b.entries.length cb) := HI2.out.x.cell 2
   have r0 : w2.cell? ⟨w.heap.size + 1 + 1, 0, none⟩ = some (.int .u64 0) := HI2.out.r.cell 0
   have r1 : w2.cell? ⟨w.heap.size + 1 + 1, 1, none⟩ = some (.slice none 0 0) := HI2.out.r.cell 1
   have f0 : w2.frozen? ⟨w.heap.size + 1 + 1, 0, none⟩ = false := HI2.out.r.free 0
   have f1 : w2.frozen? ⟨w.heap.size + 1 + 1, 1, none⟩ = false := HI2.out.r.free 1
   go_wp2
   refine bodyPost_ret (v := .tuple #[.agg #[.int .u64 0, .slice none 0 0], .int .i64 3]) (by simp [results, Tryz.results40, go_sem, World.cell?_setCell_far, r0, r1]) rfl ⟨_, _, rfl, rfl, rSl_mk (xs := []) rfl (Nat.le_refl _) (Nat.zero_le _) (.inl rfl), ?_⟩
   have hb9 := HI2.out.below
   clear hw0
   exact (hb9.setCell (by dsimp only; omega) _).setCell (by dsimp only; omega) _
  ·rw [hbr] at HB
   by_cases h16 : l.length = 16
   ·have hC : Hid (appendC ep l b = 2) := hid (by unfold appendC; rw [if_neg (by simp [hs, hbr]), if_pos h16])
    simp only [hC.out, show ((2 : Int) = 0) = False from by decide, if_false]
    have d16 : ((l.length : Int) == 16) = true := by simp [h16]
    clear hs hbr hall h16
    go_enter Tryz.func40, Tryz.ntmps40
    go_wp2_with fail
    refine (HR.out _ HI0.out.below).mono ?_
    rintro r w1 ⟨rfl, hb1'⟩
    have HI1 := hid (HI0.out.later hb1')
    clear hb1'
    have g0 : w1.cell? ⟨w.heap.size, 0, none⟩ = some (.int .u64 ep) := HI1.out.g.cell 0
    have g1 : w1.cell? ⟨w.heap.size, 1, none⟩ = some (.slice a l.length c) := HI1.out.g.cell 1
    have x0 : w1.cell? ⟨w.heap.size + 1, 0, none⟩ = some (.int .u64 b.epoch) := HI1.out.x.cell 0
    have x1 : w1.cell? ⟨w.heap.size + 1, 1, none⟩ = some (.int .u64 b.base) := HI1.out.x.cell 1
    have x2 : w1.cell? ⟨w.heap.size + 1, 2, none⟩ = some (.slice ab b.entries.length cb) := HI1.out.x.cell 2
    have r0 : w1.cell? ⟨w.heap.size + 1 + 1, 0, none⟩ = some (.int .u64 0) := HI1.out.r.cell 0
    have r1 : w1.cell? ⟨w.heap.size + 1 + 1, 1, none⟩ = some (.slice none 0 0) := HI1.out.r.cell 1
    have f0 : w1.frozen? ⟨w.heap.size + 1 + 1, 0, none⟩ = false := HI1.out.r.free 0
    have f1 : w1.frozen? ⟨w.heap.size + 1 + 1, 1, none⟩ = false := HI1.out.r.free 1
    go_wp2_with fail
    refine (HB.out _ HI1.out.below).mono ?_
    rintro r w2 ⟨rfl, hb2'⟩
    clear g0 g1 x0 x1 x2 r0 r1 f0 f1
    have HI2 := hid (HI1.out.later hb2')
    clear hb2'
    have g0 : w2.cell? ⟨w.heap.size, 0, none⟩ = some (.int .u64 ep) := HI2.out.g.cell 0
    have g1 : w2.cell? ⟨w.heap.size, 1, none⟩ = some (.slice a l.length c) := HI2.out.g.cell 1
    have x0 : w2.cell? ⟨w.heap.size + 1, 0, none⟩ = some (.int .u64 b.epoch) := HI2.out.x.cell 0
    have x1 : w2.cell? ⟨w.heap.size + 1, 1, none⟩ = some (.int .u64 b.base) := HI2.out.x.cell 1
    have x2 : w2.cell? ⟨w.heap.size + 1, 2, none⟩ = some (.slice ab b.entries.length cb) := HI2.out.x.cell 2
    have r0 : w2.cell? ⟨w.heap.size + 1 + 1, 0, none⟩ = some (.int .u64 0) := HI2.out.r.cell 0
    have r1 : w2.cell? ⟨w.heap.size + 1 + 1, 1, none⟩ = some (.slice none 0 0) := HI2.out.r.cell 1
    have f0 : w2.frozen? ⟨w.heap.size + 1 + 1, 0, none⟩ = false := HI2.out.r.free 0
    have f1 : w2.frozen? ⟨w.heap.size + 1 + 1, 1, none⟩ = false := HI2.out.r.free 1
    go_wp2
    refine bodyPost_ret (v := .tuple #[.agg #[.int .u64 0, .slice none 0 0], .int .i64 2]) (by simp [results, Tryz.results40, go_sem, World.cell?_setCell_far, r0, r1]) rfl ⟨_, _, rfl, rfl, rSl_mk (xs := []) rfl (Nat.le_refl _) (Nat.zero_le _) (.inl rfl), ?_⟩
    have hb9 := HI2.out.below
    clear hw0
    exact (hb9.setCell (by dsimp only; omega) _).setCell (by dsimp only; omega) _
   ·have d16 : ((l.length : Int) == 16) = false := beq_eq_false_iff_ne.2 (by omega)
    cases hmy : mayR ep (prevB l l.length) b
    ·rw [hmy] at HF
     have hC : Hid (appendC ep l b = 13) := hid (by unfold appendC; rw [if_neg (by simp [hs, hbr]), if_neg h16, if_pos hmy])
     simp only [hC.out, show ((13 : Int) = 0) = False from by decide, if_false]
     clear hs hbr hall h16 hmy
     go_enter Tryz.func40, Tryz.ntmps40
     go_wp2_with fail
     refine (HR.out _ HI0.out.below).mono ?_
     rintro r w1 ⟨rfl, hb1'⟩
     have HI1 := hid (HI0.out.later hb1')
     clear hb1'
     have g0 : w1.cell? ⟨w.heap.size, 0, none⟩ = some (.int .u64 ep) := HI1.out.g.cell 0
     have g1 : w1.cell? ⟨w.heap.size, 1, none⟩ = some (.slice a l.length c) := HI1.out.g.cell 1
     have x0 : w1.cell? ⟨w.heap.size + 1, 0, none⟩ = some (.int .u64 b.epoch) := HI1.out.x.cell 0
     have x1 : w1.cell? ⟨w.heap.size + 1, 1, none⟩ = some (.int .u64 b.base) := HI1.out.x.cell 1
     have x2 : w1.cell? ⟨w.heap.size + 1, 2, none⟩ = some (.slice ab b.entries.length cb) := HI1.out.x.cell 2
     have r0 : w1.cell? ⟨w.heap.size + 1 + 1, 0, none⟩ = some (.int .u64 0) := HI1.out.r.cell 0
     have r1 : w1.cell? ⟨w.heap.size + 1 + 1, 1, none⟩ = some (.slice none 0 0) := HI1.out.r.cell 1
     have f0 : w1.frozen? ⟨w.heap.size + 1 + 1, 0, none⟩ = false := HI1.out.r.free 0
     have f1 : w1.frozen? ⟨w.heap.size + 1 + 1, 1, none⟩ = false := HI1.out.r.free 1
     go_wp2_with fail
     refine (HB.out _ HI1.out.below).mono ?_
     rintro r w2 ⟨rfl, hb2'⟩
     clear g0 g1 x0 x1 x2 r0 r1 f0 f1
     have HI2 := hid (HI1.out.later hb2')
     clear hb2'
     have g0 : w2.cell? ⟨w.heap.size, 0, none⟩ = some (.int .u64 ep) := HI2.out.g.cell 0
     have g1 : w2.cell? ⟨w.heap.size, 1, none⟩ = some (.slice a l.length c) := HI2.out.g.cell 1
     have x0 : w2.cell? ⟨w.heap.size + 1, 0, none⟩ = some (.int .u64 b.epoch) := HI2.out.x.cell 0
     have x1 : w2.cell? ⟨w.heap.size + 1, 1, none⟩ = some (.int .u64 b.base) := HI2.out.x.cell 1
     have x2 : w2.cell? ⟨w.heap.size + 1, 2, none⟩ = some (.slice ab b.entries.length cb) := HI2.out.x.cell 2
     have r0 : w2.cell? ⟨w.heap.size + 1 + 1, 0, none⟩ = some (.int .u64 0) := HI2.out.r.cell 0
     have r1 : w2.cell? ⟨w.heap.size + 1 + 1, 1, none⟩ = some (.slice none 0 0) := HI2.out.r.cell 1
     have f0 : w2.frozen? ⟨w.heap.size + 1 + 1, 0, none⟩ = false := HI2.out.r.free 0
     have f1 : w2.frozen? ⟨w.heap.size + 1 + 1, 1, none⟩ = false := HI2.out.r.free 1
     go_wp2_with fail
     refine (HF.out _ HI2.out.below).mono ?_
     rintro r w3 ⟨rfl, hb3'⟩
     clear g0 g1 x0 x1 x2 r0 r1 f0 f1
     have HI3 := hid (HI2.out.later hb3')
     clear hb3'
     have g0 : w3.cell? ⟨w.heap.size, 0, none⟩ = some (.int .u64 ep) := HI3.out.g.cell 0
     have g1 : w3.cell? ⟨w.heap.size, 1, none⟩ = some (.slice a l.length c) := HI3.out.g.cell 1
     have x0 : w3.cell? ⟨w.heap.size + 1, 0, none⟩ = some (.int .u64 b.epoch) := HI3.out.x.cell 0
     have x1 : w3.cell? ⟨w.heap.size + 1, 1, none⟩ = some (.int .u64 b.base) := HI3.out.x.cell 1
     have x2 : w3.cell? ⟨w.heap.size + 1, 2, none⟩ = some (.slice ab b.entries.length cb) := HI3.out.x.cell 2
     have r0 : w3.cell? ⟨w.heap.size + 1 + 1, 0, none⟩ = some (.int .u64 0) := HI3.out.r.cell 0
     have r1 : w3.cell? ⟨w.heap.size + 1 + 1, 1, none⟩ = some (.slice none 0 0) := HI3.out.r.cell 1
     have f0 : w3.frozen? ⟨w.heap.size + 1 + 1, 0, none⟩ = false := HI3.out.r.free 0
     have f1 : w3.frozen? ⟨w.heap.size + 1 + 1, 1, none⟩ = false := HI3.out.r.free 1
     go_wp2
     refine bodyPost_ret (v := .tuple #[.agg #[.int .u64 0, .slice none 0 0], .int .i64 13]) (by simp [results, Tryz.results40, go_sem, World.cell?_setCell_far, r0, r1]) rfl ⟨_, _, rfl, rfl, rSl_mk (xs := []) rfl (Nat.le_refl _) (Nat.zero_le _) (.inl rfl), ?_⟩
     have hb9 := HI3.out.below
     clear hw0
     exact (hb9.setCell (by dsimp only; omega) _).setCell (by dsimp only; omega) _
    ·rw [hmy] at HF
     have hC : Hid (appendC ep l b = 0) := hid (by unfold appendC; rw [if_neg (by simp [hs, hbr]), if_neg h16, if_neg (by simp [hmy])])
     simp only [hC.out, eq_self, if_true]
     have HCP := hid (fun (W : World) (hW : Below w.heap.size w W) => segment_copyO ep l a _ c W (lift HL.out hW) (by omega) hmild)
     have HBC := hid (fun (W : World) (hW : Below w.heap.size w W) => batch_copy b ab _ cb W (lift HE.out hW) hmb.1 hmb.2)
     clear hs hbr hall h16 hmy
     go_enter Tryz.func40, Tryz.ntmps40
     go_wp2_with fail
     refine (HR.out _ HI0.out.below).mono ?_
     rintro r w1 ⟨rfl, hb1'⟩
     have HI1 := hid (HI0.out.later hb1')
     clear hb1'
     have g0 : w1.cell? ⟨w.heap.size, 0, none⟩ = some (.int .u64 ep) := HI1.out.g.cell 0
     have g1 : w1.cell? ⟨w.heap.size, 1, none⟩ = some (.slice a l.length c) := HI1.out.g.cell 1
     have x0 : w1.cell? ⟨w.heap.size + 1, 0, none⟩ = some (.int .u64 b.epoch) := HI1.out.x.cell 0
     have x1 : w1.cell? ⟨w.heap.size + 1, 1, none⟩ = some (.int .u64 b.base) := HI1.out.x.cell 1
     have x2 : w1.cell? ⟨w.heap.size + 1, 2, none⟩ = some (.slice ab b.entries.length cb) := HI1.out.x.cell 2
     have r0 : w1.cell? ⟨w.heap.size + 1 + 1, 0, none⟩ = some (.int .u64 0) := HI1.out.r.cell 0
     have r1 : w1.cell? ⟨w.heap.size + 1 + 1, 1, none⟩ = some (.slice none 0 0) := HI1.out.r.cell 1
     have f0 : w1.frozen? ⟨w.heap.size + 1 + 1, 0, none⟩ = false := HI1.out.r.free 0
     have f1 : w1.frozen? ⟨w.heap.size + 1 + 1, 1, none⟩ = false := HI1.out.r.free 1
     go_wp2_with fail
     refine (HB.out _ HI1.out.below).mono ?_
     rintro r w2 ⟨rfl, hb2'⟩
     clear g0 g1 x0 x1 x2 r0 r1 f0 f1
     have HI2 := hid (HI1.out.later hb2')
     clear hb2'
     have g0 : w2.cell? ⟨w.heap.size, 0, none⟩ = some (.int .u64 ep) := HI2.out.g.cell 0
     have g1 : w2.cell? ⟨w.heap.size, 1, none⟩ = some (.slice a l.length c) := HI2.out.g.cell 1
     have x0 : w2.cell? ⟨w.heap.size + 1, 0, none⟩ = some (.int .u64 b.epoch) := HI2.out.x.cell 0
     have x1 : w2.cell? ⟨w.heap.size + 1, 1, none⟩ = some (.int .u64 b.base) := HI2.out.x.cell 1
     have x2 : w2.cell? ⟨w.heap.size + 1, 2, none⟩ = some (.slice ab b.entries.length cb) := HI2.out.x.cell 2
     have r0 : w2.cell? ⟨w.heap.size + 1 + 1, 0, none⟩ = some (.int .u64 0) := HI2.out.r.cell 0
     have r1 : w2.cell? ⟨w.heap.size + 1 + 1, 1, none⟩ = some (.slice none 0 0) := HI2.out.r.cell 1
     have f0 : w2.frozen? ⟨w.heap.size + 1 + 1, 0, none⟩ = false := HI2.out.r.free 0
     have f1 : w2.frozen? ⟨w.heap.size + 1 + 1, 1, none⟩ = false := HI2.out.r.free 1
     go_wp2_with fail
     refine (HF.out _ HI2.out.below).mono ?_
     rintro r w3 ⟨rfl, hb3'⟩
     clear g0 g1 x0 x1 x2 r0 r1 f0 f1
     have HI3 := hid (HI2.out.later hb3')
     clear hb3'
     have g0 : w3.cell? ⟨w.heap.size, 0, none⟩ = some (.int .u64 ep) := HI3.out.g.cell 0
     have g1 : w3.cell? ⟨w.heap.size, 1, none⟩ = some (.slice a l.length c) := HI3.out.g.cell 1
     have x0 : w3.cell? ⟨w.heap.size + 1, 0, none⟩ = some (.int .u64 b.epoch) := HI3.out.x.cell 0
     have x1 : w3.cell? ⟨w.heap.size + 1, 1, none⟩ = some (.int .u64 b.base) := HI3.out.x.cell 1
     have x2 : w3.cell? ⟨w.heap.size + 1, 2, none⟩ = some (.slice ab b.entries.length cb) := HI3.out.x.cell 2
     have r0 : w3.cell? ⟨w.heap.size + 1 + 1, 0, none⟩ = some (.int .u64 0) := HI3.out.r.cell 0
     have r1 : w3.cell? ⟨w.heap.size + 1 + 1, 1, none⟩ = some (.slice none 0 0) := HI3.out.r.cell 1
     have f0 : w3.frozen? ⟨w.heap.size + 1 + 1, 0, none⟩ = false := HI3.out.r.free 0
     have f1 : w3.frozen? ⟨w.heap.size + 1 + 1, 1, none⟩ = false := HI3.out.r.free 1
     go_wp2_with fail
     refine (HCP.out _ HI3.out.below).mono ?_
     rintro r w4 ⟨v4, rfl, ho4, hb4'⟩
     clear g0 g1 x0 x1 x2 r0 r1 f0 f1
     have HI4 := hid (HI3.out.later hb4')
     obtain ⟨a4, c4, rfl⟩ := OwnEls.form ho4
     have HO4 := hid ho4
     have hz3 : w.heap.size + 3 ≤ w3.heap.size := by have := HI3.out.r.lt; omega
     have hz4 : w3.heap.size ≤ w4.heap.size := hb4'.size
     clear ho4 hb4'
     have g0 : w4.cell? ⟨w.heap.size, 0, none⟩ = some (.int .u64 ep) := HI4.out.g.cell 0
     have g1 : w4.cell? ⟨w.heap.size, 1, none⟩ = some (.slice a l.length c) := HI4.out.g.cell 1
     have x0 : w4.cell? ⟨w.heap.size + 1, 0, none⟩ = some (.int .u64 b.epoch) := HI4.out.x.cell 0
     have x1 : w4.cell? ⟨w.heap.size + 1, 1, none⟩ = some (.int .u64 b.base) := HI4.out.x.cell 1
     have x2 : w4.cell? ⟨w.heap.size + 1, 2, none⟩ = some (.slice ab b.entries.length cb) := HI4.out.x.cell 2
     have r0 : w4.cell? ⟨w.heap.size + 1 + 1, 0, none⟩ = some (.int .u64 0) := HI4.out.r.cell 0
     have r1 : w4.cell? ⟨w.heap.size + 1 + 1, 1, none⟩ = some (.slice none 0 0) := HI4.out.r.cell 1
     have f0 : w4.frozen? ⟨w.heap.size + 1 + 1, 0, none⟩ = false := HI4.out.r.free 0
     have f1 : w4.frozen? ⟨w.heap.size + 1 + 1, 1, none⟩ = false := HI4.out.r.free 1
     go_wp2_with fail
     have hb45 : Below w4.heap.size w4 (w4.alloc (.cells #[.int .u64 ep, .slice a4 l.length c4] 62)) := by (repeat first | with_reducible (first | exact zR | assumption | apply zA | apply zS | apply zD | apply zN) | refine zT (by with_reducible assumption) ?_ | omega | simp <;> omega)
     have hT5 := Blk.new w4 62 #[.int .u64 ep, .slice a4 l.length c4]
     have hz5 : w4.heap.size < (w4.alloc (.cells #[.int .u64 ep, .slice a4 l.length c4] 62)).heap.size := hT5.lt
     clear g0 g1 x0 x1 x2 r0 r1 f0 f1
     generalize w4.alloc (.cells #[.int .u64 ep, .slice a4 l.length c4] 62) = W5 at *
     have HI5 := hid (HI4.out.later hb45)
     have HT5 := hid hT5
     have HO5 := hid (OwnEls.below HO4.out hb45)
     have HNT : Hid (∀ g, (Value.slice a4 l.length c4).ownBlock = some g → w3.heap.size ≤ g ∧ g < w4.heap.size) := hid (by obtain ⟨cells, OA⟩ := HO4.out; exact own_lt OA.1)
     have t1 : W5.cell? ⟨w4.heap.size, 1, none⟩ = some (.slice a4 l.length c4) := hT5.cell 1
     have x0 : W5.cell? ⟨w.heap.size + 1, 0, none⟩ = some (.int .u64 b.epoch) := HI5.out.x.cell 0
     have x1 : W5.cell? ⟨w.heap.size + 1, 1, none⟩ = some (.int .u64 b.base) := HI5.out.x.cell 1
     have x2 : W5.cell? ⟨w.heap.size + 1, 2, none⟩ = some (.slice ab b.entries.length cb) := HI5.out.x.cell 2
     have hle16 : l.length < 16 := by have := d16; simp at this; omega
     clear hT5
     refine wp_region_last_held (fun w' => w'.cell? ⟨w4.heap.size, 1, none⟩ = some (.slice a4 l.length c4) ∧ w'.cell? ⟨w.heap.size + 1, 0, none⟩ = some (.int .u64 b.epoch) ∧ w'.cell? ⟨w.heap.size + 1, 1, none⟩ = some (.int .u64 b.base) ∧ w'.cell? ⟨w.heap.size + 1, 2, none⟩ = some (.slice ab b.entries.length cb)) _ (by kernel_rfl) rfl (by kernel_rfl) ⟨t1, x0, x1, x2⟩ (fun hHeld => ?_)
     simp only [noopLast, noopOf]
     refine wpAnyH_take (i := 0) (oi := _) (v := ?_) rfl (by decide +kernel) (by decide +kernel) (by decide +kernel) (fun _ _ _ h => h) (Or.inl ⟨by rfl, ?_⟩) (by assumption) ?_
     rotate_left
     ·(intro w hSw; (try dsimp only at hSw); go_simp <;> with_reducible rfl)
     (try simp only [Act.put, List.setIfInBounds_toArray, List.set_cons_zero, List.set_cons_succ])
     refine wpAnyH_take (i := 1) (oi := _) (v := ?_) rfl (by decide +kernel) (by decide +kernel) (by decide +kernel) (fun _ _ _ h => h) (Or.inl ⟨by rfl, ?_⟩) (by assumption) ?_
     rotate_left
     ·(intro w hSw; (try dsimp only at hSw); go_simp <;> with_reducible rfl)
     (try simp only [Act.put, List.setIfInBounds_toArray, List.set_cons_zero, List.set_cons_succ])
     refine wpAnyH_take (i := 2) (oi := _) (v := ?_) rfl (by decide +kernel) (by decide +kernel) (by decide +kernel) (fun _ _ _ h => h) (Or.inl ⟨by rfl, ?_⟩) (by assumption) ?_
     rotate_left
     ·(intro w hSw; (try dsimp only at hSw); go_simp <;> with_reducible rfl)
     (try simp only [Act.put, List.setIfInBounds_toArray, List.set_cons_zero, List.set_cons_succ])
     refine wpAnyH_ready (rs := [3]) (by decide +kernel) (by simp) ?_
     refine AllReadyH.cons (o := _) rfl (fun K hK => ?_) AllReadyH.nil
     (go_simp; go_at_call 27; refine (HBC.out _ (HI5.out.below.trans (Below.refl _ _).drew)).mono ?_; rintro e1 w6 ⟨v6, rfl, hv6, hb6⟩; obtain ⟨a6, c6, hfv, hr6, _⟩ := sl_form hv6; simp only [List.cons.injEq, and_true] at hfv; subst hfv; have hb56 : Below W5.heap.size W5 w6 := below_then hb6 (Below.refl _ _).drew; have HI6 := hid (HI5.out.later hb56); have HT6 := hid (HT5.out.later hb56); have k1 : w6.cell? ⟨w4.heap.size, 1, none⟩ = some (.slice a4 l.length c4) := HT6.out.cell 1; have y0 : w6.cell? ⟨w.heap.size + 1, 0, none⟩ = some (.int .u64 b.epoch) := HI6.out.x.cell 0; have y1 : w6.cell? ⟨w.heap.size + 1, 1, none⟩ = some (.int .u64 b.base) := HI6.out.x.cell 1; have y2 : w6.cell? ⟨w.heap.size + 1, 2, none⟩ = some (.slice ab b.entries.length cb) := HI6.out.x.cell 2; have HB46 := hid (below_then hb56 hb45); have HR6 := hid (rEntries.mono (S' := fun q => W5.heap.size ≤ q ∧ q < w6.heap.size) hr6 fun q hq => by simpa [Fresh] using hq); have hz6 := hb56.size; clear hv6 hr6 hb6 hb56; (try dsimp only))
     refine hK.out _ _ ?_ (fun hHeld => ?_)
     ·((try dsimp only); refine ⟨?_, ?_, ?_, ?_⟩ <;> (first | assumption | (go_keep; done)))
     clear hK K
     (try simp only [Act.put, List.setIfInBounds_toArray, List.set_cons_zero, List.set_cons_succ])
     refine wpAnyH_ready (rs := [4]) (by decide +kernel) (by simp) ?_
     refine AllReadyH.cons (o := _) rfl (fun K hK => ?_) AllReadyH.nil
     go_simp
     refine hK.out _ _ ?_ (fun hHeld => ?_)
     ·((try dsimp only); refine ⟨?_, ?_, ?_, ?_⟩ <;> (first | assumption | (go_keep; done)))
     clear hK K
     (try simp only [Act.put, List.setIfInBounds_toArray, List.set_cons_zero, List.set_cons_succ])
     refine wpAnyH_ready (rs := [5]) (by decide +kernel) (by simp) ?_
     refine AllReadyH.cons (o := _) rfl (fun K hK => ?_) AllReadyH.nil
     (have hb67 : Below w6.heap.size w6 (w6.alloc (.cells #[.int .u64 b.epoch, .int .u64 b.base, .slice a6 b.entries.length c6] 25)) := below_alloc (Below.refl _ _) _; have hb47 := below_then hb67 HB46.out; obtain ⟨cells, OA4⟩ := HO4.out; have OF7 := ((OwnElsF.of OA4).keep (w' := (w6.alloc (.cells #[.int .u64 b.epoch, .int .u64 b.base, .slice a6 b.entries.length c6] 25))) (fun q hq => hb47.block q hq.2) (fun g hg => hb47.block g (HNT.out g hg).2)).mono (F' := fun q => (w3.heap.size ≤ q ∧ q < w4.heap.size) ∨ (W5.heap.size ≤ q ∧ q < (w6.alloc (.cells #[.int .u64 b.epoch, .int .u64 b.base, .slice a6 b.entries.length c6] 25)).heap.size)) (fun q hq => .inl hq); have hx : rBatch.r (fun q => ((w3.heap.size ≤ q ∧ q < w4.heap.size) ∨ (W5.heap.size ≤ q ∧ q < (w6.alloc (.cells #[.int .u64 b.epoch, .int .u64 b.base, .slice a6 b.entries.length c6] 25)).heap.size)) ∧ (Value.slice a4 l.length c4).ownBlock ≠ some q) (w6.alloc (.cells #[.int .u64 b.epoch, .int .u64 b.base, .slice a6 b.entries.length c6] 25)) [.int .u64 b.epoch, .int .u64 b.base, .slice a6 b.entries.length c6] b := batch_mk hb0 hb1 (rEntries.mono (rEntries.keep HR6.out fun q hq => Below.heap_alloc w6 _ q hq.2) fun q hq => ⟨.inr ⟨hq.1, by have := hq.2; simp; omega⟩, fun e => by have := (HNT.out q e).2; have := hq.1; omega⟩); have HX := hid hx; have HA := hid OF7; clear hx OF7 OA4; refine step_append_src (by rfl) _ _ _ (by rfl) w3.heap.size 25 i0 (.agg #[.int .u64 0, .int .u64 0, .slice none 0 0]) 3 40 Tryz.underlying60 hi hz0 hz1 hz2 rfl (by decide) (.slice a4 l.length c4) l.length _ (by rfl) HA.out.1 (some ⟨w6.heap.size, 0, none⟩) 1 1 [.int .u64 b.epoch, .int .u64 b.base, .slice a6 b.entries.length c6] (by rfl) (src_new1 w6 25 _ (by rfl) (by rfl) rfl) (by intro u hu; simp at hu; rcases hu with rfl | rfl | rfl <;> rfl) (by simp only [maxLen]; omega) (by omega) (by simp; omega) ?_; intro a8 c8 w8 hown8 hgrow8 hat8; have HP8 := hid (OwnElsF.push HA.out (fun q hq => by rcases hq with hq | hq <;> (simp at hq ⊢; omega)) rfl HX.out hown8 hgrow8 hat8); have HA8 := hid hat8; have HI8 := hid ((HI6.out.later hb67).grown hgrow8 (fun g e => by have := (HNT.out g e).1; omega)); have HT8 := hid ((HT6.out.later hb67).grown hgrow8 (fun e => by have := (HNT.out _ e.symm).2; omega)); have m1 : w8.cell? ⟨w4.heap.size, 1, none⟩ = some (.slice a4 l.length c4) := HT8.out.cell 1; have m2 : w8.frozen? ⟨w4.heap.size, 1, none⟩ = false := HT8.out.free 1; have m3 : w8.cell? ⟨w4.heap.size, 0, none⟩ = some (.int .u64 ep) := HT8.out.cell 0; have m4 : w4.heap.size < w8.heap.size := HT8.out.lt; have n0 : w8.cell? ⟨w.heap.size + 1, 0, none⟩ = some (.int .u64 b.epoch) := HI8.out.x.cell 0; have n1 : w8.cell? ⟨w.heap.size + 1, 1, none⟩ = some (.int .u64 b.base) := HI8.out.x.cell 1; have n2 : w8.cell? ⟨w.heap.size + 1, 2, none⟩ = some (.slice ab b.entries.length cb) := HI8.out.x.cell 2; have hz8 : w6.heap.size + 1 ≤ w8.heap.size := Nat.le_trans (by simp) hgrow8.size; clear hown8 hgrow8 hat8 hb67)
     refine hK.out _ _ ?_ (fun hHeld => ?_)
     ·((try dsimp only); refine ⟨?_, ?_, ?_, ?_⟩ <;> (first | assumption | (go_keep; done)))
     clear hK K
     (try simp only [Act.put, List.setIfInBounds_toArray, List.set_cons_zero, List.set_cons_succ])
     refine wpAnyH_take (i := 6) (oi := _) (v := ?_) rfl (by decide +kernel) (by decide +kernel) (by decide +kernel) (fun _ _ _ h => h) (Or.inl ⟨by rfl, ?_⟩) (by assumption) ?_
     rotate_left
     ·(intro w hSw; (try dsimp only at hSw); go_simp <;> with_reducible rfl)
     (try simp only [Act.put, List.setIfInBounds_toArray, List.set_cons_zero, List.set_cons_succ])
     refine wpAnyH_take (i := 7) (oi := _) (v := ?_) rfl (by decide +kernel) (by decide +kernel) (by decide +kernel) (fun _ _ _ h => h) (Or.inl ⟨by rfl, ?_⟩) (by assumption) ?_
     rotate_left
     ·(intro w hSw; (try dsimp only at hSw); go_simp <;> with_reducible rfl)
     (try simp only [Act.put, List.setIfInBounds_toArray, List.set_cons_zero, List.set_cons_succ])
     refine wpAnyH_done (by kernel_rfl) ?_ _
     show wpList _ _ _ _ _ _
     have r0 : w8.cell? ⟨w.heap.size + 1 + 1, 0, none⟩ = some (.int .u64 0) := HI8.out.r.cell 0
     have r1 : w8.cell? ⟨w.heap.size + 1 + 1, 1, none⟩ = some (.slice none 0 0) := HI8.out.r.cell 1
     have f0 : w8.frozen? ⟨w.heap.size + 1 + 1, 0, none⟩ = false := HI8.out.r.free 0
     have f1 : w8.frozen? ⟨w.heap.size + 1 + 1, 1, none⟩ = false := HI8.out.r.free 1
     have hrz : w.heap.size + 1 + 1 < w8.heap.size := HI8.out.r.lt
     have hne : w.heap.size + 1 + 1 ≠ w4.heap.size := by omega
     have HPL := hid (OwnElsF.slice HP8.out)
     go_wp2
     refine bodyPost_ret (v := .tuple #[.agg #[.int .u64 ep, .slice a8 (l.length + 1) c8], .int .i64 0]) (by simp [results, Tryz.results40, go_sem, World.cell?_setCell_far, r0, r1, hne]) rfl ⟨_, _, rfl, rfl, ?_, ?_⟩
     ·have hw : ∀ q, (((w3.heap.size ≤ q ∧ q < w4.heap.size) ∨ (W5.heap.size ≤ q ∧ q < (w6.alloc (.cells #[.int .u64 b.epoch, .int .u64 b.base, .slice a6 b.entries.length c6] 25)).heap.size)) ∨ (Value.slice a8 (l.length + 1) c8).ownBlock = some q) → w3.heap.size ≤ q ∧ q ≠ w4.heap.size ∧ q < w8.heap.size := fun q hq => by
       have hal : (w6.alloc (.cells #[.int .u64 b.epoch, .int .u64 b.base, .slice a6 b.entries.length c6] 25)).heap.size = w6.heap.size + 1 := by simp
       rw [hal] at hq
       rcases hq with (hq | hq) | hq
       ·omega
       ·omega
       ·have h1 := own_lt HP8.out.1 q hq
        refine ⟨h1.1, ?_, h1.2⟩
        rcases HA8.out with e | e
        ·have := HNT.out q (e ▸ hq); omega
        ·rw [hq, hal] at e; have := Option.some.inj e; omega
      refine rBatches.mono (rBatches.keep HPL.out fun q hq => ?_) fun q hq => ?_
      ·have := hw q hq
       rw [Below.heap_setCell _ _ _ _ (by dsimp only; omega), Below.heap_setCell _ _ _ _ (by dsimp only; omega), Below.heap_setCell _ _ _ _ (by dsimp only; omega)]
      ·have := hw q hq
       exact ⟨by omega, by simp; omega⟩
     ·have hb9 := HI8.out.below
      exact ((hb9.setCell (by dsimp only; omega) _).setCell (by dsimp only; omega) _).setCell (by dsimp only; omega) _
end Go.Proofs.YtkipiefcnjfdjaaGreat
namespace Go.Proofs.YtkipiefcnjfdjaaGreat
open Go.RowKit Go.Bs Go.Maps
set_option linter.unusedVariables false
set_option linter.unusedSimpArgs false
def segZ : List Value := [.int .u64 0, .int .i64 0, .int .i64 0, .int .u64 0, .int .u64 0, .int .i64 0, .int .i64 0]
structure SegI (w W : World) (ep : Int) (a : Option Addr) (n c : Nat) (J : List UInt8) (M : List MarkD) (aJ : Option Addr) (cJ : Nat) (aM : Option Addr) (cM : Nat) : Prop where
 below : Below w.heap.size w W
 bx : Blk W w.heap.size 62 #[.int .u64 ep, .slice a n c]
 br : Blk W (w.heap.size + 1) 153 (.slice none 0 0 :: .slice none 0 0 :: segZ).toArray
 x : Blk W (w.heap.size + 2) 153 (.slice aJ J.length cJ :: .slice aM M.length cM :: segZ).toArray
 j : OwnB W (w.heap.size + 3) (.slice aJ J.length cJ) J
 m : MarksAt W (w.heap.size + 3) (.slice aM M.length cM) M
section
variable {w W : World} {ep : Int} {a : Option Addr} {n c : Nat} {J : List UInt8} {M : List MarkD} {aJ : Option Addr} {cJ : Nat} {aM : Option Addr} {cM : Nat}
theorem MarksAt.below {W W' : World} {b : Nat} {v : Value} {M : List MarkD} (h : MarksAt W b v M) (hb : Below W.heap.size W W') : MarksAt W' b v M := ⟨own_below h.own hb, h.nat⟩
theorem SegI.later (h : SegI w W ep a n c J M aJ cJ aM cM) {W' : World} (hb : Below W.heap.size W W') : SegI w W' ep a n c J M aJ cJ aM cM :=
 ⟨below_then hb h.below, h.bx.later hb, h.br.later hb, h.x.later hb, own_below h.j hb, h.m.below hb⟩
theorem SegI.ne (h : SegI w W ep a n c J M aJ cJ aM cM) : ∀ b, (Value.slice aJ J.length cJ).ownBlock = some b → (Value.slice aM M.length cM).ownBlock ≠ some b := own_ne h.j h.m.own (by decide)
theorem SegI.far {v : Value} {u : Nat} {xs : List Value} {e : TypeId} {sz : Nat} (h : W.ownsRow (w.heap.size + 3) e sz v u xs) {b : Nat} (hb : b < w.heap.size + 3) : v.ownBlock ≠ some b := fun e => by have := (own_lt h b e).1; omega
theorem SegI.more (h : SegI w W ep a n c J M aJ cJ aM cM) {W2 : World} {D : List UInt8} {aJ' : Option Addr} {cJ' : Nat}
  (hown : W2.ownsRow (w.heap.size + 3) 5 1 (.slice aJ' (J.length + D.length) cJ') (J.length + D.length) (byteCells J ++ byteCells D)) (hg : W.grownBy W2 (Value.slice aJ J.length cJ).ownBlock) :
  SegI w (W2.setCell ⟨w.heap.size + 2, 0, none⟩ (.slice aJ' (J.length + D.length) cJ')) ep a n c (J ++ D) M aJ' cJ' aM cM := by
 have hl : (J ++ D).length = J.length + D.length := by simp
 have hb2 : Below w.heap.size w W2 := h.below.grown hg h.below.size (fun g e => by have := (own_lt h.j g e).1; omega)
 have f2 : (Value.slice aJ' (J.length + D.length) cJ').ownBlock ≠ some (w.heap.size + 2) := SegI.far hown (by omega)
 refine ⟨hb2.setCell (by dsimp only; omega) _, ?_, ?_, ?_, ?_, ?_, h.m.nat⟩
 ·exact (h.bx.grown hg (fun e => SegI.far h.j (by omega) e.symm)).far (by dsimp only; omega) _
 ·exact (h.br.grown hg (fun e => SegI.far h.j (by omega) e.symm)).far (by dsimp only; omega) _
 ·rw [hl]
  exact (h.x.grown hg (fun e => SegI.far h.j (by omega) e.symm)).set 0 _
 ·have ho : OwnB W2 (w.heap.size + 3) (.slice aJ' (J.length + D.length) cJ') (J ++ D) := OwnB.app hown
  rw [hl]
  exact own_stays ho fun b hv hl => Below.heap_setCell _ _ _ _ (fun e => f2 (by rw [hv, e]))
 ·refine own_stays (own_stays h.m.own fun b hv hl => hg.block b hl (fun e => h.ne b e.symm hv)) fun b hv hl => Below.heap_setCell _ _ _ _ (fun e => ?_)
  have := (own_lt h.m.own b hv).1
  dsimp only at e
  omega
end
end Go.Proofs.YtkipiefcnjfdjaaGreat
