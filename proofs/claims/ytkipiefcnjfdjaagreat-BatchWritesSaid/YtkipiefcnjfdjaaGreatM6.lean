/- An append with a guard that lets it through. How long links, entries, batches and segments are: the laws' guards. Links, heads, batches as bytes: plain; numbers put by a pen. Falling lists and links, put by a pen; how many bytes they have (written by gen_bab.py). Links, an entry's head, put by a pen; how many bytes they have. Heads' sizes; an entry's head, an epoch, a position, put by a pen. A batch, put by a pen; its bytes. A batch's bytes: batch.Put, batch.Bytes. The document's bytes of falling lists and links. The document's bytes of links, heads and batches (written by gen_bah.py). The document's bytes of heads and batches (written by gen_bai.py). The document's bytes of batches (written by gen_baj.py). The document's bytes of a batch; links, entries and batches compared (written by gen_bak.py). The document's example of a batch. BatchWrites: for every input the law returns true. -/
import Derived.Test.YtkipiefcnjfdjaaGreatOwn
import Derived.Test.YtkipiefcnjfdjaaGreatStM
import Derived.Test.YtkipiefcnjfdjaaGreatM4
import Derived.Test.YtkipiefcnjfdjaaGreatStI
import Derived.Test.YtkipiefcnjfdjaaGreatStR
import Derived.Laws.MakeOwn
import Derived.Deep.RegionHeld3
import Derived.Test.YtkipiefcnjfdjaaGreatLast
import Derived.Test.YtkipiefcnjfdjaaGreatStQ
import Derived.Test.YtkipiefcnjfdjaaGreatOpens
namespace Go.Bs
open Go.RowKit Go.Maps
set_option linter.unusedVariables false
set_option linter.unusedSimpArgs false
section
variable {P : Program} {w : World}
theorem wpList_append_srcg {ops : Array Oper} {rest : List Oper} {o : Oper} {a : Act} {Q : Exit → Act → World → Prop} (hgd : Region.wanted o (yielded ops a.tmps) = true) (s x : Operand) (t : TypeId)
    (ho : o.op = .call { callee := .builtin .append, args := #[s, x], argTypes := #[t, t] })
    (base : Nat) (e : TypeId) (i : TypeInfo) (z : Value) (size bytes : Nat) (ht : P.underlying t = some (.slice e)) (hi : P.info? e = some i) (hz : i.zero = some z)
    (hsize : i.size = size) (hby : i.bytes = bytes) (hzs : z.cells.size = size) (hsz : 0 < size)
    (v : Value) (n : Nat) (xs : List Value) (hs : a.eval s = v) (hown : w.ownsRow base e size v n xs)
    (A : Option Addr) (m c : Nat) (news : List Value) (hx : a.eval x = .slice A m c) (hsrc : Src w A m size news) (h1 : ∀ u ∈ news, u.oneCell' = true)
    (h63 : n + m ≤ maxLen) (hbytes : (n + m) * bytes ≤ 140737488355328) (hbase : base ≤ w.heap.size)
    (h : ∀ v' w', w'.ownsRow base e size v' (n + m) (xs ++ news) → w.grownBy w' v.ownBlock → (v'.ownBlock = v.ownBlock ∨ v'.ownBlock = some w.heap.size) → wpList P ops Q rest (a.put o.dst v') w') : wpList P ops Q (o :: rest) a w :=
  wpList_step fun _ hK => by
    rw [if_pos hgd]
    obtain ⟨v', w', hrun, h2, h3, h4⟩ := run_append_src (P := P) base t o.type e i z size bytes ht hi hz hsize hby hzs hsz v n xs hown A m c news hsrc h1 h63 hbytes hbase
    unfold Oper.wp execOp
    simp only [ho, resolve, invoke, builtin, Sem.run_bind, Sem.run_pure, Result.andThen_ok, List.map_toArray, List.map_cons, List.map_nil, hs, hx, hrun]
    exact hK _ _ (h v' w' h2 h3 h4)

end
end Go.Bs
namespace Go.Proofs.YtkipiefcnjfdjaaGreat
open Go.RowKit Go.Bs
set_option linter.unusedVariables false
set_option linter.unusedSimpArgs false

/-- More than K things, or one of the first K ones is too long. -/
def longG {α : Type} (K : Nat) (p : α → Bool) (l : List α) : Bool := decide (K < l.length) || (l.take K).any p
def longGAt {α : Type} (K : Nat) (p : α → Bool) (l : List α) (k : Nat) : Bool := decide (K < l.length) || ((l.take K).drop k).any p
theorem longG_no {α : Type} {K : Nat} {p : α → Bool} {l : List α} (h : longG K p l = false) : l.length ≤ K ∧ ∀ x ∈ l, p x = false := by
  simp only [longG, Bool.or_eq_false_iff, decide_eq_false_iff_not, List.any_eq_false] at h
  obtain ⟨h1, h2⟩ := h
  rw [List.take_of_length_le (by omega)] at h2
  exact ⟨by omega, fun x hx => by simpa using h2 x hx⟩
theorem longGAt_step {α : Type} (K : Nat) (p : α → Bool) (l : List α) (k : Nat) (h : k < l.length) (h2 : k < K) : longGAt K p l k = (p l[k] || longGAt K p l (k + 1)) := by
  unfold longGAt
  have e : (l.take K)[k]'(by simp; omega) = l[k] := by simp
  rw [List.drop_eq_getElem_cons (show k < (l.take K).length by simp; omega), List.any_cons, e]
  cases decide (K < l.length) <;> cases p l[k] <;> simp
theorem longGAt_end {α : Type} (K : Nat) (p : α → Bool) (l : List α) (k : Nat) (h : l.length ≤ k ∨ K ≤ k) : longGAt K p l k = decide (K < l.length) := by
  unfold longGAt
  rw [List.drop_of_length_le (by simp; omega)]
  simp

def long23 (l : List Link) : Bool := longG 50 (fun x => decide (50 < x.backs.length)) l
def long24 (e : Entry) : Bool := long23 e.links || decide (500 < e.data.length)
def many24 (l : List Entry) : Bool := longG 30 long24 l
def long25 (l : List Entry) : Bool := many24 l || decide (300 < total (l.take 30))
def long34 (l : List Batch) : Bool := longG 20 (fun b => long25 b.entries) l

set_option maxRecDepth 100000 in
set_option maxHeartbeats 1600000 in
theorem law23_long (l : List Link) (a : Option Addr) (n c : Nat) (w : World) (hl : rLinks.r (· < w.heap.size) w [.slice a n c] l) :
    Calls Tryz.prog 190 #[.slice a n c] w fun r w' => r = .returned (.bool (long23 l)) ∧ Below w.heap.size w w' := by
  obtain ⟨rfl, hm, _, _⟩ := sl_len hl
  have HL := hid hl; clear hl
  go_enter Tryz.func190, Tryz.ntmps190
  go_wp2_with fail
  go_loop [3] (fun i => ∃ k : Nat, k ≤ l.length ∧ k ≤ 50 ∧ i = .int .i64 k ∧ Hid (long23 l = longGAt 50 (fun x => decide (50 < x.backs.length)) l k)) (fun i => l.length - (intOf i).toNat)
  case atStart => exact ⟨0, Nat.zero_le _, Nat.zero_le _, rfl, hid rfl⟩
  case round =>
    obtain ⟨k, hk, hk2, rfl, hf⟩ := hrel
    by_cases hlt : k < l.length
    · by_cases h450 : k < 50
      · obtain ⟨b, o, hA, hbb, a1, c1, X0, X1, _, _⟩ := link_at HL.out hlt
        subst hA
        have hst := hid (longGAt_step 50 (fun x => decide (50 < x.backs.length)) l k hlt h450)
        generalize l[k] = x at *
        generalize x.stream = xs at *
        generalize x.backs.length = n1 at *
        by_cases h3 : 50 < n1
        · have hff : Hid (long23 l = true) := hid (by rw [hf.out, hst.out]; simp [h3])
          have d3 : decide ((50 : Int) < (n1 : Int)) = true := by simp; omega
          clear h3
          go_wp2
          go_ret
          exact ⟨by rw [hff.out]; rfl, by (repeat (first | exact Below.refl _ _ | assumption | (refine below_alloc ?_ _) | (refine Below.setCell ?_ (by first | omega | (simp; done) | (simp; omega)) _) | (refine Below.drew ?_) | (refine below_drewN ?_ _) | (refine below_then (by assumption) ?_)))⟩
        · have hff : Hid (long23 l = longGAt 50 (fun x => decide (50 < x.backs.length)) l (k + 1)) := hid (by rw [hf.out, hst.out]; simp [h3])
          have d3 : decide ((50 : Int) < (n1 : Int)) = false := by simp; omega
          clear h3
          go_wp2
          go_round
          case rel => exact ⟨k + 1, by omega, by omega, by go_num, hff⟩
          case measure => simp [intOf]; omega
      · have hff : Hid (long23 l = decide ((50 : Int) < (l.length : Int))) := hid (by rw [hf.out, longGAt_end _ _ l k (.inr (by omega))]; simp only [decide_eq_decide]; omega)
        go_wp2
        go_ret
        exact ⟨by rw [hff.out]; rfl, by (repeat (first | exact Below.refl _ _ | assumption | (refine below_alloc ?_ _) | (refine Below.setCell ?_ (by first | omega | (simp; done) | (simp; omega)) _) | (refine Below.drew ?_) | (refine below_drewN ?_ _) | (refine below_then (by assumption) ?_)))⟩
    · have hff : Hid (long23 l = decide ((50 : Int) < (l.length : Int))) := hid (by rw [hf.out, longGAt_end _ _ l k (.inl (by omega))]; simp only [decide_eq_decide]; omega)
      go_wp2
      go_ret
      exact ⟨by rw [hff.out]; rfl, by (repeat (first | exact Below.refl _ _ | assumption | (refine below_alloc ?_ _) | (refine Below.setCell ?_ (by first | omega | (simp; done) | (simp; omega)) _) | (refine Below.drew ?_) | (refine below_drewN ?_ _) | (refine below_then (by assumption) ?_)))⟩

set_option maxHeartbeats 800000 in
theorem law24_long (x : Entry) (a a' : Option Addr) (n c n' c' : Nat) (w : World) (hl : rLinks.r (· < w.heap.size) w [.slice a n c] x.links) (hd : rBytes.r (· < w.heap.size) w [.slice a' n' c'] x.data) :
    Calls Tryz.prog 128 #[.agg #[.slice a n c, .slice a' n' c']] w fun r w' => r = .returned (.bool (long24 x)) ∧ Below w.heap.size w w' := by
  obtain ⟨rfl, hm, _, _⟩ := sl_len hl
  obtain ⟨rfl, hm', _, _⟩ := sl_len hd
  have HL := hid hl; clear hl hd
  have HLL := hid (show long24 x = (long23 x.links || decide (500 < x.data.length)) from rfl)
  go_enter Tryz.func128, Tryz.ntmps128
  go_wp2_with fail
  refine (law23_long x.links _ _ _ _ (lift HL.out (by (repeat (first | exact Below.refl _ _ | assumption | (refine below_alloc ?_ _) | (refine Below.setCell ?_ (by first | omega | (simp; done) | (simp; omega)) _) | (refine Below.drew ?_) | (refine below_drewN ?_ _) | (refine below_then (by assumption) ?_)))))).mono ?_
  rintro r w1 ⟨rfl, hb1⟩
  cases h : long23 x.links
  · have hff : Hid (long24 x = decide ((500 : Int) < (x.data.length : Int))) := hid (by rw [HLL.out, h, Bool.false_or]; simp only [decide_eq_decide]; omega)
    clear h
    have c1 : w1.cell? ⟨w.heap.size, 1, none⟩ = some (.slice a' x.data.length c') := (Later.mk w1 hb1).cell (by go_simp)
    go_wp2
    go_ret
    exact ⟨by rw [hff.out]; rfl, by (repeat (first | exact Below.refl _ _ | assumption | (refine below_alloc ?_ _) | (refine Below.setCell ?_ (by first | omega | (simp; done) | (simp; omega)) _) | (refine Below.drew ?_) | (refine below_drewN ?_ _) | (refine below_then (by assumption) ?_)))⟩
  · have hff : Hid (long24 x = true) := hid (by rw [HLL.out, h]; rfl)
    clear h
    go_wp2
    go_ret
    exact ⟨by rw [hff.out]; rfl, by (repeat (first | exact Below.refl _ _ | assumption | (refine below_alloc ?_ _) | (refine Below.setCell ?_ (by first | omega | (simp; done) | (simp; omega)) _) | (refine Below.drew ?_) | (refine below_drewN ?_ _) | (refine below_then (by assumption) ?_)))⟩

set_option maxRecDepth 100000 in
set_option maxHeartbeats 1600000 in
theorem law24_many (l : List Entry) (a : Option Addr) (n c : Nat) (w : World) (hl : rEntries.r (· < w.heap.size) w [.slice a n c] l) :
    Calls Tryz.prog 68 #[.slice a n c] w fun r w' => r = .returned (.bool (many24 l)) ∧ Below w.heap.size w w' := by
  obtain ⟨rfl, hm, _, _⟩ := sl_len hl
  have HL := hid hl; clear hl
  go_enter Tryz.func68, Tryz.ntmps68
  go_wp2_with fail
  go_loopw [3] (fun i wr => ∃ k : Nat, k ≤ l.length ∧ k ≤ 30 ∧ i = .int .i64 k ∧ Hid (many24 l = longGAt 30 long24 l k) ∧ Below w.heap.size w wr) (fun i _ => l.length - (intOf i).toNat)
  case atStart => exact ⟨0, Nat.zero_le _, Nat.zero_le _, rfl, hid rfl, Below.refl _ _⟩
  case round =>
    obtain ⟨k, hk, hk2, rfl, hf, hb⟩ := hrel
    by_cases hlt : k < l.length
    · by_cases h450 : k < 30
      · obtain ⟨b, o, hA, hbb, a1, c1, a2, c2, X0, X1, hd1, hd2⟩ := entry_at (lift HL.out hb) hlt
        subst hA
        have hst := hid (longGAt_step 30 long24 l k hlt h450)
        have HD1 := hid hd1; have HD2 := hid hd2; clear hd1 hd2
        generalize l[k] = x at *
        go_wp2_with fail
        refine (law24_long x _ _ _ _ _ _ _ HD1.out HD2.out).mono ?_
        rintro r w1 ⟨rfl, hb1⟩
        have hb2 := below_then hb1 hb
        cases h3 : long24 x
        · have hff : Hid (many24 l = longGAt 30 long24 l (k + 1)) := hid (by rw [hf.out, hst.out, h3]; rfl)
          clear h3
          go_wp2
          go_roundw
          case rel => exact ⟨k + 1, by omega, by omega, by go_num, hff, hb2⟩
          case measure => simp [intOf]; omega
        · have hff : Hid (many24 l = true) := hid (by rw [hf.out, hst.out, h3]; rfl)
          clear h3
          go_wp2
          go_ret
          exact ⟨by rw [hff.out]; rfl, hb2⟩
      · have hff : Hid (many24 l = decide ((30 : Int) < (l.length : Int))) := hid (by rw [hf.out, longGAt_end _ _ l k (.inr (by omega))]; simp only [decide_eq_decide]; omega)
        go_wp2
        go_ret
        exact ⟨by rw [hff.out]; rfl, hb⟩
    · have hff : Hid (many24 l = decide ((30 : Int) < (l.length : Int))) := hid (by rw [hf.out, longGAt_end _ _ l k (.inl (by omega))]; simp only [decide_eq_decide]; omega)
      go_wp2
      go_ret
      exact ⟨by rw [hff.out]; rfl, hb⟩

theorem many24_no {l : List Entry} (h : many24 l = false) : l.length ≤ 30 ∧ ∀ x ∈ l, x.data.length ≤ 500 ∧ x.links.length ≤ 50 ∧ ∀ y ∈ x.links, y.backs.length ≤ 50 := by
  obtain ⟨h1, h2⟩ := longG_no h
  refine ⟨h1, fun x hx => ?_⟩
  have := h2 x hx
  simp only [long24, Bool.or_eq_false_iff, decide_eq_false_iff_not] at this
  obtain ⟨h3, h4⟩ := longG_no this.1
  exact ⟨by omega, h3, fun y hy => by have := h4 y hy; simpa using this⟩
theorem total_bound {l : List Entry} {k : Nat} (h : ∀ x ∈ l, x.data.length ≤ k) : total l ≤ k * l.length := by
  induction l with
  | nil => exact Nat.zero_le _
  | cons x l ih =>
    have h1 := ih fun y hy => h y (List.mem_cons_of_mem _ hy)
    have h2 := h x (List.mem_cons_self ..)
    simp only [total, List.map_cons, List.sum_cons, List.length_cons] at *
    rw [Nat.mul_succ]; omega

set_option maxRecDepth 100000 in
set_option maxHeartbeats 3200000 in
theorem law25_long (e b : Int) (l : List Entry) (a : Option Addr) (n c : Nat) (w : World) (hl : rEntries.r (· < w.heap.size) w [.slice a n c] l) :
    Calls Tryz.prog 15 #[.agg #[.int .u64 e, .int .u64 b, .slice a n c]] w fun r w' => r = .returned (.bool (long25 l)) ∧ Below w.heap.size w w' := by
  obtain ⟨rfl, hm, _, _⟩ := sl_len hl
  have HL := hid hl; clear hl
  have HLL := hid (show long25 l = (many24 l || decide (300 < total (l.take 30))) from rfl)
  cases hmn : many24 l
  · obtain ⟨g1, g2⟩ := many24_no hmn
    have ht := total_bound (k := 500) (fun x hx => (g2 x hx).1)
    have hff : Hid (long25 l = decide ((300 : Int) < ((total l : Nat) : Int))) := hid (by rw [HLL.out, hmn, Bool.false_or, List.take_of_length_le g1]; simp only [decide_eq_decide]; omega)
    have hM := fun W h => law24_many l a l.length c W h
    rw [hmn] at hM
    have HM := hid hM; clear hM hmn g2
    have HT := hid ht; clear ht
    go_enter Tryz.func15, Tryz.ntmps15
    go_wp2_with fail
    refine wp_world (fun W => Below w.heap.size w W ∧ w.heap.size < W.heap.size ∧ W.cell? ⟨w.heap.size, 2, none⟩ = some (.slice a l.length c)) ⟨by (repeat (first | exact Below.refl _ _ | assumption | (refine below_alloc ?_ _) | (refine Below.setCell ?_ (by first | omega | (simp; done) | (simp; omega)) _) | (refine Below.drew ?_) | (refine below_drewN ?_ _) | (refine below_then (by assumption) ?_))), by simp, by go_simp⟩ ?_
    intro W ⟨hbW, hzW, q2⟩
    go_loop [3, 4] (fun s i => ∃ k : Nat, k ≤ l.length ∧ i = .int .i64 k ∧ s = .int .i64 (total (l.take k) : Nat)) (fun _ i => l.length - (intOf i).toNat)
    case atStart => exact ⟨0, Nat.zero_le _, rfl, rfl⟩
    case round =>
      obtain ⟨k, hk, rfl, rfl⟩ := hrel
      by_cases hlt : k < l.length
      · obtain ⟨bb, o, hA, hbb, a1, c1, a2, c2, X0, X1, _, _⟩ := entry_at (lift HL.out hbW) hlt
        subst hA
        have hs := hid (total_step l k hlt)
        have h1 := total_take_le l (k + 1)
        rw [hs.out] at h1
        have h2 := HT.out
        have d3 : decide ((k : Int) < 30) = true := by simp; omega
        generalize l[k].links.length = n1 at *
        generalize l[k].data.length = n2 at *
        generalize total (l.take k) = t at *
        generalize total l = tt at *
        have h3 : t + n2 ≤ 15000 := by omega
        clear h1 h2
        go_wp2
        go_round
        case rel => exact ⟨k + 1, by omega, by go_num, by rw [hs.out]; simp only [Int.natCast_add]⟩
        case measure => simp [intOf]; omega
      · obtain rfl : k = l.length := by omega
        rw [List.take_length]
        go_wp2_with fail
        refine (HM.out _ (lift HL.out hbW)).mono ?_
        rintro r w1 ⟨rfl, hb1⟩
        go_wp2
        go_ret
        exact ⟨by rw [hff.out]; rfl, below_then hb1 hbW⟩
  · have hff : Hid (long25 l = true) := hid (by rw [HLL.out, hmn]; rfl)
    have hM := fun W h => law24_many l a l.length c W h
    rw [hmn] at hM
    have HM := hid hM; clear hM hmn
    go_enter Tryz.func15, Tryz.ntmps15
    go_wp2_with fail
    refine wp_world (fun W => Below w.heap.size w W ∧ w.heap.size < W.heap.size ∧ W.cell? ⟨w.heap.size, 2, none⟩ = some (.slice a l.length c)) ⟨by (repeat (first | exact Below.refl _ _ | assumption | (refine below_alloc ?_ _) | (refine Below.setCell ?_ (by first | omega | (simp; done) | (simp; omega)) _) | (refine Below.drew ?_) | (refine below_drewN ?_ _) | (refine below_then (by assumption) ?_))), by simp, by go_simp⟩ ?_
    intro W ⟨hbW, hzW, q2⟩
    go_loop [3, 4] (fun s i => ∃ (k : Nat) (m : Int), k ≤ l.length ∧ k ≤ 30 ∧ i = .int .i64 k ∧ s = .int .i64 m) (fun _ i => l.length - (intOf i).toNat)
    case atStart => exact ⟨0, 0, Nat.zero_le _, Nat.zero_le _, rfl, rfl⟩
    case round =>
      obtain ⟨k, m, hk, hk2, rfl, rfl⟩ := hrel
      by_cases hlt : k < l.length
      · by_cases h30 : k < 30
        · obtain ⟨bb, o, hA, hbb, a1, c1, a2, c2, X0, X1, _, _⟩ := entry_at (lift HL.out hbW) hlt
          subst hA
          generalize l[k].links.length = n1 at *
          generalize l[k].data.length = n2 at *
          go_wp2
          go_round
          case rel => exact ⟨k + 1, _, by omega, by omega, by go_num, rfl⟩
          case measure => simp [intOf]; omega
        · go_wp2_with fail
          refine (HM.out _ (lift HL.out hbW)).mono ?_
          rintro r w1 ⟨rfl, hb1⟩
          go_wp2
          go_ret
          exact ⟨by rw [hff.out]; rfl, below_then hb1 hbW⟩
      · go_wp2_with fail
        refine (HM.out _ (lift HL.out hbW)).mono ?_
        rintro r w1 ⟨rfl, hb1⟩
        go_wp2
        go_ret
        exact ⟨by rw [hff.out]; rfl, below_then hb1 hbW⟩

theorem long25_no {l : List Entry} (h : long25 l = false) : l.length ≤ 30 ∧ total l ≤ 300 ∧ ∀ x ∈ l, x.data.length ≤ 500 ∧ x.links.length ≤ 50 ∧ ∀ y ∈ x.links, y.backs.length ≤ 50 := by
  simp only [long25, Bool.or_eq_false_iff, decide_eq_false_iff_not] at h
  obtain ⟨h1, h2⟩ := many24_no h.1
  rw [List.take_of_length_le h1] at h
  exact ⟨h1, by omega, h2⟩

set_option maxRecDepth 100000 in
set_option maxHeartbeats 1600000 in
theorem law34_long (e : Int) (l : List Batch) (a : Option Addr) (n c : Nat) (w : World) (hl : rBatches.r (· < w.heap.size) w [.slice a n c] l) :
    Calls Tryz.prog 38 #[.agg #[.int .u64 e, .slice a n c]] w fun r w' => r = .returned (.bool (long34 l)) ∧ Below w.heap.size w w' := by
  obtain ⟨rfl, hm, _, _⟩ := sl_len hl
  have HL := hid hl; clear hl
  go_enter Tryz.func38, Tryz.ntmps38
  go_wp2_with fail
  refine wp_world (fun W => Below w.heap.size w W ∧ w.heap.size < W.heap.size ∧ W.cell? ⟨w.heap.size, 1, none⟩ = some (.slice a l.length c)) ⟨by (repeat (first | exact Below.refl _ _ | assumption | (refine below_alloc ?_ _) | (refine Below.setCell ?_ (by first | omega | (simp; done) | (simp; omega)) _) | (refine Below.drew ?_) | (refine below_drewN ?_ _) | (refine below_then (by assumption) ?_))), by simp, by go_simp⟩ ?_
  intro W ⟨hbW, hzW, q2⟩
  go_loopw [3] (fun i wr => ∃ k : Nat, k ≤ l.length ∧ k ≤ 20 ∧ i = .int .i64 k ∧ Hid (long34 l = longGAt 20 (fun b => long25 b.entries) l k) ∧ Below W.heap.size W wr) (fun i _ => l.length - (intOf i).toNat)
  case atStart => exact ⟨0, Nat.zero_le _, Nat.zero_le _, rfl, hid rfl, Below.refl _ _⟩
  case round =>
    obtain ⟨k, hk, hk2, rfl, hf, hb⟩ := hrel
    have hb3 := below_then hb hbW
    have t1 : wr.cell? ⟨w.heap.size, 1, none⟩ = some (.slice a l.length c) := (Later.mk wr hb).cell q2
    have hz3 : w.heap.size < wr.heap.size := by have := hb.size; omega
    by_cases hlt : k < l.length
    · by_cases h450 : k < 20
      · obtain ⟨b, o, hA, hbb, a1, c1, X0, X1, X2, _, _, hd⟩ := batch_at (lift HL.out hb3) hlt
        subst hA
        have hst := hid (longGAt_step 20 (fun b => long25 b.entries) l k hlt h450)
        have HD := hid hd; clear hd
        generalize l[k] = x at *
        go_wp2_with fail
        refine (law25_long _ _ x.entries _ _ _ _ HD.out).mono ?_
        rintro r w1 ⟨rfl, hb1⟩
        have hb2 := below_then hb1 hb
        cases h3 : long25 x.entries
        · have hff : Hid (long34 l = longGAt 20 (fun b => long25 b.entries) l (k + 1)) := hid (by rw [hf.out, hst.out]; simp [h3])
          clear h3
          go_wp2
          go_roundw
          case rel => exact ⟨k + 1, by omega, by omega, by go_num, hff, hb2⟩
          case measure => simp [intOf]; omega
        · have hff : Hid (long34 l = true) := hid (by rw [hf.out, hst.out]; simp [h3])
          clear h3
          go_wp2
          go_ret
          exact ⟨by rw [hff.out]; rfl, below_then hb1 hb3⟩
      · have hff : Hid (long34 l = decide ((20 : Int) < (l.length : Int))) := hid (by rw [hf.out, longGAt_end _ _ l k (.inr (by omega))]; simp only [decide_eq_decide]; omega)
        go_wp2
        go_ret
        exact ⟨by rw [hff.out]; rfl, hb3⟩
    · have hff : Hid (long34 l = decide ((20 : Int) < (l.length : Int))) := hid (by rw [hf.out, longGAt_end _ _ l k (.inl (by omega))]; simp only [decide_eq_decide]; omega)
      go_wp2
      go_ret
      exact ⟨by rw [hff.out]; rfl, hb3⟩
theorem long34_no {l : List Batch} (h : long34 l = false) : l.length ≤ 20 ∧ ∀ b ∈ l, b.entries.length ≤ 30 ∧ total b.entries ≤ 300 ∧ ∀ x ∈ b.entries, x.data.length ≤ 500 ∧ x.links.length ≤ 50 ∧ ∀ y ∈ x.links, y.backs.length ≤ 50 := by
  obtain ⟨h1, h2⟩ := longG_no h
  exact ⟨h1, fun b hb => long25_no (h2 b hb)⟩
end Go.Proofs.YtkipiefcnjfdjaaGreat
namespace Go.Proofs.YtkipiefcnjfdjaaGreat
open Go.RowKit Go.Bs Go.Maps
set_option linter.unusedVariables false
set_option linter.unusedSimpArgs false

theorem toNat_cast {x : Int} (h : 0 ≤ x) : ((x.toNat : Nat) : Int) = x := Int.toNat_of_nonneg h
/-- Numbers' bytes, one behind the other. -/
def numsB (l : List Int) : List UInt8 := (l.map fun x => varB x.toNat).flatten
def deltaB (pos : Int) (l : List Int) : List UInt8 := varB l.length ++ numsB (stepsL pos l)
/-- By how much each stream is above the one ahead. -/
def upsL : Option Int → List Link → List Int
  | _, [] => []
  | p, x :: l => (match p with | none => x.stream | some q => x.stream - q - 1) :: upsL (some x.stream) l
def lnkF (pos : Int) : Option Int → List Link → List UInt8
  | _, [] => []
  | p, x :: l => varB (match p with | none => x.stream | some q => x.stream - q - 1).toNat ++ deltaB pos x.backs ++ lnkF pos (some x.stream) l
def linksB (pos : Int) (l : List Link) : List UInt8 := varB l.length ++ lnkF pos none l
def headB (pos : Int) (e : Entry) : List UInt8 := linksB pos e.links ++ varB e.data.length
def headsB : Int → List Entry → List UInt8
  | _, [] => []
  | p, e :: l => headB p e ++ headsB (p + 1) l
def aheadB (b : Batch) : List UInt8 := varB b.epoch.toNat ++ varB b.base.toNat ++ varB b.entries.length ++ headsB b.base b.entries
def batchB (b : Batch) : List UInt8 := aheadB b ++ blockB (joined b.entries)

/-- The numbers of links are some. -/
def linkN (x : Link) : Prop := (0 ≤ x.stream ∧ x.stream ≤ 18446744073709551615) ∧ ∀ y ∈ x.backs, 0 ≤ y
def entryN (e : Entry) : Prop := ∀ x ∈ e.links, linkN x
def batchN (b : Batch) : Prop := (0 ≤ b.epoch ∧ b.epoch ≤ 18446744073709551615) ∧ (0 ≤ b.base ∧ b.base ≤ 18446744073709551615) ∧ ∀ e ∈ b.entries, entryN e
theorem numsB_nil : numsB [] = [] := rfl
theorem numsB_cons (x : Int) (l : List Int) : numsB (x :: l) = varB x.toNat ++ numsB l := by simp [numsB]
theorem numsB_app (l l' : List Int) : numsB (l ++ l') = numsB l ++ numsB l' := by simp [numsB]
theorem numsB_step (l : List Int) (k : Nat) (h : k < l.length) : numsB (l.take (k + 1)) = numsB (l.take k) ++ varB l[k].toNat := by
  rw [List.take_succ_eq_append_getElem h, numsB_app, numsB_cons, numsB_nil, List.append_nil]
theorem numsB_len (l : List Int) : (numsB l).length ≤ 10 * l.length := by
  induction l with
  | nil => simp [numsB]
  | cons x l ih =>
    rw [numsB_cons, List.length_append, List.length_cons]
    have := (varB_len x.toNat).1
    omega
theorem numsB_take_le (l : List Int) (k : Nat) : (numsB (l.take k)).length ≤ (numsB l).length := by
  have : numsB l = numsB (l.take k) ++ numsB (l.drop k) := by rw [← numsB_app, List.take_append_drop]
  rw [this, List.length_append]; omega
theorem stepsL_len : ∀ (p : Int) (l : List Int), (stepsL p l).length = l.length
  | _, [] => rfl
  | p, x :: l => by simp only [stepsL, List.length_cons, stepsL_len x l]
theorem upsL_len : ∀ (p : Option Int) (l : List Link), (upsL p l).length = l.length
  | _, [] => rfl
  | p, x :: l => by simp only [upsL, List.length_cons, upsL_len _ l]
theorem varB_len_small {x : Nat} (h : x < 128) : (varB x).length = 1 := by rw [varB_small h]; rfl
theorem deltaB_len (pos : Int) (l : List Int) (h : l.length < 128) : (deltaB pos l).length ≤ 1 + 10 * l.length := by
  have := numsB_len (stepsL pos l)
  rw [stepsL_len] at this
  unfold deltaB
  rw [List.length_append, varB_len_small h]
  omega
/-- What was there, and no part of the pen, is there yet. -/
theorem pen_data {α : Type} {A : Rp α} {w w1 : World} {g : Nat} {a a1 : Option Addr} {cs : List Value} {x : α} (ht : Tch (PenF g a) w w1) (ha : a1.map Addr.block = a.map Addr.block ∨ ∃ q, a1.map Addr.block = some q ∧ w.heap.size ≤ q)
    (h : A.r (fun q => q < w.heap.size ∧ ¬ PenF g a q) w cs x) : A.r (fun q => q < w1.heap.size ∧ ¬ PenF g a1 q) w1 cs x :=
  A.mono (A.keep h fun q hq => ht.block q hq.1 hq.2) fun q hq => ⟨Nat.lt_of_lt_of_le hq.1 ht.size, penF_old ha hq.1 hq.2⟩
theorem pen_later {α : Type} {A : Rp α} {w w1 : World} {g : Nat} {a : Option Addr} {cs : List Value} {x : α} (hb : Below w.heap.size w w1)
    (h : A.r (fun q => q < w.heap.size ∧ ¬ PenF g a q) w cs x) : A.r (fun q => q < w1.heap.size ∧ ¬ PenF g a q) w1 cs x :=
  A.mono (A.keep h fun q hq => hb.block q hq.1) fun q hq => ⟨Nat.lt_of_lt_of_le hq.1 hb.size, hq.2⟩
theorem pen_low {α : Type} {A : Rp α} {w : World} {g : Nat} {a : Option Addr} {cs : List Value} {x : α} (h : A.r (fun q => q < w.heap.size ∧ ¬ PenF g a q) w cs x) : A.r (· < w.heap.size) w cs x := A.mono h fun q hq => hq.1
/-- What came behind a pen is no part of it. -/
theorem pen_new_data {α : Type} {A : Rp α} {w w1 : World} {g base most : Nat} {J : List UInt8} {a : Option Addr} {c : Nat} {cs : List Value} {x : α} (hp : PenAt w g base most J a c) (h : A.r (fun q => w.heap.size ≤ q ∧ q < w1.heap.size) w1 cs x) : A.r (fun q => q < w1.heap.size ∧ ¬ PenF g a q) w1 cs x :=
  A.mono h fun q hq => ⟨hq.2, fun hf => by have := (hp.own_lt hf).2; omega⟩
theorem pen_old_data {α : Type} {A : Rp α} {w : World} {g base most : Nat} {J : List UInt8} {a : Option Addr} {c : Nat} {cs : List Value} {x : α} (hp : PenAt w g base most J a c) (hb : base ≤ w.heap.size) (h : A.r (· < base) w cs x) : A.r (fun q => q < w.heap.size ∧ ¬ PenF g a q) w cs x :=
  A.mono h fun q hq => ⟨Nat.lt_of_lt_of_le hq hb, fun hf => by have := (hp.own_lt hf).1; have hq' : q < base := hq; omega⟩
end Go.Proofs.YtkipiefcnjfdjaaGreat
namespace Go.Proofs.YtkipiefcnjfdjaaGreat
open Go.RowKit Go.Bs Go.Maps
set_option linter.unusedVariables false
set_option linter.unusedSimpArgs false

theorem rBytesless {W W' : World} {cs : List Value} {l : List Int} (h : rU64s.r (fun q => W.heap.size ≤ q ∧ q < W'.heap.size) W' cs l) : rU64s.r (· < W'.heap.size) W' cs l := rU64s.mono h fun q hq => hq.2
def StepsOwn (below : Int) (l : List Int) (w : World) (e : Ending) (w' : World) : Prop :=
  ∃ v, e = .returned (.tuple #[v, .bool (fallsB below l)]) ∧ rU64s.r (fun q => w.heap.size ≤ q ∧ q < w'.heap.size) w' [v] (if fallsB below l then stepsL below l else []) ∧ Below w.heap.size w w'
set_option maxHeartbeats 1600000 in
theorem steps_own (below : Int) (l : List Int) (a : Option Addr) (n c : Nat) (w : World) (hb0 : 0 ≤ below ∧ below ≤ 18446744073709551615) (hl : rU64s.r (· < w.heap.size) w [.slice a n c] l) (hlen : l.length ≤ 1000000000000) :
    Calls Tryz.prog 244 #[.int .u64 below, .slice a n c] w (StepsOwn below l w) := by
  obtain ⟨rfl, hm, _, _⟩ := sl_len hl
  obtain ⟨i0, hi, hz0, hz1, hz2⟩ := info_parts infoU
  have HL := hid hl; clear hl
  go_enter Tryz.func244, Tryz.ntmps244
  go_wp2
  go_loopw [0, 6, 11] (fun b v i wr => ∃ k : Nat, k ≤ l.length ∧ i = .int .i64 k ∧ b = .int .u64 (ahead below l k) ∧ 0 ≤ ahead below l k ∧ ahead below l k ≤ 18446744073709551615 ∧ Hid (fallsB below l = fallsB (ahead below l k) (l.drop k)) ∧
      (∃ xs : List Int, Hid (xs.length = k ∧ (∀ x ∈ xs, 0 ≤ x ∧ x ≤ 18446744073709551615) ∧ stepsL below l = xs ++ stepsL (ahead below l k) (l.drop k)) ∧ wr.ownsRow w.heap.size 22 1 v k (xs.map (Value.int .u64))) ∧ Below w.heap.size w wr) (fun _ _ i _ => l.length - (intOf i).toNat)
  case atStart => exact ⟨0, Nat.zero_le _, rfl, rfl, hb0.1, hb0.2, hid rfl, ⟨[], hid ⟨rfl, by simp, rfl⟩, ⟨rfl, .inl ⟨rfl, rfl⟩⟩⟩, Below.refl _ _⟩
  case round =>
    obtain ⟨k, hk, rfl, rfl, ha0, ha1, hf, ⟨xs, hxs, hown⟩, hb⟩ := hrel
    by_cases hlt : k < l.length
    · obtain ⟨b, o, hA, hbb, hc, hx0, hx1⟩ := u64_at HL.out hlt
      subst hA
      have q := (hb.cell (p := ⟨b, o + k, none⟩) hbb).trans hc
      clear hc
      have hd := hid (List.drop_eq_getElem_cons hlt)
      have hsu := hid (ahead_succ below l k hlt)
      generalize hlk : l[k] = x at *
      clear hlk
      generalize ahead below l k = p at *
      by_cases hge : p ≤ x
      · have hff : Hid (fallsB below l = false) := by
          rw [hf.out, hd.out]; exact hid (by simp [fallsB]; omega)
        go_wp2
        go_ret2
        exact ⟨.slice none 0 0, by rw [hff.out]; rfl, by rw [hff.out]; exact rSl_mk rfl (Nat.le_refl _) (Nat.zero_le _) (.inl rfl), hb⟩
      · have hbs := hb.size
        have w1 : 0 ≤ p - x := by omega
        have w2 : 0 ≤ p - x - 1 := by omega
        go_wp2_with (at_builtin; refine wpList_append_lies _ rfl _ _ _ rfl w.heap.size 22 i0 (.int .u64 0) 1 8 Tryz.underlying207 hi hz0 hz1 hz2 rfl (by decide) _ k _ rfl (hown.alloc _) ⟨wr.heap.size, 0, none⟩ 1 1 [.int .u64 (p - x - 1)] rfl rfl (World.news_of_block (Blk.new _ _ _)) (by simp [Value.oneCell']) (by decide) (by simp only [maxLen]; omega) (by omega) (by simp; omega) _ rfl ?_; intro g1 cap1 w1' hown1 hgrow1 hat1 hlt1)
        go_roundw
        case rel =>
          refine ⟨k + 1, by omega, by go_num, by rw [hsu.out], by rw [hsu.out]; exact hx0, by rw [hsu.out]; exact hx1, ?_, ⟨xs ++ [p - x - 1], ?_, ?_⟩, ?_⟩
          · rw [hf.out, hd.out, hsu.out]
            exact hid (by simp only [fallsB]; rw [decide_eq_true (by omega)]; rfl)
          · refine hid ⟨by simp [hxs.out.1], ?_, ?_⟩
            · intro y hy
              rw [List.mem_append, List.mem_singleton] at hy
              rcases hy with hy | rfl
              · exact hxs.out.2.1 y hy
              · omega
            · rw [hsu.out, hxs.out.2.2, hd.out]
              simp [stepsL]
          · rw [List.map_append]; exact hown1
          · refine Below.grown ?_ hgrow1 (by simp; omega) (fun g e => (hown.lt g e).1)
            exact hb.alloc hbs _
        case measure => simp [intOf]; omega
    · obtain rfl : k = l.length := by omega
      have hff : Hid (fallsB below l = true) := by
        rw [hf.out, List.drop_length]; exact hid rfl
      have hxl := hxs.out.1
      have hst : Hid (stepsL below l = xs) := hid (by rw [hxs.out.2.2, List.drop_length]; simp [stepsL])
      have hv : rU64s.r (fun q => w.heap.size ≤ q ∧ q < wr.heap.size) wr [u6] xs := own_ints64 hxs.out.2.1 hxl.symm hown
      have HV := hid hv; clear hv hxl
      go_wp2
      go_ret2
      exact ⟨u6, by rw [hff.out]; rfl, by rw [hff.out, if_pos rfl, hst.out]; exact HV.out, hb⟩


theorem stepsL_bounds : ∀ (l : List Int) (p : Int), fallsB p l = true → p ≤ 18446744073709551615 → (∀ x ∈ l, 0 ≤ x) → ∀ y ∈ stepsL p l, 0 ≤ y ∧ y ≤ 18446744073709551615
  | [], p, _, _, _, y, hy => by simp [stepsL] at hy
  | x :: l, p, hf, hp, hx, y, hy => by
    simp only [fallsB, Bool.and_eq_true, decide_eq_true_eq] at hf
    have h0 := hx x (by simp)
    simp only [stepsL, List.mem_cons] at hy
    rcases hy with rfl | hy
    · omega
    · exact stepsL_bounds l x hf.2 (by omega) (fun z hz => hx z (by simp [hz])) y hy

set_option maxRecDepth 100000 in
set_option maxHeartbeats 3200000 in
theorem delta_put (w : World) {g base most : Nat} {J : List UInt8} {a : Option Addr} {c : Nat} (h : PenAt w g base most J a c) (pos : Int) (hpos : 0 ≤ pos ∧ pos ≤ 18446744073709551615) (l : List Int) (al : Option Addr) (nl cl : Nat)
    (hl : rU64s.r (· < w.heap.size) w [.slice al nl cl] l) (hf : fallsB pos l = true) (hlen : l.length ≤ 1000000) (hfit : J.length + (deltaB pos l).length ≤ most) (hln2 : J.length + (deltaB pos l).length ≤ 100000000000000) :
    Calls Tryz.prog 195 #[.pointer (some ⟨g, 0, none⟩), .int .u64 pos, .slice al nl cl] w fun r w' => r = .returned (.tuple #[]) ∧ PenStep w g base most (J ++ deltaB pos l) a w' := by
  obtain ⟨rfl, hm, _, _⟩ := sl_len hl
  have HS := hid (steps_own pos l al _ cl w hpos hl (by omega))
  have hlt := h.len
  have hsl := stepsL_len pos l
  have hnb := numsB_len (stepsL pos l)
  have hxs := u64s_bounds hl
  have hsb := hid (stepsL_bounds l pos hf hpos.2 (fun x hx => (hxs x hx).1))
  have hvl := varB_len l.length
  have hdl : (deltaB pos l).length = (varB l.length).length + (numsB (stepsL pos l)).length := by unfold deltaB; rw [List.length_append]
  rw [hdl] at hfit hln2
  unfold StepsOwn at HS
  rw [hf] at HS
  simp only [if_true] at HS
  unfold deltaB
  have HP := hid h
  have HMO := hid (fun k => numsB_take_le (stepsL pos l) k)
  have HNS := hid (fun (k : Nat) (h : k < (stepsL pos l).length) => numsB_step (stepsL pos l) k h)
  generalize stepsL pos l = T at *
  generalize hL : l.length = L at *
  have hLL := hid hL
  clear h hl hf hxs hdl hL
  go_enter Tryz.func195, Tryz.ntmps195
  go_wp2_with fail
  refine HS.out.mono ?_
  rintro r w1 ⟨v, rfl, hr, hb1⟩
  obtain ⟨a1, c1, hv, hr2, _⟩ := sl_form hr
  simp only [List.cons.injEq, and_true] at hv
  subst hv
  rw [hsl] at hr2 ⊢
  have HR := hid (pen_new_data HP.out hr2)
  have HP1 := hid (HP.out.later hb1)
  have HV := hid (varint_put w1 HP1.out L (by omega) (by omega) (by omega))
  clear hr hr2
  go_wp2_with fail
  refine HV.out.mono ?_
  rintro r w2 ⟨rfl, hst⟩
  have HST := hid hst
  clear hst
  have hz1 := hb1.size
  go_wp2_with fail
  go_loopw [27] (fun i wr => ∃ k : Nat, k ≤ L ∧ i = .int .i64 k ∧ Hid (PenStep w1 g base most (J ++ varB L ++ numsB (T.take k)) a wr)) (fun i _ => L - (intOf i).toNat)
  case atStart => exact ⟨0, Nat.zero_le _, rfl, hid (by simpa [numsB] using HST.out)⟩
  case round =>
    obtain ⟨k, hk, rfl, hp⟩ := hrel
    obtain ⟨a3, c3, hp3, ht3, ha3⟩ := hp.out
    rcases Nat.lt_or_ge k L with hlt | hge
    · have hd3 := pen_data ht3 ha3 HR.out
      have hkT : k < T.length := by omega
      obtain ⟨b, o, hA, hbb, hc, hx0, hx1⟩ := u64_at hd3 hkT
      subst hA
      have hst := HNS.out k hkT
      have hfk := HMO.out (k + 1)
      rw [hst, List.length_append] at hfk
      have HSK := hid hst
      have hvk := (varB_len T[k].toNat).1
      have hJ3 := hp3.len
      simp only [List.length_append] at hJ3
      have hV := varint_put wr hp3 T[k].toNat (by omega) (by simp only [List.length_append]; omega) (by simp only [List.length_append]; omega)
      rw [toNat_cast hx0, List.append_assoc (J ++ varB L), ← hst] at hV
      have HV3 := hid hV
      have HT3 := hid (And.intro ht3 ha3)
      have i1 : (k : Int) < (L : Int) := by omega
      have d1 : decide ((k : Int) < (L : Int)) = true := decide_eq_true i1
      clear hV hd3 hst hp3 ht3 ha3 hp hfk hvk hJ3
      generalize T[k] = y at *
      go_wp2_with fail
      refine HV3.out.mono ?_
      rintro r w5 ⟨rfl, hst5⟩
      have HN := hid (PenStep.trans (J := J) HT3.out.1 HT3.out.2 hst5)
      clear hst5
      go_wp2
      go_roundw
      case rel => exact ⟨k + 1, by omega, by go_num, HN⟩
      case measure => simp [intOf]; omega
    · obtain rfl : k = L := by omega
      have d1 : decide ((k : Int) < (k : Int)) = false := decide_eq_false (by omega)
      rw [List.take_of_length_le (by omega)] at hp
      have HN := hid (PenStep.later hb1 hp.out)
      rw [List.append_assoc] at HN
      clear hp hp3 ht3 ha3
      go_wp2
      first | go_end0 | refine bodyPost_ret (results_none rfl _ _ _) rfl ?_
      exact ⟨rfl, HN.out⟩

set_option maxRecDepth 100000 in
set_option maxHeartbeats 3200000 in
theorem delta_size (w : World) (pos : Int) (hpos : 0 ≤ pos ∧ pos ≤ 18446744073709551615) (l : List Int) (al : Option Addr) (nl cl : Nat)
    (hl : rU64s.r (· < w.heap.size) w [.slice al nl cl] l) (hf : fallsB pos l = true) (hlen : l.length ≤ 1000000) :
    Calls Tryz.prog 243 #[.int .u64 pos, .slice al nl cl] w fun r w' => r = .returned (.int .i64 ((deltaB pos l).length : Int)) ∧ Below w.heap.size w w' := by
  obtain ⟨rfl, hm, _, _⟩ := sl_len hl
  have HS := hid (steps_own pos l al _ cl w hpos hl (by omega))
  have hsl := stepsL_len pos l
  have hxs := u64s_bounds hl
  have hnb := numsB_len (stepsL pos l)
  have hvl := varB_len l.length
  unfold StepsOwn at HS
  rw [hf] at HS
  simp only [if_true] at HS
  have hdl : (deltaB pos l).length = (varB l.length).length + (numsB (stepsL pos l)).length := by unfold deltaB; rw [List.length_append]
  rw [hdl]
  have HMO := hid (fun k => numsB_take_le (stepsL pos l) k)
  have HNS := hid (fun (k : Nat) (h : k < (stepsL pos l).length) => numsB_step (stepsL pos l) k h)
  have HVS := hid (fun (W : World) => varint_size l.length (by omega) W)
  generalize stepsL pos l = T at *
  generalize hL : l.length = L at *
  have hLL := hid hL
  generalize varB L = VL at *
  clear hl hf hxs hdl hL
  go_enter Tryz.func243, Tryz.ntmps243
  go_wp2_with fail
  refine HS.out.mono ?_
  rintro r w1 ⟨v, rfl, hr, hb1⟩
  obtain ⟨a1, c1, hv, hr2, _⟩ := sl_form hr
  simp only [List.cons.injEq, and_true] at hv
  subst hv
  rw [hsl] at hr2 ⊢
  have HR := hid (rBytesless hr2)
  clear hr hr2
  go_wp2_with fail
  refine (HVS.out _).mono ?_
  rintro r w2 ⟨rfl, hb2⟩
  have hbw2 := below_then hb2 hb1
  go_wp2_with fail
  go_loopw [7, 24] (fun n i wr => ∃ k m : Nat, k ≤ L ∧ i = .int .i64 k ∧ n = .int .i64 m ∧ Hid (m = VL.length + (numsB (T.take k)).length) ∧ Below w1.heap.size w1 wr) (fun _ i _ => L - (intOf i).toNat)
  case atStart => exact ⟨0, VL.length, Nat.zero_le _, rfl, rfl, hid (by simp [numsB]), hb2⟩
  case round =>
    obtain ⟨k, m, hk, rfl, rfl, hmm, hb⟩ := hrel
    have hmo := HMO.out k
    have hmk := hmm.out
    rcases Nat.lt_or_ge k L with hlt | hge
    · have hkT : k < T.length := by omega
      obtain ⟨b, o, hA, hbb, hc, hx0, hx1⟩ := u64_at (lift HR.out hb) hkT
      subst hA
      have hst := HNS.out k hkT
      have hvk := (varB_len T[k].toNat).1
      have hV := fun (W : World) => varint_size T[k].toNat (by omega) W
      rw [toNat_cast hx0] at hV
      have HV3 := hid hV
      have HM : Hid (m + (varB T[k].toNat).length = VL.length + (numsB (T.take (k + 1))).length) := hid (by rw [hst, List.length_append]; omega)
      have i1 : (k : Int) < (L : Int) := by omega
      have d1 : decide ((k : Int) < (L : Int)) = true := decide_eq_true i1
      have hmb : m ≤ 100000000 := by omega
      generalize varB T[k].toNat = VK at *
      generalize T[k] = y at *
      clear hV hst hmo hmk hmm
      go_wp2_with fail
      refine (HV3.out _).mono ?_
      rintro r w5 ⟨rfl, hb5⟩
      have hbw5 := below_then hb5 hb
      go_wp2
      go_roundw
      case rel => exact ⟨k + 1, m + VK.length, by omega, by go_num, by go_num, HM, hbw5⟩
      case measure => simp [intOf]; omega
    · obtain rfl : k = L := by omega
      have d1 : decide ((k : Int) < (k : Int)) = false := decide_eq_false (by omega)
      have hfin : Hid (m = VL.length + (numsB T).length) := hid (by rw [hmk, List.take_of_length_le (by omega)])
      clear hmo hmk hmm
      go_wp2
      go_ret
      exact ⟨by rw [hfin.out]; simp, below_then hb hb1⟩

theorem rises_at : ∀ (l : List Int) (k : Nat) (h : k + 1 < l.length), risesB l = true → l[k] < l[k + 1]
  | [], k, h, _ => by simp at h
  | [x], k, h, _ => by simp at h
  | x :: y :: l, k, h, hr => by
    simp only [risesB, Bool.and_eq_true, decide_eq_true_eq] at hr
    cases k with
    | zero => exact hr.1
    | succ k => exact rises_at (y :: l) k (by simpa using h) hr.2
theorem upsL_get : ∀ (l : List Link) (p : Option Int) (k : Nat) (h : k < l.length), (upsL p l)[k]'(by rw [upsL_len]; exact h) = if hk : k = 0 then (match p with | none => l[k].stream | some q => l[k].stream - q - 1) else l[k].stream - (l[k - 1]'(by omega)).stream - 1
  | [], p, k, h => by simp at h
  | x :: l, p, 0, h => by cases p <;> simp [upsL]
  | x :: l, p, k + 1, h => by
    simp only [upsL, List.getElem_cons_succ]
    rw [upsL_get l (some x.stream) k (by simpa using h)]
    cases k with
    | zero => simp
    | succ k => simp
/-- The parts of links, one behind the other. -/
def linkZ (pos : Int) (p : Option Int) (l : List Link) : List (List UInt8) := List.zipWith (fun (y : Int) (x : Link) => varB y.toNat ++ deltaB pos x.backs) (upsL p l) l
theorem linksF_zip (pos : Int) : ∀ (l : List Link) (p : Option Int), lnkF pos p l = (linkZ pos p l).flatten
  | [], p => rfl
  | x :: l, p => by
    simp only [lnkF, linkZ, upsL, List.zipWith_cons_cons, List.flatten_cons]
    rw [linksF_zip pos l (some x.stream)]
    rfl
theorem linkZ_len (pos : Int) (p : Option Int) (l : List Link) : (linkZ pos p l).length = l.length := by simp [linkZ, upsL_len]
theorem flat_step {α : Type} (Z : List (List α)) (k : Nat) (h : k < Z.length) : (Z.take (k + 1)).flatten = (Z.take k).flatten ++ Z[k] := by
  rw [List.take_succ_eq_append_getElem h, List.flatten_append]; simp
theorem flat_take_le {α : Type} (Z : List (List α)) (k : Nat) : (Z.take k).flatten.length ≤ Z.flatten.length := by
  have : Z.flatten = (Z.take k).flatten ++ (Z.drop k).flatten := by rw [← List.flatten_append, List.take_append_drop]
  rw [this, List.length_append]; omega
theorem linkZ_get (pos : Int) (l : List Link) (k : Nat) (h : k < l.length) : (linkZ pos none l)[k]'(by rw [linkZ_len]; exact h) = varB ((upsL none l)[k]'(by rw [upsL_len]; exact h)).toNat ++ deltaB pos l[k].backs := by
  simp [linkZ]

set_option maxRecDepth 100000 in
set_option maxHeartbeats 3200000 in
theorem link_steps (w : World) (l : List Link) (al : Option Addr) (nl cl : Nat) (hl : rLinks.r (· < w.heap.size) w [.slice al nl cl] l) (hri : risesB (l.map Link.stream) = true) (hlen : l.length ≤ 1000000) :
    Calls Tryz.prog 194 #[.slice al nl cl] w fun r w' => ∃ v, r = .returned v ∧ rU64s.r (fun q => w.heap.size ≤ q ∧ q < w'.heap.size) w' [v] (upsL none l) ∧ Below w.heap.size w w' := by
  obtain ⟨rfl, hm, _, _⟩ := sl_len hl
  obtain ⟨i0, hi, hz0, hz1, hz2⟩ := info_parts infoU
  have HL := hid hl
  have hul := upsL_len none l
  have HU := hid (fun (k : Nat) (h : k < l.length) => upsL_get l none k h)
  have HRI := hid (fun (k : Nat) (h : k + 1 < l.length) => (by have := rises_at (l.map Link.stream) k (by simpa using h) hri; simpa using this : l[k].stream < l[k + 1].stream))
  clear hl hri
  go_enter Tryz.func194, Tryz.ntmps194
  go_wp2_with fail
  go_loopw [3, 9] (fun v i wr => ∃ k : Nat, k ≤ l.length ∧ i = .int .i64 k ∧ wr.ownsRow w.heap.size 22 1 v k (u64Cells ((upsL none l).take k)) ∧ Hid (∀ x ∈ (upsL none l).take k, 0 ≤ x ∧ x ≤ 18446744073709551615) ∧ Below w.heap.size w wr) (fun _ i _ => l.length - (intOf i).toNat)
  case atStart => exact ⟨0, Nat.zero_le _, rfl, ⟨rfl, .inl ⟨rfl, rfl⟩⟩, hid (by simp), Below.refl _ _⟩
  case round =>
    obtain ⟨k, hk, rfl, hown, hbd, hb⟩ := hrel
    obtain ⟨av, cv, rfl⟩ := own_form hown
    rcases Nat.lt_or_ge k l.length with hlt | hge
    · obtain ⟨b, o, hA, hbb, a2, c2, x0, x1, hx, xl⟩ := link_at (lift HL.out hb) hlt
      subst hA
      have hu := HU.out k hlt
      have i1 : (k : Int) < (l.length : Int) := by omega
      have d1 : decide ((k : Int) < (l.length : Int)) = true := decide_eq_true i1
      have hbl : b < wr.heap.size := World.block_lt_of_cell? _ _ x0
      have htk : u64Cells ((upsL none l).take (k + 1)) = u64Cells ((upsL none l).take k) ++ [.int .u64 ((upsL none l)[k]'(by omega))] := by
        rw [List.take_succ_eq_append_getElem (by omega)]; unfold u64Cells; rw [List.map_append]; rfl
      have hnb : ∀ y : Int, (upsL none l)[k]'(by omega) = y → (0 ≤ y ∧ y ≤ 18446744073709551615) → ∀ x ∈ (upsL none l).take (k + 1), 0 ≤ x ∧ x ≤ 18446744073709551615 := fun y e hy x hx => by
        rw [List.take_succ_eq_append_getElem (by omega), List.mem_append, List.mem_singleton] at hx
        rcases hx with hx | rfl
        · exact hbd.out x hx
        · rw [e]; exact hy
      have HTK := hid htk
      have HNB := hid hnb
      have HO := hid hown
      have hz := hb.size
      rcases Nat.eq_zero_or_pos k with rfl | hk0
      · rw [dif_pos rfl] at hu
        (try dsimp only at hu)
        rw [hu] at HTK
        have HBD := hid (HNB.out _ hu hx)
        simp only [Nat.zero_mul, Nat.add_zero, Nat.zero_add] at x0 x1
        have d2 : decide ((0 : Int) < ((0 : Nat) : Int)) = false := by decide
        generalize l[0] = y at *
        clear hu htk hnb hbd hown xl hx
        go_wp2_with (at_builtin; go_loud (refine wpList_append_src rfl _ _ _ rfl w.heap.size 22 i0 (.int .u64 0) 1 8 Tryz.underlying207 hi hz0 hz1 hz2 rfl (by decide) (.slice av 0 cv) 0 _ rfl (own_below HO.out (by (repeat (first | with_reducible exact Below.refl _ _ | with_reducible assumption | (with_reducible refine below_alloc ?_ _) | (with_reducible refine Below.setCell ?_ (by first | omega | (simp; done) | (simp; omega)) _) | (with_reducible refine Below.drew ?_) | (with_reducible refine below_drewN ?_ _) | (refine below_then (by with_reducible assumption) ?_))))) (some ⟨wr.heap.size + 1, 0, none⟩) 1 1 [.int .u64 y.stream] rfl (src_new1 _ 22 _ rfl (by simp) rfl) (by simp [Value.oneCell']) (by simp only [maxLen]; omega) (by omega) (by simp; omega) ?_; intro v' w3 hown3 hgrow3 hat3; obtain ⟨a3, c3, rfl⟩ := own_form hown3; have HO3 := hid hown3; have hb3 : Below w.heap.size wr w3 := (Below.grown ((by (repeat (first | with_reducible exact Below.refl _ _ | with_reducible assumption | (with_reducible refine below_alloc ?_ _) | (with_reducible refine Below.setCell ?_ (by first | omega | (simp; done) | (simp; omega)) _) | (with_reducible refine Below.drew ?_) | (with_reducible refine below_drewN ?_ _) | (refine below_then (by with_reducible assumption) ?_))) : Below wr.heap.size wr _).mono hz) hgrow3 (by simp; omega) (fun g e => (HO.out.lt g e).1)); clear hown3 hgrow3 hat3))
        have ho3 := HO3.out
        rw [← HTK.out] at ho3
        have HO4 := hid ho3
        clear ho3 x0 x1
        go_roundw
        case rel => exact ⟨1, by omega, by go_num, by simpa using HO4.out, HBD, hb.trans hb3⟩
        case measure => simp [intOf]; omega
      · obtain ⟨m, rfl⟩ : ∃ m, k = m + 1 := ⟨k - 1, by omega⟩
        obtain ⟨b', o', hA', hbb', a3, c3, y0, y1, hy, yl⟩ := link_at (lift HL.out hb) (show m < l.length by omega)
        simp only [Option.some.injEq, Addr.mk.injEq] at hA'
        obtain ⟨rfl, rfl, _⟩ := hA'
        have hri := HRI.out m hlt
        rw [dif_neg (by omega)] at hu
        simp only [Nat.add_sub_cancel] at hu
        rw [hu] at HTK
        have HBD := hid (HNB.out _ hu (by omega))
        have i1' : (m : Int) + 1 < (l.length : Int) := by omega
        have i2 : (m : Int) < (l.length : Int) := by omega
        have d2 : decide ((m : Int) + 1 < (l.length : Int)) = true := decide_eq_true i1'
        have d3 : decide (m + 1 < l.length) = true := decide_eq_true hlt
        generalize l[m + 1] = y at *
        generalize l[m]'(by omega) = z at *
        have w1 : 0 ≤ y.stream - (z.stream + 1) := by omega
        have w2 : z.stream + 1 ≤ 18446744073709551615 := by omega
        rw [show y.stream - z.stream - 1 = y.stream - (z.stream + 1) by omega] at HTK
        clear hu htk hnb hbd hown xl yl
        go_wp2_with (at_builtin; go_loud (refine wpList_append_src rfl _ _ _ rfl w.heap.size 22 i0 (.int .u64 0) 1 8 Tryz.underlying207 hi hz0 hz1 hz2 rfl (by decide) (.slice av (m + 1) cv) (m + 1) _ rfl (own_below HO.out (by (repeat (first | with_reducible exact Below.refl _ _ | with_reducible assumption | (with_reducible refine below_alloc ?_ _) | (with_reducible refine Below.setCell ?_ (by first | omega | (simp; done) | (simp; omega)) _) | (with_reducible refine Below.drew ?_) | (with_reducible refine below_drewN ?_ _) | (refine below_then (by with_reducible assumption) ?_))))) (some ⟨wr.heap.size + 1, 0, none⟩) 1 1 [.int .u64 (y.stream - (z.stream + 1))] rfl (src_new1 _ 22 _ rfl (by simp) rfl) (by simp [Value.oneCell']) (by simp only [maxLen]; omega) (by omega) (by simp; omega) ?_; intro v' w3 hown3 hgrow3 hat3; obtain ⟨a3, c3, rfl⟩ := own_form hown3; have HO3 := hid hown3; have hb3 : Below w.heap.size wr w3 := (Below.grown ((by (repeat (first | with_reducible exact Below.refl _ _ | with_reducible assumption | (with_reducible refine below_alloc ?_ _) | (with_reducible refine Below.setCell ?_ (by first | omega | (simp; done) | (simp; omega)) _) | (with_reducible refine Below.drew ?_) | (with_reducible refine below_drewN ?_ _) | (refine below_then (by with_reducible assumption) ?_))) : Below wr.heap.size wr _).mono hz) hgrow3 (by simp; omega) (fun g e => (HO.out.lt g e).1)); clear hown3 hgrow3 hat3))
        have ho3 := HO3.out
        rw [← HTK.out] at ho3
        have HO4 := hid ho3
        clear ho3 x0 x1 y0 y1
        go_roundw
        case rel => exact ⟨m + 1 + 1, by omega, by go_num, HO4.out, HBD, hb.trans hb3⟩
        case measure => simp [intOf]; omega
    · obtain rfl : k = l.length := by omega
      have d1 : decide ((l.length : Int) < (l.length : Int)) = false := decide_eq_false (by omega)
      have hv := hown
      rw [List.take_of_length_le (by omega)] at hv hbd
      have HV := hid (own_ints64 hbd.out (by omega) hv)
      clear hv hown
      go_wp2
      go_ret
      exact ⟨_, rfl, HV.out, hb⟩
end Go.Proofs.YtkipiefcnjfdjaaGreat
namespace Go.Proofs.YtkipiefcnjfdjaaGreat
open Go.RowKit Go.Bs Go.Maps
set_option linter.unusedVariables false
set_option linter.unusedSimpArgs false

theorem upsL_bounds (l : List Link) (hri : risesB (l.map Link.stream) = true) (hx : ∀ x ∈ l, 0 ≤ x.stream ∧ x.stream ≤ 18446744073709551615) : ∀ k, (h : k < l.length) → 0 ≤ (upsL none l)[k]'(by rw [upsL_len]; exact h) ∧ (upsL none l)[k]'(by rw [upsL_len]; exact h) ≤ 18446744073709551615 := by
  intro k h
  rw [upsL_get l none k h]
  have hk := hx l[k] (List.getElem_mem h)
  split
  · exact hk
  · rename_i h0
    have h1 := hx (l[k - 1]'(by omega)) (List.getElem_mem _)
    have h2 := rises_at (l.map Link.stream) (k - 1) (by simp; omega) hri
    simp only [List.getElem_map, Nat.sub_add_cancel (show 1 ≤ k by omega)] at h2
    omega
theorem links_bounds {S : Nat → Prop} {w : World} {a : Option Addr} {n c : Nat} {l : List Link} (h : rLinks.r S w [.slice a n c] l) : ∀ x ∈ l, linkN x := by
  intro x hx
  obtain ⟨i, hi, rfl⟩ := List.getElem_of_mem hx
  obtain ⟨b, o, _, _, a2, c2, _, _, hs, xl⟩ := link_at h hi
  exact ⟨hs, fun y hy => (u64s_bounds xl y hy).1⟩
theorem linkZ_len_le (pos : Int) (l : List Link) (hR : linksR pos l = true) : (lnkF pos none l).length ≤ 51 * l.length := by
  have key : ∀ (l : List Link) (p : Option Int), (∀ x ∈ l, linkR pos x = true) → (lnkF pos p l).length ≤ 51 * l.length := by
    intro l
    induction l with
    | nil => intro p _; simp [lnkF]
    | cons x l ih =>
      intro p hx
      have h1 := hx x (by simp)
      simp only [linkR, Bool.and_eq_true, decide_eq_true_eq] at h1
      have h2 := ih (some x.stream) (fun y hy => hx y (by simp [hy]))
      have h3 := deltaB_len pos x.backs (by omega)
      cases p with
      | none =>
        have h4 := (varB_len x.stream.toNat).1
        simp only [lnkF, List.length_append, List.length_cons]
        omega
      | some q =>
        have h4 := (varB_len (x.stream - q - 1).toNat).1
        simp only [lnkF, List.length_append, List.length_cons]
        omega
  simp only [linksR, Bool.and_eq_true, decide_eq_true_eq, List.all_eq_true] at hR
  exact key l none hR.2.2

set_option maxRecDepth 100000 in
set_option maxHeartbeats 3200000 in
theorem link_put (w : World) {g base most : Nat} {J : List UInt8} {a : Option Addr} {c : Nat} (h : PenAt w g base most J a c) (pos : Int) (hpos : 0 ≤ pos ∧ pos ≤ 18446744073709551615) (l : List Link) (al : Option Addr) (nl cl : Nat)
    (hl : rLinks.r (fun q => q < w.heap.size ∧ ¬ PenF g a q) w [.slice al nl cl] l) (hR : linksR pos l = true) (hbk : ∀ x ∈ l, x.backs.length ≤ 1000000) (hfit : J.length + (linksB pos l).length ≤ most) (hln2 : J.length + (linksB pos l).length ≤ 100000000000000) :
    Calls Tryz.prog 135 #[.pointer (some ⟨g, 0, none⟩), .int .u64 pos, .slice al nl cl] w fun r w' => r = .returned (.tuple #[]) ∧ PenStep w g base most (J ++ linksB pos l) a w' := by
  obtain ⟨rfl, hm, _, _⟩ := sl_len hl
  have hN := links_bounds hl
  have HRT := hid (link_right pos l al _ cl w hpos (pen_low hl) (fun x hx => by have := hbk x hx; omega))
  have hR' := hR
  simp only [linksR, Bool.and_eq_true, decide_eq_true_eq, List.all_eq_true] at hR'
  rw [hR] at HRT
  have hlk : ∀ x ∈ l, fallsB pos x.backs = true := fun x hx => by have := hR'.2.2 x hx; simp only [linkR, Bool.and_eq_true] at this; exact this.2
  have HLK := hid hlk
  have HBK := hid hbk
  have hup := hid (upsL_bounds l hR'.2.1 (fun x hx => (hN x hx).1))
  have hul := upsL_len none l
  have hzl := linkZ_len pos none l
  have HSP := hid (fun (W : World) (hW : rLinks.r (· < W.heap.size) W [.slice al l.length cl] l) => link_steps W l al _ cl hW hR'.2.1 (by omega))
  have hdl : (linksB pos l).length = (varB l.length).length + ((linkZ pos none l).flatten).length := by unfold linksB; rw [List.length_append, linksF_zip]
  rw [hdl] at hfit hln2
  unfold linksB
  rw [linksF_zip]
  have HP := hid h
  have HL := hid hl
  have hvl := varB_len l.length
  have HV := hid (fun (W : World) (hW : Below w.heap.size w W) => varint_put W (h.later hW) l.length (by omega) (by omega) (by omega))
  have HMO := hid (fun k => flat_take_le (linkZ pos none l) k)
  have HNS := hid (fun (k : Nat) (h : k < l.length) => (by have := flat_step (linkZ pos none l) k (by omega); rw [linkZ_get pos l k h] at this; exact this : ((linkZ pos none l).take (k + 1)).flatten = ((linkZ pos none l).take k).flatten ++ (varB ((upsL none l)[k]'(by rw [upsL_len]; exact h)).toNat ++ deltaB pos l[k].backs)))
  generalize linkZ pos none l = Z at *
  have hll : l.length ≤ 16 := hR'.1
  clear h hl hR hR' hlk hbk hN hdl
  go_enter Tryz.func135, Tryz.ntmps135
  go_wp2_with fail
  refine HRT.out.mono ?_
  rintro r w1 ⟨rfl, hb1⟩
  go_wp2_with fail
  refine (HV.out _ hb1).mono ?_
  rintro r w2 ⟨rfl, a2, c2, hp2, ht2, ha2⟩
  have hd2 := pen_data ht2 ha2 (pen_later hb1 HL.out)
  have HP2 := hid hp2
  have HD2 := hid hd2
  have HT2 := hid (And.intro ht2 ha2)
  clear hp2 hd2 ht2 ha2
  go_wp2_with fail
  refine (HSP.out w2 (pen_low HD2.out)).mono ?_
  rintro r w3 ⟨v3, rfl, hr3, hb3⟩
  obtain ⟨a3, c3, hv3, hr3', _⟩ := sl_form hr3
  simp only [List.cons.injEq, and_true] at hv3
  subst hv3
  have HR3 := hid (pen_new_data HP2.out hr3')
  have HD3 := hid (pen_later hb3 HD2.out)
  have HP3 := hid (HP2.out.later hb3)
  rw [hul] at HR3 ⊢
  clear hr3 hr3'
  go_wp2_with fail
  go_loopw [22] (fun i wr => ∃ k : Nat, k ≤ l.length ∧ i = .int .i64 k ∧ Hid (PenStep w3 g base most (J ++ varB l.length ++ (Z.take k).flatten) a2 wr)) (fun i _ => l.length - (intOf i).toNat)
  case atStart => exact ⟨0, Nat.zero_le _, rfl, hid (by simpa using PenStep.refl HP3.out)⟩
  case round =>
    obtain ⟨k, hk, rfl, hp⟩ := hrel
    obtain ⟨a4, c4, hp4, ht4, ha4⟩ := hp.out
    rcases Nat.lt_or_ge k l.length with hlt | hge
    · have hr4 := pen_data ht4 ha4 HR3.out
      have hd4 := pen_data ht4 ha4 HD3.out
      obtain ⟨b, o, hA, hbb, hc, hx0, hx1⟩ := u64_at hr4 (show k < (upsL none l).length by omega)
      obtain ⟨b', o', hA', hbb', a5, c5, y0, y1, hs, yl⟩ := link_at hd4 hlt
      subst hA hA'
      have hst := HNS.out k hlt
      have hfk := HMO.out (k + 1)
      rw [hst, List.length_append, List.length_append] at hfk
      have hvk := (varB_len ((upsL none l)[k]'(by omega)).toNat).1
      have hJ4 := hp4.len
      simp only [List.length_append] at hJ4
      have hV := varint_put wr hp4 ((upsL none l)[k]'(by omega)).toNat (by omega) (by simp only [List.length_append]; omega) (by simp only [List.length_append]; omega)
      rw [toNat_cast hx0] at hV
      have HV4 := hid hV
      have HT4 := hid (And.intro ht4 ha4)
      have HYL := hid yl
      have HST := hid hst
      have HFK := hid hfk
      have hfl := HLK.out l[k] (List.getElem_mem hlt)
      have hbl := HBK.out l[k] (List.getElem_mem hlt)
      have HFL := hid hfl
      have HDY := hid (And.intro hbb' y1)
      have i1 : (k : Int) < (l.length : Int) := by omega
      have d1 : decide ((k : Int) < (l.length : Int)) = true := decide_eq_true i1
      clear hV hr4 hd4 hst hp4 ht4 ha4 hp hfk hvk hJ4 hfl y0 yl y1 hbb'
      generalize (upsL none l)[k]'(by omega) = u at *
      generalize l[k] = y at *
      go_wp2_with fail
      refine HV4.out.mono ?_
      rintro r w5 ⟨rfl, a6, c6, hp5, ht5, ha5⟩
      have Y1 : w5.cell? ⟨b', o' + k * 2 + 1, none⟩ = some (.slice a5 y.backs.length c5) := (ht5.cell (p := ⟨b', o' + k * 2 + 1, none⟩) HDY.out.1.1 HDY.out.1.2).trans HDY.out.2
      have hy5 := pen_low (pen_data ht5 ha5 HYL.out)
      have HD5 := hid (delta_put w5 hp5 pos hpos y.backs a5 _ c5 hy5 HFL.out hbl (by have := HFK.out; simp only [List.length_append]; omega) (by have := HFK.out; simp only [List.length_append]; omega))
      have HT5 := hid (And.intro ht5 ha5)
      clear hy5 hp5 ht5 ha5 hc
      go_wp2_with fail
      refine HD5.out.mono ?_
      rintro r w6 ⟨rfl, hst6⟩
      have hn := PenStep.trans (J := J) HT4.out.1 HT4.out.2 (PenStep.trans (J := J) HT5.out.1 HT5.out.2 hst6)
      rw [List.append_assoc, List.append_assoc (J ++ varB l.length), ← HST.out] at hn
      have HN := hid hn
      clear hst6 hn Y1
      go_wp2
      go_roundw
      case rel => exact ⟨k + 1, by omega, by go_num, HN⟩
      case measure => simp [intOf]; omega
    · obtain rfl : k = l.length := by omega
      have d1 : decide ((l.length : Int) < (l.length : Int)) = false := decide_eq_false (by omega)
      rw [List.take_of_length_le (by omega)] at hp
      have hn := PenStep.later hb1 (PenStep.trans (J := J) HT2.out.1 HT2.out.2 (PenStep.later hb3 hp.out))
      rw [List.append_assoc] at hn
      have HN := hid hn
      clear hp hp4 ht4 ha4 hn
      go_wp2
      first | go_end0 | refine bodyPost_ret (results_none rfl _ _ _) rfl ?_
      exact ⟨rfl, HN.out⟩
end Go.Proofs.YtkipiefcnjfdjaaGreat
namespace Go.Proofs.YtkipiefcnjfdjaaGreat
open Go.RowKit Go.Bs Go.Maps
set_option linter.unusedVariables false
set_option linter.unusedSimpArgs false

set_option maxRecDepth 100000 in
set_option maxHeartbeats 3200000 in
theorem link_size (w : World) (pos : Int) (hpos : 0 ≤ pos ∧ pos ≤ 18446744073709551615) (l : List Link) (al : Option Addr) (nl cl : Nat)
    (hl : rLinks.r (· < w.heap.size) w [.slice al nl cl] l) (hR : linksR pos l = true) (hbk : ∀ x ∈ l, x.backs.length ≤ 1000000) :
    Calls Tryz.prog 192 #[.int .u64 pos, .slice al nl cl] w fun r w' => r = .returned (.int .i64 ((linksB pos l).length : Int)) ∧ Below w.heap.size w w' := by
  obtain ⟨rfl, hm, _, _⟩ := sl_len hl
  have hN := links_bounds hl
  have HRT := hid (link_right pos l al _ cl w hpos hl (fun x hx => by have := hbk x hx; omega))
  have hR' := hR
  simp only [linksR, Bool.and_eq_true, decide_eq_true_eq, List.all_eq_true] at hR'
  rw [hR] at HRT
  have hlk : ∀ x ∈ l, fallsB pos x.backs = true := fun x hx => by have := hR'.2.2 x hx; simp only [linkR, Bool.and_eq_true] at this; exact this.2
  have HLK := hid hlk
  have HBK := hid hbk
  have hul := upsL_len none l
  have hzl := linkZ_len pos none l
  have HSP := hid (fun (W : World) (hW : rLinks.r (· < W.heap.size) W [.slice al l.length cl] l) => link_steps W l al _ cl hW hR'.2.1 (by omega))
  have hdl : (linksB pos l).length = (varB l.length).length + ((linkZ pos none l).flatten).length := by unfold linksB; rw [List.length_append, linksF_zip]
  have hle := linkZ_len_le pos l hR
  rw [linksF_zip] at hle
  rw [hdl]
  have HL := hid hl
  have hvl := varB_len l.length
  have HV := hid (fun (W : World) => varint_size l.length (by omega) W)
  have HMO := hid (fun k => flat_take_le (linkZ pos none l) k)
  have HNS := hid (fun (k : Nat) (h : k < l.length) => (by have := flat_step (linkZ pos none l) k (by omega); rw [linkZ_get pos l k h] at this; exact this : ((linkZ pos none l).take (k + 1)).flatten = ((linkZ pos none l).take k).flatten ++ (varB ((upsL none l)[k]'(by rw [upsL_len]; exact h)).toNat ++ deltaB pos l[k].backs)))
  generalize linkZ pos none l = Z at *
  generalize varB l.length = VL at *
  have hll : l.length ≤ 16 := hR'.1
  clear hl hR hR' hlk hbk hN hdl
  go_enter Tryz.func192, Tryz.ntmps192
  go_wp2_with fail
  refine HRT.out.mono ?_
  rintro r w1 ⟨rfl, hb1⟩
  go_wp2_with fail
  refine (HV.out w1).mono ?_
  rintro r w2 ⟨rfl, hb2⟩
  have hb12 := below_then hb2 hb1
  go_wp2_with fail
  refine (HSP.out w2 (lift HL.out hb12)).mono ?_
  rintro r w3 ⟨v3, rfl, hr3, hb3⟩
  obtain ⟨a3, c3, hv3, hr3', _⟩ := sl_form hr3
  simp only [List.cons.injEq, and_true] at hv3
  subst hv3
  have HR3 := hid (rBytesless hr3')
  have hbw3 := below_then hb3 hb12
  rw [hul] at HR3 ⊢
  clear hr3 hr3'
  go_wp2_with fail
  go_loopw [5, 19] (fun n i wr => ∃ k m : Nat, k ≤ l.length ∧ i = .int .i64 k ∧ n = .int .i64 m ∧ Hid (m = VL.length + (Z.take k).flatten.length) ∧ Below w3.heap.size w3 wr) (fun _ i _ => l.length - (intOf i).toNat)
  case atStart => exact ⟨0, VL.length, Nat.zero_le _, rfl, rfl, hid (by simp), Below.refl _ _⟩
  case round =>
    obtain ⟨k, m, hk, rfl, rfl, hmm, hb⟩ := hrel
    have hmo := HMO.out k
    have hmk := hmm.out
    rcases Nat.lt_or_ge k l.length with hlt | hge
    · obtain ⟨b, o, hA, hbb, hc, hx0, hx1⟩ := u64_at (lift HR3.out hb) (show k < (upsL none l).length by omega)
      have hbw := below_then hb hbw3
      obtain ⟨b', o', hA', hbb', a5, c5, y0, y1, hs, yl⟩ := link_at (lift HL.out hbw) hlt
      subst hA hA'
      have hst := HNS.out k hlt
      have hfk := HMO.out (k + 1)
      rw [hst, List.length_append, List.length_append] at hfk
      have HV4 := hid (fun (W : World) => (by have := varint_size ((upsL none l)[k]'(by omega)).toNat (by omega) W; rw [toNat_cast hx0] at this; exact this : Calls Tryz.prog 191 #[.int .u64 ((upsL none l)[k]'(by omega))] W fun r w' => r = .returned (.int .i64 (varB ((upsL none l)[k]'(by omega)).toNat).length) ∧ Below W.heap.size W w'))
      have hfl := HLK.out l[k] (List.getElem_mem hlt)
      have hbl := HBK.out l[k] (List.getElem_mem hlt)
      have HD4 := hid (fun s : Later wr => delta_size s.at_ pos hpos l[k].backs a5 _ c5 (lift yl s.below) hfl hbl)
      have HV5 := hid (fun s : Later wr => HV4.out s.at_)
      have HM : Hid (m + ((varB ((upsL none l)[k]'(by omega)).toNat).length + (deltaB pos l[k].backs).length) = VL.length + (Z.take (k + 1)).flatten.length) := hid (by rw [hst]; simp only [List.length_append]; omega)
      have hmb : m ≤ 1000000 := by omega
      have hd1 : (varB ((upsL none l)[k]'(by omega)).toNat).length ≤ 1000000 ∧ (deltaB pos l[k].backs).length ≤ 1000000 := by omega
      have i1 : (k : Int) < (l.length : Int) := by omega
      have d1 : decide ((k : Int) < (l.length : Int)) = true := decide_eq_true i1
      have Y1 := fun s : Later wr => s.cell y1
      generalize varB ((upsL none l)[k]'(by omega)).toNat = VK at *
      generalize deltaB pos l[k].backs = DK at *
      generalize (upsL none l)[k]'(by omega) = u at *
      generalize l[k] = y at *
      clear HV4 hst hmo hmk hmm hfk hfl yl y0
      go_wp2_with fail
      refine wp_region_later (by kernel_rfl) (by kernel_rfl) ?_
      repeat (go_big_quiet_step ((first | (go_at_call 191; with_reducible exact later_of (HV5.out _)) | (go_at_call 243; with_reducible exact later_of (HD4.out _)))))
      refine wpQuiet_nil ?_
      rintro W5 ⟨⟨W5', hb5⟩, rfl⟩
      have hbw5 := below_then hb5 hb
      clear Y1
      go_wp2
      go_roundw
      case rel => exact ⟨k + 1, m + (VK.length + DK.length), by omega, by go_num, by go_num, HM, hbw5⟩
      case measure => simp [intOf]; omega
    · obtain rfl : k = l.length := by omega
      have d1 : decide ((l.length : Int) < (l.length : Int)) = false := decide_eq_false (by omega)
      have hfin : Hid (m = VL.length + Z.flatten.length) := hid (by rw [hmk, List.take_of_length_le (by omega)])
      clear hmo hmk hmm
      go_wp2
      go_ret
      exact ⟨by rw [hfin.out]; simp, below_then hb hbw3⟩

def headN (pos : Int) (e : Entry) : Nat := if entryR pos e = true then (headB pos e).length else 0
theorem headN_le (pos : Int) (e : Entry) : headN pos e ≤ 1000 := by
  unfold headN
  split
  · rename_i h
    simp only [entryR, Bool.and_eq_true] at h
    have h1 := linkZ_len_le pos e.links h.1
    have h2 := h.1
    simp only [linksR, Bool.and_eq_true, decide_eq_true_eq] at h2
    have h3 := (varB_len e.links.length).1
    have h4 := (varB_len e.data.length).1
    simp only [headB, linksB, List.length_append]
    omega
  · omega
theorem e_blk {w : World} {g : Nat} {t : TypeId} {v0 v1 : Value} (h : Blk w g t #[v0, v1]) : w.cell? ⟨g, 0, none⟩ = some v0 ∧ w.cell? ⟨g, 1, none⟩ = some v1 ∧ g < w.heap.size :=
  ⟨h.cell 0, h.cell 1, h.lt⟩
set_option maxRecDepth 100000 in
set_option maxHeartbeats 3200000 in
theorem entry_headsize (w : World) (pos : Int) (hpos : 0 ≤ pos ∧ pos ≤ 18446744073709551615) (e : Entry) (a1 a2 : Option Addr) (n1 c1 n2 c2 : Nat)
    (hl : rLinks.r (· < w.heap.size) w [.slice a1 n1 c1] e.links) (hd : rBytes.r (· < w.heap.size) w [.slice a2 n2 c2] e.data) (hbk : ∀ x ∈ e.links, x.backs.length ≤ 1000000) :
    Calls Tryz.prog 130 #[.int .u64 pos, .agg #[.slice a1 n1 c1, .slice a2 n2 c2]] w fun r w' => r = .returned (.int .i64 (headN pos e : Int)) ∧ Below w.heap.size w w' := by
  obtain ⟨rfl, hm1, _, _⟩ := sl_len hl
  obtain ⟨rfl, hm2, _, _⟩ := sl_len hd
  have HER := hid (fun (W : World) (hW : Below w.heap.size w W) => entry_right pos e a1 a2 _ c1 _ c2 W hpos (fun x hx => by have := hbk x hx; omega) (lift hl hW) (lift hd hW))
  unfold headN
  cases hR : entryR pos e
  · rw [hR] at HER
    rw [if_neg (by simp)]
    go_enter Tryz.func130, Tryz.ntmps130
    go_wp2_with fail
    refine (HER.out _ (by (repeat (first | with_reducible exact Below.refl _ _ | with_reducible assumption | (with_reducible refine below_alloc ?_ _) | (with_reducible refine Below.setCell ?_ (by first | omega | (simp; done) | (simp; omega)) _) | (with_reducible refine Below.drew ?_) | (with_reducible refine below_drewN ?_ _) | (refine below_then (by with_reducible assumption) ?_))))).mono ?_
    rintro r w1 ⟨rfl, hb1⟩
    go_wp2
    go_ret
    exact ⟨rfl, by (repeat (first | with_reducible exact Below.refl _ _ | with_reducible assumption | (with_reducible refine below_alloc ?_ _) | (with_reducible refine Below.setCell ?_ (by first | omega | (simp; done) | (simp; omega)) _) | (with_reducible refine Below.drew ?_) | (with_reducible refine below_drewN ?_ _) | (refine below_then (by with_reducible assumption) ?_)))⟩
  · rw [hR] at HER
    rw [if_pos rfl]
    have hR' := hR
    simp only [entryR, Bool.and_eq_true, decide_eq_true_eq] at hR'
    have hbl : (headB pos e).length = (linksB pos e.links).length + (varB e.data.length).length := by unfold headB; rw [List.length_append]
    have hle := headN_le pos e
    unfold headN at hle
    rw [if_pos hR, hbl] at hle
    rw [hbl]
    have HLS := hid (fun (W : World) (hW : Below w.heap.size w W) => link_size W pos hpos e.links a1 _ c1 (lift hl hW) hR'.1 hbk)
    have HVS := hid (fun (W : World) => varint_size e.data.length (by omega) W)
    have hdl := hR'.2
    generalize varB e.data.length = V at *
    generalize linksB pos e.links = LB at *
    clear hl hd hR hR' hbl
    go_enter Tryz.func130, Tryz.ntmps130
    go_wp2_with fail
    refine (HER.out _ (by (repeat (first | with_reducible exact Below.refl _ _ | with_reducible assumption | (with_reducible refine below_alloc ?_ _) | (with_reducible refine Below.setCell ?_ (by first | omega | (simp; done) | (simp; omega)) _) | (with_reducible refine Below.drew ?_) | (with_reducible refine below_drewN ?_ _) | (refine below_then (by with_reducible assumption) ?_))))).mono ?_
    rintro r w1 ⟨rfl, hb1⟩
    have B1 := Blk.later (Blk.newAt w 75 #[.slice a1 e.links.length c1, .slice a2 e.data.length c2] rfl) hb1
    have hbw1 : Below w.heap.size w w1 := by (repeat (first | with_reducible exact Below.refl _ _ | with_reducible assumption | (with_reducible refine below_alloc ?_ _) | (with_reducible refine Below.setCell ?_ (by first | omega | (simp; done) | (simp; omega)) _) | (with_reducible refine Below.drew ?_) | (with_reducible refine below_drewN ?_ _) | (refine below_then (by with_reducible assumption) ?_)))
    have C0 := fun s : Later w1 => s.cell (B1.cell 0)
    have C1 := fun s : Later w1 => s.cell (B1.cell 1)
    simp at C0 C1
    have HS1 := hid (fun s : Later w1 => HLS.out s.at_ (below_then s.below hbw1))
    have HS2 := hid (fun s : Later w1 => HVS.out s.at_)
    clear B1 hb1
    go_wp2_with fail
    refine wp_region_later (by kernel_rfl) (by kernel_rfl) ?_
    repeat (go_big_quiet_step ((first | (go_at_call 192; with_reducible exact later_of (HS1.out _)) | (go_at_call 191; with_reducible exact later_of (HS2.out _)))))
    refine wpQuiet_nil ?_
    rintro W5 ⟨⟨W5', hb5⟩, rfl⟩
    clear C0 C1
    go_wp2
    go_ret
    exact ⟨by simp, below_then hb5 hbw1⟩

set_option maxRecDepth 100000 in
set_option maxHeartbeats 3200000 in
theorem entry_puthead (w : World) {g base most : Nat} {J : List UInt8} {a : Option Addr} {c : Nat} (h : PenAt w g base most J a c) (pos : Int) (hpos : 0 ≤ pos ∧ pos ≤ 18446744073709551615) (e : Entry) (a1 a2 : Option Addr) (n1 c1 n2 c2 : Nat)
    (hl : rLinks.r (fun q => q < w.heap.size ∧ ¬ PenF g a q) w [.slice a1 n1 c1] e.links) (hd : rBytes.r (· < w.heap.size) w [.slice a2 n2 c2] e.data) (hR : entryR pos e = true) (hbk : ∀ x ∈ e.links, x.backs.length ≤ 1000000) (hfit : J.length + (headB pos e).length ≤ most) (hln2 : J.length + (headB pos e).length ≤ 100000000000000) :
    Calls Tryz.prog 74 #[.pointer (some ⟨g, 0, none⟩), .int .u64 pos, .agg #[.slice a1 n1 c1, .slice a2 n2 c2]] w fun r w' => r = .returned (.tuple #[]) ∧ PenStep w g base most (J ++ headB pos e) a w' := by
  obtain ⟨rfl, hm1, _, _⟩ := sl_len hl
  obtain ⟨rfl, hm2, _, _⟩ := sl_len hd
  have HER := hid (fun (W : World) (hW : Below w.heap.size w W) => entry_right pos e a1 a2 _ c1 _ c2 W hpos (fun x hx => by have := hbk x hx; omega) (lift (pen_low hl) hW) (lift hd hW))
  rw [hR] at HER
  have hR' := hR
  simp only [entryR, Bool.and_eq_true, decide_eq_true_eq] at hR'
  have hbl : (headB pos e).length = (linksB pos e.links).length + (varB e.data.length).length := by unfold headB; rw [List.length_append]
  rw [hbl] at hfit hln2
  have hhb : headB pos e = linksB pos e.links ++ varB e.data.length := rfl
  rw [hhb]
  have HPT := hid (fun (W : World) (hW : Below w.heap.size w W) => link_put W (h.later hW) pos hpos e.links a1 _ c1 (pen_later hW hl) hR'.1 hbk (by omega) (by omega))
  have HP := hid h
  have hdl := hR'.2
  generalize linksB pos e.links = LB at *
  clear h hl hd hR hR' hbl hhb
  go_enter Tryz.func74, Tryz.ntmps74
  go_wp2_with fail
  refine (HER.out _ (by (repeat (first | with_reducible exact Below.refl _ _ | with_reducible assumption | (with_reducible refine below_alloc ?_ _) | (with_reducible refine Below.setCell ?_ (by first | omega | (simp; done) | (simp; omega)) _) | (with_reducible refine Below.drew ?_) | (with_reducible refine below_drewN ?_ _) | (refine below_then (by with_reducible assumption) ?_))))).mono ?_
  rintro r w1 ⟨rfl, hb1⟩
  have B1 := Blk.later (Blk.newAt w 75 #[.slice a1 e.links.length c1, .slice a2 e.data.length c2] rfl) hb1
  obtain ⟨x0, x1, l1⟩ := e_blk B1
  have hbw1 : Below w.heap.size w w1 := by (repeat (first | with_reducible exact Below.refl _ _ | with_reducible assumption | (with_reducible refine below_alloc ?_ _) | (with_reducible refine Below.setCell ?_ (by first | omega | (simp; done) | (simp; omega)) _) | (with_reducible refine Below.drew ?_) | (with_reducible refine below_drewN ?_ _) | (refine below_then (by with_reducible assumption) ?_)))
  have hgl := HP.out.blk.lt
  have HLT := hid (fun q (hq : PenF g a q) => (HP.out.own_lt hq).2)
  have HB1 := hid B1
  clear B1 hb1
  go_wp2_with fail
  refine (HPT.out _ hbw1).mono ?_
  rintro r w2 ⟨rfl, a3, c3, hp2, ht2, ha2⟩
  have B2 := HB1.out.tch ht2 (fun hf => by have := HLT.out _ hf; omega)
  obtain ⟨y0, y1, l2⟩ := e_blk B2
  have HV := hid (varint_put w2 hp2 e.data.length (by omega) (by simp only [List.length_append]; omega) (by simp only [List.length_append]; omega))
  have HT := hid (And.intro ht2 ha2)
  clear B2 hp2 ht2 ha2 x0 x1
  go_wp2_with fail
  refine HV.out.mono ?_
  rintro r w3 ⟨rfl, hst⟩
  have hn := PenStep.later hbw1 (PenStep.trans (J := J) HT.out.1 HT.out.2 hst)
  rw [List.append_assoc] at hn
  have HN := hid hn
  clear hst hn
  go_wp2
  first | go_end0 | refine bodyPost_ret (results_none rfl _ _ _) rfl ?_
  exact ⟨rfl, HN.out⟩

theorem epoch_put0 (w : World) {g base most : Nat} {J : List UInt8} {a : Option Addr} {c : Nat} (h : PenAt w g base most J a c) (x : Nat) (hx : x < 18446744073709551616) (hfit : J.length + (varB x).length ≤ most) (hlen : J.length + (varB x).length ≤ 100000000000000) :
    Calls Tryz.prog 131 #[.pointer (some ⟨g, 0, none⟩), .int .u64 x, .bool true] w fun r w' => r = .returned (.tuple #[]) ∧ PenStep w g base most (J ++ varB x) a w' := by
  have HV := hid (varint_put w h x hx hfit hlen)
  clear h
  go_enter Tryz.func131, Tryz.ntmps131
  go_wp2_with fail
  refine HV.out.mono ?_
  rintro r w1 ⟨rfl, hst⟩
  have HST := hid hst
  clear hst
  go_wp2
  first | go_end0 | refine bodyPost_ret (results_none rfl _ _ _) rfl ?_
  exact ⟨rfl, HST.out⟩
theorem epoch_put (w : World) {g base most : Nat} {J : List UInt8} {a : Option Addr} {c : Nat} (h : PenAt w g base most J a c) (x : Nat) (hx : epR (x : Int) = true) (hfit : J.length + (varB x).length ≤ most) (hlen : J.length + (varB x).length ≤ 100000000000000) :
    Calls Tryz.prog 71 #[.pointer (some ⟨g, 0, none⟩), .int .u64 x] w fun r w' => r = .returned (.tuple #[]) ∧ PenStep w g base most (J ++ varB x) a w' := by
  have hx' := hx
  simp only [epR, decide_eq_true_eq] at hx'
  have HR := hid (epoch_right (x : Int) w)
  rw [hx] at HR
  have HV := hid (epoch_put0 w h x (by omega) hfit hlen)
  clear h hx hx'
  go_enter Tryz.func71, Tryz.ntmps71
  go_wp2_with fail
  refine HR.out.mono ?_
  rintro r w1 ⟨rfl, rfl⟩
  go_wp2_with fail
  refine HV.out.mono ?_
  rintro r w1 ⟨rfl, hst⟩
  have HST := hid hst
  clear hst
  go_wp2
  first | go_end0 | refine bodyPost_ret (results_none rfl _ _ _) rfl ?_
  exact ⟨rfl, HST.out⟩
theorem epoch_putpos (w : World) {g base most : Nat} {J : List UInt8} {a : Option Addr} {c : Nat} (h : PenAt w g base most J a c) (x : Nat) (hx : poR (x : Int) = true) (hfit : J.length + (varB x).length ≤ most) (hlen : J.length + (varB x).length ≤ 100000000000000) :
    Calls Tryz.prog 72 #[.pointer (some ⟨g, 0, none⟩), .int .u64 x] w fun r w' => r = .returned (.tuple #[]) ∧ PenStep w g base most (J ++ varB x) a w' := by
  have hx' := hx
  simp only [poR, decide_eq_true_eq] at hx'
  have HR := hid (epoch_pos (x : Int) w)
  rw [hx] at HR
  have HV := hid (epoch_put0 w h x (by omega) hfit hlen)
  clear h hx hx'
  go_enter Tryz.func72, Tryz.ntmps72
  go_wp2_with fail
  refine HR.out.mono ?_
  rintro r w1 ⟨rfl, rfl⟩
  go_wp2_with fail
  refine HV.out.mono ?_
  rintro r w1 ⟨rfl, hst⟩
  have HST := hid hst
  clear hst
  go_wp2
  first | go_end0 | refine bodyPost_ret (results_none rfl _ _ _) rfl ?_
  exact ⟨rfl, HST.out⟩
end Go.Proofs.YtkipiefcnjfdjaaGreat
namespace Go.Proofs.YtkipiefcnjfdjaaGreat
open Go.RowKit Go.Bs Go.Maps
set_option linter.unusedVariables false
set_option linter.unusedSimpArgs false

theorem b_blk {w : World} {g : Nat} {t : TypeId} {v0 v1 v2 : Value} (h : Blk w g t #[v0, v1, v2]) : w.cell? ⟨g, 0, none⟩ = some v0 ∧ w.cell? ⟨g, 1, none⟩ = some v1 ∧ w.cell? ⟨g, 2, none⟩ = some v2 ∧ w.frozen? ⟨g, 0, none⟩ = false ∧ w.frozen? ⟨g, 1, none⟩ = false ∧ w.frozen? ⟨g, 2, none⟩ = false ∧ g < w.heap.size :=
  ⟨h.cell 0, h.cell 1, h.cell 2, h.free 0, h.free 1, h.free 2, h.lt⟩
theorem empty_bytes2 {S : Nat → Prop} {w : World} {a : Option Addr} {m c : Nat} {l : List UInt8} (hl : l = []) (hm : m = 0) (hc : c ≤ 9223372036854775807) : rBytes.r S w [.slice a m c] l := by
  subst hl hm
  exact rSl_mk (xs := []) rfl (Nat.zero_le _) hc (.inl rfl)
theorem pen_fail (w : World) {g base most : Nat} {J : List UInt8} {a : Option Addr} {c : Nat} (h : PenAt w g base most J a c) (k : Int) :
    Calls Tryz.prog 70 #[.pointer (some ⟨g, 0, none⟩), .int .i64 k] w fun r w' => r = .returned (.tuple #[]) ∧ Blk w' g 109 #[.int .i64 most, .slice a J.length c, .int .i64 k] ∧ Tch (· = g) w w' := by
  have HC := hid (pen_code w h)
  have HB := hid h.blk
  have c2 : w.cell? ⟨g, 2, none⟩ = some (.int .i64 0) := h.blk.cell 2
  have f2 := h.blk.free 2
  have hgl := h.blk.lt
  clear h
  go_enter Tryz.func70, Tryz.ntmps70
  go_wp2_with fail
  refine HC.out.mono ?_
  rintro r w1 ⟨rfl, rfl⟩
  go_wp2
  first | go_end0 | refine bodyPost_ret (results_none rfl _ _ _) rfl ?_
  exact ⟨rfl, HB.out.set 2 _, Tch.setCell (F := (· = g)) (p := ⟨g, 2, none⟩) (Tch.refl _ _) (fun _ => rfl) _⟩
theorem pen_bytes_bad (w : World) {g : Nat} {v0 v1 : Value} {k : Int} (hk : k ≠ 0) (h : Blk w g 109 #[v0, v1, .int .i64 k]) :
    Calls Tryz.prog 20 #[.pointer (some ⟨g, 0, none⟩)] w fun r w' => r = .returned (.tuple #[.slice none 0 0, .int .i64 k]) ∧ w = w' := by
  have HC : Hid (Calls Tryz.prog 77 #[.pointer (some ⟨g, 0, none⟩)] w fun r w' => r = .returned (.int .i64 k) ∧ w = w') := hid (by
    have c2 : w.cell? ⟨g, 2, none⟩ = some (.int .i64 k) := h.cell 2
    clear h
    go_enter Tryz.func77, Tryz.ntmps77
    go_wp2
    go_ret
    exact ⟨rfl, rfl⟩)
  have d1 : (k == (0 : Int)) = false := by simp [hk]
  have d2 : (k != (0 : Int)) = true := by simp [hk]
  clear h hk
  go_enter Tryz.func20, Tryz.ntmps20
  go_wp2_with fail
  refine HC.out.mono ?_
  rintro r w1 ⟨rfl, rfl⟩
  go_wp2
  go_ret2
  exact ⟨rfl, rfl⟩

theorem own_make {base : Nat} {e : TypeId} {size : Nat} {W : World} {g cap : Nat} {cs : Array Value} (h : Blk W g e cs) (hb : base ≤ g) (hc : cap ≤ maxLen) (hs : cs.size = cap * size) : W.ownsRow base e size (.slice (some ⟨g, 0, none⟩) 0 cap) 0 [] :=
  ⟨by simp, .inr ⟨g, cap, cs, rfl, hb, h, Nat.zero_le _, hc, by simpa using hs, by simp⟩⟩
set_option maxRecDepth 100000 in
set_option maxHeartbeats 1600000 in
theorem entry_join (l : List Entry) (a : Option Addr) (n c : Nat) (w : World) (hl : rEntries.r (· < w.heap.size) w [.slice a n c] l) (ht : total l ≤ 1000000000000) :
    Calls Tryz.prog 76 #[.slice a n c] w fun r w' => ∃ v, r = .returned v ∧ rBytes.r (fun q => w.heap.size ≤ q ∧ q < w'.heap.size) w' [v] (joined l) ∧ Below w.heap.size w w' := by
  obtain ⟨rfl, hm, _, _⟩ := sl_len hl
  obtain ⟨i0, hi, hz0, hz1, hz2⟩ := info_parts info8
  have HT := hid (entry_total l a _ c w hl ht)
  have HL := hid hl; clear hl
  obtain ⟨T, hT⟩ : ∃ T, T = total l := ⟨_, rfl⟩
  have hmk : ∀ W : World, (Instr.makeSlice 28 (.int .i64 0) (.int .i64 (T : Int))).run Tryz.prog W = .ok (.slice (some ⟨W.heap.size, 0, none⟩) 0 T) (W.alloc (.cells (madeCells #[Value.int .u8 0] T) 5)) := fun W => by
    have := run_make (P := Tryz.prog) (w := W) 28 5 i0 (.int .u8 0) Tryz.underlying28 hi hz0 .i64 .i64 0 (T : Int) (by omega) (by omega) (by rw [hz2]; omega) (by omega)
    rw [hz1] at this
    simp only [Int.toNat_natCast, Int.toNat_zero, Nat.mul_one] at this
    exact this
  have HJ := hid (joined_length l)
  rw [← hT] at HT
  have hTt := hid hT
  have hTb : T ≤ 1000000000000 := by omega
  clear hT
  go_enter Tryz.func76, Tryz.ntmps76
  go_wp2_with fail
  refine HT.out.mono ?_
  rintro r w1 ⟨rfl, hb1⟩
  go_wp2_with fail
  have hbW : Below w1.heap.size w1 (w1.alloc (.cells (madeCells #[Value.int .u8 0] T) 5)) := by (repeat (first | with_reducible exact Below.refl _ _ | with_reducible assumption | (with_reducible refine below_alloc ?_ _) | (with_reducible refine Below.setCell ?_ (by first | omega | (simp; done) | (simp; omega)) _) | (with_reducible refine Below.drew ?_) | (with_reducible refine below_drewN ?_ _) | (refine below_then (by with_reducible assumption) ?_)))
  have hown0 : (w1.alloc (.cells (madeCells #[Value.int .u8 0] T) 5)).ownsRow w.heap.size 5 1 (.slice (some ⟨w1.heap.size, 0, none⟩) 0 T) 0 [] := own_make (Blk.newAt _ _ _ rfl) hb1.size (by simp only [maxLen]; omega) (by rw [size_madeCells]; omega)
  have HOWN0 := hid hown0
  have HBW := hid hbW
  clear hown0 hbW
  generalize w1.alloc (.cells (madeCells #[Value.int .u8 0] T) 5) = W at *
  go_loopw [3, 11] (fun v i wr => ∃ k : Nat, k ≤ l.length ∧ i = .int .i64 k ∧ wr.ownsRow w.heap.size 5 1 v (total (l.take k)) (byteCells (joined (l.take k))) ∧ Below w.heap.size w wr) (fun _ i _ => l.length - (intOf i).toNat)
  case atStart => exact ⟨0, Nat.zero_le _, rfl, by simpa [total, joined, byteCells] using HOWN0.out, below_then HBW.out hb1⟩
  case round =>
    obtain ⟨k, hk, rfl, hown, hb⟩ := hrel
    obtain ⟨av, cv, rfl⟩ := own_form hown
    by_cases hlt : k < l.length
    · obtain ⟨b, o, hA, hbb, a1, c1, a2, c2, hc0, hc1, _, hd⟩ := entry_at (lift HL.out hb) hlt
      subst hA
      have hbl : b < wr.heap.size := World.block_lt_of_cell? _ _ hc0
      have hs := hid (total_step l k hlt)
      have hj := hid (joined_step l k hlt)
      have h1 := total_take_le l (k + 1)
      rw [hs.out, ← hTt.out] at h1
      have hbW2 : Below wr.heap.size wr (wr.alloc (.cells #[.slice a1 l[k].links.length c1, .slice a2 l[k].data.length c2] 75)) := by (repeat (first | with_reducible exact Below.refl _ _ | with_reducible assumption | (with_reducible refine below_alloc ?_ _) | (with_reducible refine Below.setCell ?_ (by first | omega | (simp; done) | (simp; omega)) _) | (with_reducible refine Below.drew ?_) | (with_reducible refine below_drewN ?_ _) | (refine below_then (by with_reducible assumption) ?_)))
      have hsrc := src_bytes (lift hd hbW2)
      have hone := byteCells_one l[k].data
      have HO := hid (own_below hown hbW2)
      have hbz : Below w.heap.size wr (wr.alloc (.cells #[.slice a1 l[k].links.length c1, .slice a2 l[k].data.length c2] 75)) := hbW2.mono hb.size
      generalize l[k].data = D at *
      generalize l[k].links = LK at *
      generalize joined (l.take k) = J at *
      generalize total (l.take k) = t at *
      have HSRC := hid hsrc; clear hsrc hd
      have HONE := hid hone; clear hone hown hbW2
      have hbs := hb.size
      have i1 : (k : Int) < (l.length : Int) := by omega
      have d1 : decide ((k : Int) < (l.length : Int)) = true := decide_eq_true i1
      have HBZ := hid hbz
      clear hbz
      go_wp2_with (at_builtin; go_loud (refine wpList_append_src rfl _ _ _ rfl w.heap.size 5 i0 (.int .u8 0) 1 1 Tryz.underlying28 hi hz0 hz1 hz2 rfl (by decide) (.slice av t cv) t _ rfl HO.out a2 D.length c2 (byteCells D) rfl HSRC.out HONE.out (by simp only [maxLen]; omega) (by omega) (by simp; omega) ?_; intro v' w3 hown3 hgrow3 hat3; obtain ⟨a3, c3, rfl⟩ := own_form hown3; have HO3 := hid hown3; have hb3 : Below w.heap.size wr w3 := (Below.grown HBZ.out hgrow3 (by simp; omega) (fun g e => (HO.out.lt g e).1)); clear hown3 hgrow3 hat3))
      have ho3 := HO3.out
      have HO4 : Hid (w3.ownsRow w.heap.size 5 1 (.slice a3 (t + D.length) c3) (total (l.take (k + 1))) (byteCells (joined (l.take (k + 1))))) := hid (by rw [hs.out, hj.out, byteCells, List.map_append]; exact ho3)
      clear ho3 hc0 hc1
      go_roundw
      case rel => exact ⟨k + 1, by omega, by go_num, HO4.out, hb.trans hb3⟩
      case measure => simp [intOf]; omega
    · obtain rfl : k = l.length := by omega
      have d1 : decide ((l.length : Int) < (l.length : Int)) = false := decide_eq_false (by omega)
      rw [List.take_length] at hown ⊢
      have HV := hid (own_bytes2 (joined_length l).symm hown)
      clear hown
      go_wp2
      go_ret
      exact ⟨_, rfl, HV.out, hb⟩

theorem entriesR_at : ∀ (l : List Entry) (p : Int) (k : Nat) (h : k < l.length), entriesR p l = true → entryR (p + k) l[k] = true
  | [], p, k, h, _ => by simp at h
  | e :: l, p, 0, h, hR => by simp only [entriesR, Bool.and_eq_true] at hR; simpa using hR.1
  | e :: l, p, k + 1, h, hR => by
    simp only [entriesR, Bool.and_eq_true] at hR
    have := entriesR_at l (p + 1) k (by simpa using h) hR.2
    rw [List.getElem_cons_succ, show p + ((k + 1 : Nat) : Int) = p + 1 + (k : Int) by omega]
    exact this
theorem headsB_step : ∀ (l : List Entry) (p : Int) (k : Nat) (h : k < l.length), headsB p (l.take (k + 1)) = headsB p (l.take k) ++ headB (p + k) l[k]
  | [], p, k, h => by simp at h
  | e :: l, p, 0, h => by simp [headsB]
  | e :: l, p, k + 1, h => by
    have := headsB_step l (p + 1) k (by simpa using h)
    simp only [List.take_succ_cons, headsB, List.getElem_cons_succ]
    rw [this, show p + ((k + 1 : Nat) : Int) = p + 1 + (k : Int) by omega, List.append_assoc]
theorem headsB_le (l : List Entry) (p : Int) : ∀ k, (headsB p (l.take k)).length ≤ (headsB p l).length := by
  intro k
  induction l generalizing p k with
  | nil => simp
  | cons e l ih =>
    cases k with
    | zero => simp [headsB]
    | succ k => simp only [List.take_succ_cons, headsB, List.length_append]; have := ih (p + 1) k; omega
/-- Entries that are not too many, nor their links' backs. -/
structure TameE (l : List Entry) : Prop where
  len : l.length ≤ 1000
  tot : total l ≤ 10000000
  backs : ∀ e ∈ l, ∀ x ∈ e.links, x.backs.length ≤ 1000000
theorem TameE.fair {l : List Entry} (h : TameE l) : Fair l := ⟨by have := h.tot; omega, by have := h.len; omega, fun e he x hx => by have := h.backs e he x hx; omega⟩

set_option maxRecDepth 100000 in
set_option maxHeartbeats 6400000 in
theorem batch_room (w : World) (b : Batch) (a : Option Addr) (n c : Nat) (h0 : 0 ≤ b.epoch ∧ b.epoch ≤ 18446744073709551615) (h1 : 0 ≤ b.base ∧ b.base ≤ 18446744073709551615) (hl : rEntries.r (· < w.heap.size) w [.slice a n c] b.entries) (ht : TameE b.entries) :
    Calls Tryz.prog 69 #[.agg #[.int .u64 b.epoch, .int .u64 b.base, .slice a n c]] w fun r w' => ∃ M : Nat, r = .returned (.int .i64 (M : Int)) ∧ M ≤ 100000000 ∧ (batchR b = true → 40 + (varB (total b.entries)).length + total b.entries + (headsB b.base b.entries).length ≤ M) ∧ Below w.heap.size w w' := by
  obtain ⟨rfl, hm, _, _⟩ := sl_len hl
  have hle := ht.len
  have hto := ht.tot
  have HTO := hid (fun (W : World) (hW : Below w.heap.size w W) => entry_total b.entries a _ c W (lift hl hW) (by omega))
  have HBS := hid (fun (W : World) => blob_size (total b.entries) (by omega) W)
  have hvb := (varB_len (total b.entries)).1
  have HBK := hid ht.backs
  have HRE := hid (fun (h : batchR b = true) (k : Nat) (hk : k < b.entries.length) => (by simp only [batchR, Bool.and_eq_true] at h; exact ⟨entriesR_at b.entries b.base k hk h.2.2.2, by have := h.2.1; simp only [fitsR, decide_eq_true_eq] at this; omega⟩ : entryR (b.base + k) b.entries[k] = true ∧ b.base + b.entries.length ≤ 4611686018427387904))
  have HHS := hid (fun (k : Nat) (hk : k < b.entries.length) => headsB_step b.entries b.base k hk)
  have HL := hid hl
  obtain ⟨ep, bs, l⟩ := b
  dsimp only at *
  generalize hRR : batchR ⟨ep, bs, l⟩ = R at *
  generalize varB (total l) = VT at *
  generalize total l = T at *
  clear hl ht hRR
  go_enter Tryz.func69, Tryz.ntmps69
  go_wp2_with fail
  refine (HTO.out _ (by (repeat (first | with_reducible exact Below.refl _ _ | with_reducible assumption | (with_reducible refine below_alloc ?_ _) | (with_reducible refine Below.setCell ?_ (by first | omega | (simp; done) | (simp; omega)) _) | (with_reducible refine Below.drew ?_) | (with_reducible refine below_drewN ?_ _) | (refine below_then (by with_reducible assumption) ?_))))).mono ?_
  rintro r w1 ⟨rfl, hb1⟩
  have B1 := Blk.later (Blk.newAt w 25 #[.int .u64 ep, .int .u64 bs, .slice a l.length c] rfl) hb1
  have hbw1 : Below w.heap.size w w1 := by (repeat (first | with_reducible exact Below.refl _ _ | with_reducible assumption | (with_reducible refine below_alloc ?_ _) | (with_reducible refine Below.setCell ?_ (by first | omega | (simp; done) | (simp; omega)) _) | (with_reducible refine Below.drew ?_) | (with_reducible refine below_drewN ?_ _) | (refine below_then (by with_reducible assumption) ?_)))
  clear hb1
  go_wp2_with fail
  refine (HBS.out _).mono ?_
  rintro r w2 ⟨rfl, hb2⟩
  have B2 := B1.later hb2
  have hbw2 := below_then hb2 hbw1
  obtain ⟨x0, x1, x2, _, _, _, l2⟩ := b_blk B2
  have HB2 := hid B2
  clear B1 hb2 B2
  go_wp2_with fail
  clear x0 x1 x2
  go_loopw [3, 14] (fun m i wr => ∃ k M : Nat, k ≤ l.length ∧ i = .int .i64 k ∧ m = .int .i64 M ∧ M ≤ 20000000 + 1000 * k ∧ Hid (R = true → 40 + VT.length + T + (headsB bs (l.take k)).length ≤ M) ∧ Below w2.heap.size w2 wr) (fun _ i _ => l.length - (intOf i).toNat)
  case atStart => exact ⟨0, 40 + (VT.length + T), Nat.zero_le _, rfl, by go_num, by omega, hid (fun _ => by simp [headsB]; omega), Below.refl _ _⟩
  case round =>
    obtain ⟨k, M, hk, rfl, rfl, hM, hMM, hb⟩ := hrel
    have hbw := below_then hb hbw2
    have B3 := HB2.out.later hb
    obtain ⟨x0, x1, x2, _, _, _, l3⟩ := b_blk B3
    by_cases hlt : k < l.length
    · obtain ⟨b, o, hA, hbb, a1, c1, a2, c2, y0, y1, hlk, hd⟩ := entry_at (lift HL.out hbw) hlt
      subst hA
      have hbl : b < wr.heap.size := World.block_lt_of_cell? _ _ y0
      have i1 : (k : Int) < (l.length : Int) := by omega
      have d1 : decide ((k : Int) < (l.length : Int)) = true := decide_eq_true i1
      have hbk := HBK.out l[k] (List.getElem_mem hlt)
      have HHZ := hid (fun (W : World) (hW : Below wr.heap.size wr W) (pos : Int) (hp : 0 ≤ pos ∧ pos ≤ 18446744073709551615) => entry_headsize W pos hp l[k] a1 a2 _ c1 _ c2 (lift hlk hW) (lift hd hW) hbk)
      have hHN := hid (fun pos => headN_le pos l[k])
      have hst := HHS.out k hlt
      have HX := hid (fun (h : R = true) => (by
        obtain ⟨h1, h2⟩ := HRE.out h k hlt
        refine ⟨?_, by omega⟩
        unfold headN
        rw [if_pos h1] : headN (bs + k) l[k] = (headB (bs + k) l[k]).length ∧ bs + k ≤ 18446744073709551615))
      have HSTP : Hid (∀ m, m = (headB (bs + k) l[k]).length → (headsB bs (l.take (k + 1))).length = (headsB bs (l.take k)).length + m) := hid (fun m e => by rw [hst, List.length_append, e])
      generalize l[k] = y at *
      clear hst hlk hd hbk
      by_cases hwr : bs + (k : Int) ≤ 18446744073709551615
      · have HZ2 := hid (fun (W : World) (hW : Below wr.heap.size wr W) => HHZ.out W hW (bs + k) (by omega))
        have hn := hHN.out (bs + k)
        generalize hN : headN (bs + (k : Int)) y = N at *
        have HN := hid hN
        clear hN
        go_wp2_with fail
        refine (HZ2.out _ (by (repeat (first | with_reducible exact Below.refl _ _ | with_reducible assumption | (with_reducible refine below_alloc ?_ _) | (with_reducible refine Below.setCell ?_ (by first | omega | (simp; done) | (simp; omega)) _) | (with_reducible refine Below.drew ?_) | (with_reducible refine below_drewN ?_ _) | (refine below_then (by with_reducible assumption) ?_))))).mono ?_
        rintro r w5 ⟨rfl, hb5⟩
        have hbw5 : Below w2.heap.size w2 w5 := by (repeat (first | with_reducible exact Below.refl _ _ | with_reducible assumption | (with_reducible refine below_alloc ?_ _) | (with_reducible refine Below.setCell ?_ (by first | omega | (simp; done) | (simp; omega)) _) | (with_reducible refine Below.drew ?_) | (with_reducible refine below_drewN ?_ _) | (refine below_then (by with_reducible assumption) ?_)))
        go_wp2
        go_roundw
        case rel =>
          refine ⟨k + 1, M + N, by omega, by go_num, by go_num, by omega, hid (fun h => ?_), hbw5⟩
          have e1 := hMM.out h
          have e2 := HSTP.out N (HX.out h).1
          omega
        case measure => simp [intOf]; omega
      · obtain ⟨p', hp', hpb⟩ : ∃ p' : Int, IntKind.u64.wrap (bs + (k : Int)) = p' ∧ 0 ≤ p' ∧ p' ≤ 18446744073709551615 := ⟨_, rfl, by simp only [IntKind.wrap_u64]; omega⟩
        have HZ2 := hid (fun (W : World) (hW : Below wr.heap.size wr W) => HHZ.out W hW p' hpb)
        have hn := hHN.out p'
        generalize headN p' y = N at *
        have HPP := hid hp'
        have HWR := hid hwr
        clear hp' hwr
        go_wp2_with fail
        rw [HPP.out]
        refine (HZ2.out _ (by (repeat (first | with_reducible exact Below.refl _ _ | with_reducible assumption | (with_reducible refine below_alloc ?_ _) | (with_reducible refine Below.setCell ?_ (by first | omega | (simp; done) | (simp; omega)) _) | (with_reducible refine Below.drew ?_) | (with_reducible refine below_drewN ?_ _) | (refine below_then (by with_reducible assumption) ?_))))).mono ?_
        rintro r w5 ⟨rfl, hb5⟩
        have hbw5 : Below w2.heap.size w2 w5 := by (repeat (first | with_reducible exact Below.refl _ _ | with_reducible assumption | (with_reducible refine below_alloc ?_ _) | (with_reducible refine Below.setCell ?_ (by first | omega | (simp; done) | (simp; omega)) _) | (with_reducible refine Below.drew ?_) | (with_reducible refine below_drewN ?_ _) | (refine below_then (by with_reducible assumption) ?_)))
        go_wp2
        go_roundw
        case rel => exact ⟨k + 1, M + N, by omega, by go_num, by go_num, by omega, hid (fun h => absurd (HX.out h).2 (by have := HWR.out; omega)), hbw5⟩
        case measure => simp [intOf]; omega
    · obtain rfl : k = l.length := by omega
      have d1 : decide ((l.length : Int) < (l.length : Int)) = false := decide_eq_false (by omega)
      have hfin : Hid (R = true → 40 + VT.length + T + (headsB bs l).length ≤ M) := hid (fun h => by have := hMM.out h; rwa [List.take_length] at this)
      clear x0 x1 x2
      go_wp2
      go_ret
      exact ⟨M, rfl, by omega, hfin.out, hbw⟩
end Go.Proofs.YtkipiefcnjfdjaaGreat
namespace Go.Proofs.YtkipiefcnjfdjaaGreat
open Go.RowKit Go.Bs Go.Maps
set_option linter.unusedVariables false
set_option linter.unusedSimpArgs false

theorem headsB_len (l : List Entry) (p : Int) (hR : entriesR p l = true) : (headsB p l).length ≤ 1000 * l.length := by
  induction l generalizing p with
  | nil => simp [headsB]
  | cons e l ih =>
    simp only [entriesR, Bool.and_eq_true] at hR
    have h1 := headN_le p e
    unfold headN at h1
    rw [if_pos hR.1] at h1
    have h2 := ih (p + 1) hR.2
    simp only [headsB, List.length_append, List.length_cons]
    omega
theorem batchB_len {b : Batch} (hR : batchR b = true) : (batchB b).length ≤ 21 + (headsB b.base b.entries).length + (blockB (joined b.entries)).length ∧ (batchB b).length ≤ 40 + (varB (total b.entries)).length + total b.entries + (headsB b.base b.entries).length ∧ (headsB b.base b.entries).length ≤ 16000 := by
  have hR' := hR
  simp only [batchR, Bool.and_eq_true, fitsR, decide_eq_true_eq] at hR'
  have h1 := (varB_len b.epoch.toNat).1
  have h2 := (varB_len b.base.toNat).1
  have h3 := varB_len_small (x := b.entries.length) (by omega)
  have h4 := blockB_len (joined b.entries)
  rw [joined_length] at h4
  have h5 := headsB_len b.entries b.base hR'.2.2.2
  simp only [batchB, aheadB, List.length_append]
  omega

set_option maxRecDepth 100000 in
set_option maxHeartbeats 6400000 in
theorem batch_put (w : World) {g base most : Nat} {J : List UInt8} {a : Option Addr} {c : Nat} (h : PenAt w g base most J a c) (b : Batch) (al : Option Addr) (nl cl : Nat) (hN : batchN b)
    (hl : rEntries.r (fun q => q < w.heap.size ∧ ¬ PenF g a q) w [.slice al nl cl] b.entries) (hR : batchR b = true) (ht : TameE b.entries) (hfit : J.length + (batchB b).length ≤ most) (hln2 : J.length + (batchB b).length ≤ 100000000000000) :
    Calls Tryz.prog 19 #[.pointer (some ⟨g, 0, none⟩), .agg #[.int .u64 b.epoch, .int .u64 b.base, .slice al nl cl]] w fun r w' => r = .returned (.tuple #[]) ∧ PenStep w g base most (J ++ batchB b) a w' := by
  obtain ⟨rfl, hm, _, _⟩ := sl_len hl
  obtain ⟨h0, h1, _⟩ := hN
  have HRT := hid (fun (W : World) (hW : Below w.heap.size w W) => batch_right b al _ cl W h0 h1 (lift (pen_low hl) hW) ht.fair)
  rw [hR] at HRT
  have hR' := hR
  simp only [batchR, Bool.and_eq_true, decide_eq_true_eq] at hR'
  obtain ⟨hep, hfits, htot, hent⟩ := hR'
  have hfits' := hfits
  simp only [fitsR, decide_eq_true_eq] at hfits'
  have hbl : (batchB b).length = (varB b.epoch.toNat).length + (varB b.base.toNat).length + (varB b.entries.length).length + (headsB b.base b.entries).length + (blockB (joined b.entries)).length := by simp only [batchB, aheadB, List.length_append]
  rw [hbl] at hfit hln2
  have hbb : batchB b = varB b.epoch.toNat ++ varB b.base.toNat ++ varB b.entries.length ++ headsB b.base b.entries ++ blockB (joined b.entries) := rfl
  rw [hbb]
  have HE := hid (fun (W : World) (hW : Below w.heap.size w W) => (by have := epoch_put W (h.later hW) b.epoch.toNat (by rw [toNat_cast h0.1]; exact hep) (by omega) (by omega); rw [toNat_cast h0.1] at this; exact this : Calls Tryz.prog 71 #[.pointer (some ⟨g, 0, none⟩), .int .u64 b.epoch] W fun r w' => r = .returned (.tuple #[]) ∧ PenStep W g base most (J ++ varB b.epoch.toNat) a w'))
  have hpo : poR b.base = true := by unfold poR; exact decide_eq_true (by omega)
  have HJL := hid (joined_length b.entries)
  have HP := hid h
  have HL := hid hl
  have HBK := hid ht.backs
  have HEA := hid (fun (k : Nat) (hk : k < b.entries.length) => entriesR_at b.entries b.base k hk hent)
  have HHS := hid (fun (k : Nat) (hk : k < b.entries.length) => headsB_step b.entries b.base k hk)
  have HHL := hid (fun k => headsB_le b.entries b.base k)
  have hto := ht.tot
  obtain ⟨ep, bs, l⟩ := b
  dsimp only at *
  clear h hl hR hbl hbb hep hent hfits ht
  go_enter Tryz.func19, Tryz.ntmps19
  go_wp2_with fail
  refine (HRT.out _ (by (repeat (first | with_reducible exact Below.refl _ _ | with_reducible assumption | (with_reducible refine below_alloc ?_ _) | (with_reducible refine Below.setCell ?_ (by first | omega | (simp; done) | (simp; omega)) _) | (with_reducible refine Below.drew ?_) | (with_reducible refine below_drewN ?_ _) | (refine below_then (by with_reducible assumption) ?_))))).mono ?_
  rintro r w1 ⟨rfl, hb1⟩
  have B1 := Blk.later (Blk.newAt w 25 #[.int .u64 ep, .int .u64 bs, .slice al l.length cl] rfl) hb1
  obtain ⟨x0, x1, x2, _, _, _, l1⟩ := b_blk B1
  have hbw1 : Below w.heap.size w w1 := by (repeat (first | with_reducible exact Below.refl _ _ | with_reducible assumption | (with_reducible refine below_alloc ?_ _) | (with_reducible refine Below.setCell ?_ (by first | omega | (simp; done) | (simp; omega)) _) | (with_reducible refine Below.drew ?_) | (with_reducible refine below_drewN ?_ _) | (refine below_then (by with_reducible assumption) ?_)))
  have HLT := hid (fun q (hq : PenF g a q) => (HP.out.own_lt hq).2)
  have HB1 := hid B1
  have HL1 := hid (pen_later hbw1 HL.out)
  have hs1 := hbw1.size
  clear B1 hb1
  go_wp2_with fail
  refine (HE.out _ hbw1).mono ?_
  rintro r w2 ⟨rfl, a2, c2, hp2, ht2, ha2⟩
  have B2 := HB1.out.tch ht2 (fun hf => by have := HLT.out _ hf; omega)
  obtain ⟨y0, y1, y2, _, _, _, l2⟩ := b_blk B2
  have HV2 := hid ((by have := epoch_putpos w2 hp2 bs.toNat (by rw [toNat_cast h1.1]; exact hpo) (by simp only [List.length_append]; omega) (by simp only [List.length_append]; omega); rw [toNat_cast h1.1] at this; exact this : Calls Tryz.prog 72 #[.pointer (some ⟨g, 0, none⟩), .int .u64 bs] w2 fun r w' => r = .returned (.tuple #[]) ∧ PenStep w2 g base most (J ++ varB ep.toNat ++ varB bs.toNat) a2 w'))
  have HT2 := hid (And.intro ht2 ha2)
  have HL2 := hid (pen_data ht2 ha2 HL1.out)
  have HB2 := hid B2
  have HNF2 := hid (fun (hf : PenF g a2 w.heap.size) => penF_old ha2 HB1.out.lt (fun hf => by have := HLT.out _ hf; omega) hf)
  have hs2 := ht2.size
  clear B2 hp2 ht2 ha2 x0 x1 x2
  go_wp2_with fail
  refine HV2.out.mono ?_
  rintro r w3 ⟨rfl, a3, c3, hp3, ht3, ha3⟩
  have B3 := HB2.out.tch ht3 (fun hf => HNF2.out hf)
  obtain ⟨x0, x1, x2, _, _, _, l3⟩ := b_blk B3
  have HV3 := hid (varint_put w3 hp3 l.length (by omega) (by simp only [List.length_append]; omega) (by simp only [List.length_append]; omega))
  have HT3 := hid (And.intro ht3 ha3)
  have HL3 := hid (pen_data ht3 ha3 HL2.out)
  have HB3 := hid B3
  have HNF3 := hid (fun (hf : PenF g a3 w.heap.size) => penF_old ha3 HB2.out.lt (fun hf => HNF2.out hf) hf)
  have hs3 := ht3.size
  clear B3 hp3 ht3 ha3 y0 y1 y2
  go_wp2_with fail
  refine HV3.out.mono ?_
  rintro r w4 ⟨rfl, a4, c4, hp4, ht4, ha4⟩
  have B4 := HB3.out.tch ht4 (fun hf => HNF3.out hf)
  obtain ⟨y0, y1, y2, _, _, _, l4⟩ := b_blk B4
  have HT4 := hid (And.intro ht4 ha4)
  have HL4 := hid (pen_data ht4 ha4 HL3.out)
  have HB4 := hid B4
  have HNF4 := hid (fun (hf : PenF g a4 w.heap.size) => penF_old ha4 HB3.out.lt (fun hf => HNF3.out hf) hf)
  have HP4 := hid hp4
  have hs4 := ht4.size
  clear B4 hp4 ht4 ha4 x0 x1 x2
  go_wp2_with fail
  clear y0 y1 y2
  go_loopw [28] (fun i wr => ∃ k : Nat, k ≤ l.length ∧ i = .int .i64 k ∧ Hid (PenStep w4 g base most (J ++ varB ep.toNat ++ varB bs.toNat ++ varB l.length ++ headsB bs (l.take k)) a4 wr)) (fun i _ => l.length - (intOf i).toNat)
  case atStart => exact ⟨0, Nat.zero_le _, rfl, hid (by simpa [headsB] using PenStep.refl HP4.out)⟩
  case round =>
    obtain ⟨k, hk, rfl, hp⟩ := hrel
    obtain ⟨a5, c5, hp5, ht5, ha5⟩ := hp.out
    have B5 := HB4.out.tch ht5 (fun hf => HNF4.out hf)
    obtain ⟨x0, x1, x2, _, _, _, l5⟩ := b_blk B5
    have hd5 := pen_data ht5 ha5 HL4.out
    have hhl := HHL.out (k + 1)
    rcases Nat.lt_or_ge k l.length with hlt | hge
    · obtain ⟨bb, o, hA, hbb, a6, c6, a7, c7, z0, z1, hlk, hd⟩ := entry_at hd5 hlt
      subst hA
      have hbl : bb < wr.heap.size := World.block_lt_of_cell? _ _ z0
      have hst := HHS.out k hlt
      rw [hst, List.length_append] at hhl
      have i1 : (k : Int) < (l.length : Int) := by omega
      have d1 : decide ((k : Int) < (l.length : Int)) = true := decide_eq_true i1
      have hJ5 := hp5.len
      simp only [List.length_append] at hJ5
      have hPT := fun (W : World) (hW : Below wr.heap.size wr W) => entry_puthead W (hp5.later hW) (bs + k) (by omega) l[k] a6 a7 _ c6 _ c7 (pen_later hW hlk) (lift (pen_low hd) hW) (HEA.out k hlt) (HBK.out l[k] (List.getElem_mem hlt)) (by simp only [List.length_append]; omega) (by simp only [List.length_append]; omega)
      have HPT := hid hPT
      have HT5 := hid (And.intro ht5 ha5)
      have HST := hid hst
      generalize l[k] = y at *
      clear hPT hp5 ht5 ha5 hp hst hlk hd hd5 hhl hJ5 B5
      go_wp2_with fail
      have hbW : Below wr.heap.size wr (wr.alloc (.cells #[.slice a6 y.links.length c6, .slice a7 y.data.length c7] 75)) := by (repeat (first | with_reducible exact Below.refl _ _ | with_reducible assumption | (with_reducible refine below_alloc ?_ _) | (with_reducible refine Below.setCell ?_ (by first | omega | (simp; done) | (simp; omega)) _) | (with_reducible refine Below.drew ?_) | (with_reducible refine below_drewN ?_ _) | (refine below_then (by with_reducible assumption) ?_)))
      refine (HPT.out _ hbW).mono ?_
      rintro r w6 ⟨rfl, hst6⟩
      have hn := PenStep.trans (J := J) HT5.out.1 HT5.out.2 (PenStep.later hbW hst6)
      rw [List.append_assoc _ (headsB bs (l.take k)), ← HST.out] at hn
      have HN := hid hn
      clear hst6 hn x0 x1 x2
      go_wp2
      go_roundw
      case rel => exact ⟨k + 1, by omega, by go_num, HN⟩
      case measure => simp [intOf]; omega
    · obtain rfl : k = l.length := by omega
      have d1 : decide ((l.length : Int) < (l.length : Int)) = false := decide_eq_false (by omega)
      rw [List.take_length] at hp5
      have HJN := hid (fun (W : World) (hW : rEntries.r (· < W.heap.size) W [.slice al l.length cl] l) => entry_join l al _ cl W hW (by omega))
      have HPW := hid hp5
      have HD5 := hid hd5
      have HT5 := hid (And.intro ht5 ha5)
      clear hp ht5 ha5 hp5 hd5 B5
      go_wp2_with fail
      refine (HJN.out _ (pen_low HD5.out)).mono ?_
      rintro r w6 ⟨v6, rfl, hr6, hb6⟩
      obtain ⟨a8, c8, hv6, hr6', _⟩ := sl_form hr6
      simp only [List.cons.injEq, and_true] at hv6
      subst hv6
      have HBP := hid (block_put w6 (HPW.out.later hb6) (joined l) a8 _ c8 (pen_new_data HPW.out hr6') (by rw [HJL.out]; omega) (by simp only [List.length_append]; omega) (by simp only [List.length_append]; omega))
      clear hr6 hr6' x0 x1 x2
      go_wp2_with fail
      refine HBP.out.mono ?_
      rintro r w7 ⟨rfl, hst7⟩
      have hn := PenStep.later hbw1 (PenStep.trans (J := J) HT2.out.1 HT2.out.2 (PenStep.trans (J := J) HT3.out.1 HT3.out.2 (PenStep.trans (J := J) HT4.out.1 HT4.out.2 (PenStep.trans (J := J) HT5.out.1 HT5.out.2 (PenStep.later hb6 hst7)))))
      have HN : Hid (PenStep w g base most (J ++ (varB ep.toNat ++ varB bs.toNat ++ varB l.length ++ headsB bs l ++ blockB (joined l))) a w7) := hid (by simpa only [List.append_assoc] using hn)
      clear hst7 hn
      go_wp2
      first | go_end0 | refine bodyPost_ret (results_none rfl _ _ _) rfl ?_
      exact ⟨rfl, HN.out⟩

set_option maxRecDepth 100000 in
set_option maxHeartbeats 3200000 in
theorem batch_put_bad (w : World) {g base most : Nat} {J : List UInt8} {a : Option Addr} {c : Nat} (h : PenAt w g base most J a c) (b : Batch) (al : Option Addr) (nl cl : Nat) (hN : batchN b)
    (hl : rEntries.r (· < w.heap.size) w [.slice al nl cl] b.entries) (hR : batchR b = false) (ht : TameE b.entries) :
    Calls Tryz.prog 19 #[.pointer (some ⟨g, 0, none⟩), .agg #[.int .u64 b.epoch, .int .u64 b.base, .slice al nl cl]] w fun r w' => r = .returned (.tuple #[]) ∧ Blk w' g 109 #[.int .i64 most, .slice a J.length c, .int .i64 3] ∧ Tch (· = g) w w' := by
  obtain ⟨rfl, hm, _, _⟩ := sl_len hl
  obtain ⟨h0, h1, _⟩ := hN
  have HRT := hid (fun (W : World) (hW : Below w.heap.size w W) => batch_right b al _ cl W h0 h1 (lift hl hW) ht.fair)
  rw [hR] at HRT
  have HF := hid (fun (W : World) (hW : Below w.heap.size w W) => pen_fail W (h.later hW) 3)
  obtain ⟨ep, bs, l⟩ := b
  dsimp only at *
  clear h hl hR ht
  go_enter Tryz.func19, Tryz.ntmps19
  go_wp2_with fail
  refine (HRT.out _ (by (repeat (first | with_reducible exact Below.refl _ _ | with_reducible assumption | (with_reducible refine below_alloc ?_ _) | (with_reducible refine Below.setCell ?_ (by first | omega | (simp; done) | (simp; omega)) _) | (with_reducible refine Below.drew ?_) | (with_reducible refine below_drewN ?_ _) | (refine below_then (by with_reducible assumption) ?_))))).mono ?_
  rintro r w1 ⟨rfl, hb1⟩
  have hbw1 : Below w.heap.size w w1 := by (repeat (first | with_reducible exact Below.refl _ _ | with_reducible assumption | (with_reducible refine below_alloc ?_ _) | (with_reducible refine Below.setCell ?_ (by first | omega | (simp; done) | (simp; omega)) _) | (with_reducible refine Below.drew ?_) | (with_reducible refine below_drewN ?_ _) | (refine below_then (by with_reducible assumption) ?_)))
  go_wp2_with fail
  refine (HF.out _ hbw1).mono ?_
  rintro r w2 ⟨rfl, hB2, hT2⟩
  have HB2 := hid hB2
  have HT2 := hid hT2
  clear hB2 hT2
  go_wp2
  first | go_end0 | refine bodyPost_ret (results_none rfl _ _ _) rfl ?_
  exact ⟨rfl, HB2.out, Tch.trans (F := (· = g)) (Tch.of_later hbw1) HT2.out (fun _ _ h => h)⟩

/-- What batch.Bytes gives. -/
def batchBytes (b : Batch) : List UInt8 × Int := if batchR b = true then (batchB b, 0) else ([], 3)
set_option maxRecDepth 100000 in
set_option maxHeartbeats 3200000 in
theorem batch_bytes (w : World) (b : Batch) (al : Option Addr) (nl cl : Nat) (hN : batchN b) (hl : rEntries.r (· < w.heap.size) w [.slice al nl cl] b.entries) (ht : TameE b.entries) :
    Calls Tryz.prog 17 #[.agg #[.int .u64 b.epoch, .int .u64 b.base, .slice al nl cl]] w fun r w' => ∃ v, r = .returned (.tuple #[v, .int .i64 (batchBytes b).2]) ∧ rBytes.r (fun q => w.heap.size ≤ q ∧ q < w'.heap.size) w' [v] (batchBytes b).1 ∧ Below w.heap.size w w' := by
  obtain ⟨rfl, hm, _, _⟩ := sl_len hl
  have HRM := hid (fun (W : World) (hW : Below w.heap.size w W) => batch_room W b al _ cl hN.1 hN.2.1 (lift hl hW) ht)
  have HL := hid hl
  unfold batchBytes
  cases hR : batchR b
  · rw [if_neg (by simp)]
    have HPT := hid (fun (W : World) {g base most : Nat} {a : Option Addr} {c : Nat} (h : PenAt W g base most [] a c) (hW : Below w.heap.size w W) => batch_put_bad W h b al _ cl hN (lift HL.out hW) hR ht)
    obtain ⟨ep, bs, l⟩ := b
    dsimp only at *
    clear hl hR ht hN
    go_enter Tryz.func17, Tryz.ntmps17
    go_wp2_with fail
    refine (HRM.out _ (by (repeat (first | with_reducible exact Below.refl _ _ | with_reducible assumption | (with_reducible refine below_alloc ?_ _) | (with_reducible refine Below.setCell ?_ (by first | omega | (simp; done) | (simp; omega)) _) | (with_reducible refine Below.drew ?_) | (with_reducible refine below_drewN ?_ _) | (refine below_then (by with_reducible assumption) ?_))))).mono ?_
    rintro r w1 ⟨M, rfl, hM, _, hb1⟩
    have B1 := Blk.later (Blk.newAt w 25 #[.int .u64 ep, .int .u64 bs, .slice al l.length cl] rfl) hb1
    have hbw1 : Below w.heap.size w w1 := by (repeat (first | with_reducible exact Below.refl _ _ | with_reducible assumption | (with_reducible refine below_alloc ?_ _) | (with_reducible refine Below.setCell ?_ (by first | omega | (simp; done) | (simp; omega)) _) | (with_reducible refine Below.drew ?_) | (with_reducible refine below_drewN ?_ _) | (refine below_then (by with_reducible assumption) ?_)))
    have HN := hid (pen_new w1 M (by omega))
    clear hb1
    go_wp2_with fail
    refine HN.out.mono ?_
    rintro r w2 ⟨rfl, hp2, hb2⟩
    have B2 := B1.later hb2
    obtain ⟨x0, x1, x2, _, _, _, l2⟩ := b_blk B2
    have hbw2 := below_then hb2 hbw1
    have HP2 := hid (HPT.out w2 hp2 hbw2)
    have hs1 := hbw1.size
    clear hp2 B1 B2
    go_wp2_with fail
    refine HP2.out.mono ?_
    rintro r w3 ⟨rfl, hB3, hT3⟩
    have hbw3 : Below w.heap.size w w3 := hbw2.trans (hT3.to_below hbw2.size (fun q _ e => by omega))
    have HB := hid (pen_bytes_bad w3 (k := 3) (by omega) hB3)
    clear hB3 hT3 x0 x1 x2
    go_wp2_with fail
    refine HB.out.mono ?_
    rintro r w4 ⟨rfl, rfl⟩
    go_wp2
    go_ret2
    exact ⟨_, rfl, empty_bytes2 rfl rfl (by omega), hbw3⟩
  · rw [if_pos rfl]
    have hbl := batchB_len hR
    have HPT := hid (fun (W : World) {g base most : Nat} {a : Option Addr} {c : Nat} (h : PenAt W g base most [] a c) (hW : rEntries.r (fun q => q < W.heap.size ∧ ¬ PenF g a q) W [.slice al b.entries.length cl] b.entries) (hf : (batchB b).length ≤ most) => batch_put W h b al _ cl hN hW hR ht (by simpa using hf) (by have := ht.tot; have := (varB_len (total b.entries)).1; simp; omega))
    have HRR := hid hR
    generalize batchB b = K at *
    obtain ⟨ep, bs, l⟩ := b
    dsimp only at *
    have HBL := hid hbl
    clear hl hR ht hN hbl
    go_enter Tryz.func17, Tryz.ntmps17
    go_wp2_with fail
    refine (HRM.out _ (by (repeat (first | with_reducible exact Below.refl _ _ | with_reducible assumption | (with_reducible refine below_alloc ?_ _) | (with_reducible refine Below.setCell ?_ (by first | omega | (simp; done) | (simp; omega)) _) | (with_reducible refine Below.drew ?_) | (with_reducible refine below_drewN ?_ _) | (refine below_then (by with_reducible assumption) ?_))))).mono ?_
    rintro r w1 ⟨M, rfl, hM, hM2, hb1⟩
    have hfit : K.length ≤ M := by have := hM2 HRR.out; have := HBL.out.2.1; omega
    have B1 := Blk.later (Blk.newAt w 25 #[.int .u64 ep, .int .u64 bs, .slice al l.length cl] rfl) hb1
    have hbw1 : Below w.heap.size w w1 := by (repeat (first | with_reducible exact Below.refl _ _ | with_reducible assumption | (with_reducible refine below_alloc ?_ _) | (with_reducible refine Below.setCell ?_ (by first | omega | (simp; done) | (simp; omega)) _) | (with_reducible refine Below.drew ?_) | (with_reducible refine below_drewN ?_ _) | (refine below_then (by with_reducible assumption) ?_)))
    have HN := hid (pen_new w1 M (by omega))
    clear hb1 hM2
    go_wp2_with fail
    refine HN.out.mono ?_
    rintro r w2 ⟨rfl, hp2, hb2⟩
    have B2 := B1.later hb2
    obtain ⟨x0, x1, x2, _, _, _, l2⟩ := b_blk B2
    have hbw2 := below_then hb2 hbw1
    have hs1 := hbw1.size
    have HPA := hid hp2
    have HP2 := hid (HPT.out w2 hp2 (rEntries.mono (rEntries.keep HL.out fun q hq => hbw2.block q hq) fun q hq => ⟨by have := hbw2.size; omega, fun hf => by have := (hp2.own_lt hf).1; omega⟩) hfit)
    clear hp2 B1 B2
    go_wp2_with fail
    refine HP2.out.mono ?_
    rintro r w3 ⟨rfl, hst⟩
    rw [List.nil_append] at hst
    have hbw3 : Below w.heap.size w w3 := hbw2.trans (HPA.out.below hs1 hbw2.size hst)
    obtain ⟨a3, c3, hp3, _, _⟩ := hst
    have HB := hid (pen_bytes w3 hp3)
    have hs3 := hbw3.size
    clear hp3 x0 x1 x2
    go_wp2_with fail
    refine HB.out.mono ?_
    rintro r w4 ⟨v, rfl, hv, hb4⟩
    have hbe := below_then hb4 hbw3
    have HV := hid (rBytes.mono (S' := fun q => w.heap.size ≤ q ∧ q < w4.heap.size) hv fun q hq => ⟨by have := hq.1; omega, hq.2⟩)
    clear hv
    go_wp2
    go_ret2
    exact ⟨_, rfl, HV.out, hbe⟩
end Go.Proofs.YtkipiefcnjfdjaaGreat
namespace Go.Proofs.YtkipiefcnjfdjaaGreat
open Go.RowKit Go.Bs Go.Maps
set_option linter.unusedVariables false
set_option linter.unusedSimpArgs false

theorem stepsL_get : ∀ (l : List Int) (p : Int) (k : Nat) (h : k < l.length), (stepsL p l)[k]'(by rw [stepsL_len]; exact h) = ahead p l k - l[k] - 1
  | [], p, k, h => by simp at h
  | x :: l, p, 0, h => by simp [stepsL, ahead]
  | x :: l, p, k + 1, h => by
    simp only [stepsL, List.getElem_cons_succ]
    rw [stepsL_get l x k (by simpa using h)]
    congr 2
    unfold ahead
    cases k with
    | zero => simp
    | succ k => simp
theorem falls_at : ∀ (l : List Int) (p : Int) (k : Nat) (h : k < l.length), fallsB p l = true → l[k] < ahead p l k
  | [], p, k, h, _ => by simp at h
  | x :: l, p, 0, h, hf => by simp only [fallsB, Bool.and_eq_true, decide_eq_true_eq] at hf; simpa [ahead] using hf.1
  | x :: l, p, k + 1, h, hf => by
    simp only [fallsB, Bool.and_eq_true, decide_eq_true_eq] at hf
    have := falls_at l x k (by simpa using h) hf.2
    rw [List.getElem_cons_succ]
    unfold ahead at this ⊢
    cases k with
    | zero => simpa using this
    | succ k => simpa using this

set_option maxRecDepth 100000 in
set_option maxHeartbeats 3200000 in
theorem ref22_steps (w : World) (pos : Int) (hpos : 0 ≤ pos ∧ pos ≤ 18446744073709551615) (l : List Int) (al : Option Addr) (nl cl : Nat) (hl : rU64s.r (· < w.heap.size) w [.slice al nl cl] l) (hf : fallsB pos l = true) (hlen : l.length ≤ 1000000) :
    Calls Tryz.prog 278 #[.int .u64 pos, .slice al nl cl] w fun r w' => ∃ v, r = .returned v ∧ rU64s.r (fun q => w.heap.size ≤ q ∧ q < w'.heap.size) w' [v] (stepsL pos l) ∧ Below w.heap.size w w' := by
  obtain ⟨rfl, hm, _, _⟩ := sl_len hl
  obtain ⟨i0, hi, hz0, hz1, hz2⟩ := info_parts infoU
  have HL := hid hl
  have hxs := u64s_bounds hl
  have hul := stepsL_len pos l
  have HU := hid (fun (k : Nat) (h : k < l.length) => stepsL_get l pos k h)
  have HF := hid (fun (k : Nat) (h : k < l.length) => falls_at l pos k h hf)
  have HXB := hid (fun (k : Nat) (h : k < l.length) => hxs l[k] (List.getElem_mem h))
  clear hl hf hxs
  go_enter Tryz.func278, Tryz.ntmps278
  go_wp2_with fail
  go_loopw [5, 6] (fun v i wr => ∃ k : Nat, k ≤ l.length ∧ i = .int .i64 k ∧ wr.ownsRow w.heap.size 22 1 v k (u64Cells ((stepsL pos l).take k)) ∧ Hid (∀ x ∈ (stepsL pos l).take k, 0 ≤ x ∧ x ≤ 18446744073709551615) ∧ Below w.heap.size w wr) (fun _ i _ => l.length - (intOf i).toNat)
  case atStart => exact ⟨0, Nat.zero_le _, rfl, ⟨rfl, .inl ⟨rfl, rfl⟩⟩, hid (by simp), Below.refl _ _⟩
  case round =>
    obtain ⟨k, hk, rfl, hown, hbd, hb⟩ := hrel
    obtain ⟨av, cv, rfl⟩ := own_form hown
    rcases Nat.lt_or_ge k l.length with hlt | hge
    · obtain ⟨b, o, hA, hbb, x0, hx⟩ := u64_at (lift HL.out hb) hlt
      subst hA
      have hu := HU.out k hlt
      have hfa := HF.out k hlt
      have i1 : (k : Int) < (l.length : Int) := by omega
      have d1 : decide ((k : Int) < (l.length : Int)) = true := decide_eq_true i1
      have htk : u64Cells ((stepsL pos l).take (k + 1)) = u64Cells ((stepsL pos l).take k) ++ [.int .u64 ((stepsL pos l)[k]'(by omega))] := by
        rw [List.take_succ_eq_append_getElem (by omega)]; unfold u64Cells; rw [List.map_append]; rfl
      have hnb : ∀ y : Int, (stepsL pos l)[k]'(by omega) = y → (0 ≤ y ∧ y ≤ 18446744073709551615) → ∀ x ∈ (stepsL pos l).take (k + 1), 0 ≤ x ∧ x ≤ 18446744073709551615 := fun y e hy x hx => by
        rw [List.take_succ_eq_append_getElem (by omega), List.mem_append, List.mem_singleton] at hx
        rcases hx with hx | rfl
        · exact hbd.out x hx
        · rw [e]; exact hy
      have HTK := hid htk
      have HNB := hid hnb
      have HO := hid hown
      have hz := hb.size
      rw [hu] at HTK
      rcases Nat.eq_zero_or_pos k with rfl | hk0
      · rw [ahead_zero] at hu hfa HTK
        have HBD := hid (HNB.out _ hu (by omega))
        simp only [Nat.zero_mul, Nat.add_zero, Nat.zero_add] at x0
        generalize l[0] = y at *
        have w1 : 0 ≤ pos - 1 - y := by omega
        have w2 : 0 ≤ pos - 1 := by omega
        rw [show pos - y - 1 = pos - 1 - y by omega] at HTK
        clear hu htk hnb hbd hown
        go_wp2_with (at_builtin; go_loud (refine wpList_append_src rfl _ _ _ rfl w.heap.size 22 i0 (.int .u64 0) 1 8 Tryz.underlying207 hi hz0 hz1 hz2 rfl (by decide) (.slice av 0 cv) 0 _ rfl (own_below HO.out (by (repeat (first | with_reducible exact Below.refl _ _ | with_reducible assumption | (with_reducible refine below_alloc ?_ _) | (with_reducible refine Below.setCell ?_ (by first | omega | (simp; done) | (simp; omega)) _) | (with_reducible refine Below.drew ?_) | (with_reducible refine below_drewN ?_ _) | (refine below_then (by with_reducible assumption) ?_))))) (some ⟨wr.heap.size, 0, none⟩) 1 1 [.int .u64 (pos - 1 - y)] rfl (src_new1 _ 22 _ rfl (by simp) rfl) (by simp [Value.oneCell']) (by simp only [maxLen]; omega) (by omega) (by simp; omega) ?_; intro v' w3 hown3 hgrow3 hat3; obtain ⟨a3, c3, rfl⟩ := own_form hown3; have HO3 := hid hown3; have hb3 : Below w.heap.size wr w3 := (Below.grown ((by (repeat (first | with_reducible exact Below.refl _ _ | with_reducible assumption | (with_reducible refine below_alloc ?_ _) | (with_reducible refine Below.setCell ?_ (by first | omega | (simp; done) | (simp; omega)) _) | (with_reducible refine Below.drew ?_) | (with_reducible refine below_drewN ?_ _) | (refine below_then (by with_reducible assumption) ?_))) : Below wr.heap.size wr _).mono hz) hgrow3 (by simp; omega) (fun g e => (HO.out.lt g e).1)); clear hown3 hgrow3 hat3))
        have ho3 := HO3.out
        rw [← HTK.out] at ho3
        have HO4 := hid ho3
        clear ho3 x0
        go_roundw
        case rel => exact ⟨1, by omega, by go_num, by simpa using HO4.out, HBD, hb.trans hb3⟩
        case measure => simp [intOf]; omega
      · obtain ⟨m, rfl⟩ : ∃ m, k = m + 1 := ⟨k - 1, by omega⟩
        obtain ⟨b', o', hA', hbb', y0, hy⟩ := u64_at (lift HL.out hb) (show m < l.length by omega)
        simp only [Option.some.injEq, Addr.mk.injEq] at hA'
        obtain ⟨rfl, rfl, _⟩ := hA'
        rw [ahead_succ pos l m (by omega)] at hu hfa HTK
        have hm0 := HXB.out m (by omega)
        have hm1 := HXB.out (m + 1) hlt
        have HBD := hid (HNB.out _ hu (by omega))
        have i1' : (m : Int) + 1 < (l.length : Int) := by omega
        have i2 : (m : Int) < (l.length : Int) := by omega
        have d2 : decide ((m : Int) + 1 < (l.length : Int)) = true := decide_eq_true i1'
        have d3 : decide (m + 1 < l.length) = true := decide_eq_true hlt
        generalize l[m + 1] = y at *
        generalize l[m]'(by omega) = z at *
        have w1 : 0 ≤ z - 1 - y := by omega
        have w2 : 0 ≤ z - 1 := by omega
        rw [show z - y - 1 = z - 1 - y by omega] at HTK
        clear hu htk hnb hbd hown
        go_wp2_with (at_builtin; go_loud (refine wpList_append_src rfl _ _ _ rfl w.heap.size 22 i0 (.int .u64 0) 1 8 Tryz.underlying207 hi hz0 hz1 hz2 rfl (by decide) (.slice av (m + 1) cv) (m + 1) _ rfl (own_below HO.out (by (repeat (first | with_reducible exact Below.refl _ _ | with_reducible assumption | (with_reducible refine below_alloc ?_ _) | (with_reducible refine Below.setCell ?_ (by first | omega | (simp; done) | (simp; omega)) _) | (with_reducible refine Below.drew ?_) | (with_reducible refine below_drewN ?_ _) | (refine below_then (by with_reducible assumption) ?_))))) (some ⟨wr.heap.size, 0, none⟩) 1 1 [.int .u64 (z - 1 - y)] rfl (src_new1 _ 22 _ rfl (by simp) rfl) (by simp [Value.oneCell']) (by simp only [maxLen]; omega) (by omega) (by simp; omega) ?_; intro v' w3 hown3 hgrow3 hat3; obtain ⟨a3, c3, rfl⟩ := own_form hown3; have HO3 := hid hown3; have hb3 : Below w.heap.size wr w3 := (Below.grown ((by (repeat (first | with_reducible exact Below.refl _ _ | with_reducible assumption | (with_reducible refine below_alloc ?_ _) | (with_reducible refine Below.setCell ?_ (by first | omega | (simp; done) | (simp; omega)) _) | (with_reducible refine Below.drew ?_) | (with_reducible refine below_drewN ?_ _) | (refine below_then (by with_reducible assumption) ?_))) : Below wr.heap.size wr _).mono hz) hgrow3 (by simp; omega) (fun g e => (HO.out.lt g e).1)); clear hown3 hgrow3 hat3))
        have ho3 := HO3.out
        rw [← HTK.out] at ho3
        have HO4 := hid ho3
        clear ho3 x0 y0
        go_roundw
        case rel => exact ⟨m + 1 + 1, by omega, by go_num, HO4.out, HBD, hb.trans hb3⟩
        case measure => simp [intOf]; omega
    · obtain rfl : k = l.length := by omega
      have d1 : decide ((l.length : Int) < (l.length : Int)) = false := decide_eq_false (by omega)
      have hv := hown
      rw [List.take_of_length_le (by omega)] at hv hbd
      have HV := hid (own_ints64 hbd.out (by omega) hv)
      clear hv hown
      go_wp2
      go_ret
      exact ⟨_, rfl, HV.out, hb⟩

/-- A row that is its own, of bytes. -/
def OwnB (w : World) (base : Nat) (v : Value) (L : List UInt8) : Prop := w.ownsRow base 5 1 v L.length (byteCells L)
theorem byteCells_app3 (l l' : List UInt8) : byteCells l ++ byteCells l' = byteCells (l ++ l') := by simp [byteCells]
theorem OwnB.app {w : World} {base : Nat} {v : Value} {L D : List UInt8} (h : w.ownsRow base 5 1 v (L.length + D.length) (byteCells L ++ byteCells D)) : OwnB w base v (L ++ D) := by
  unfold OwnB
  rw [List.length_append, ← byteCells_app3]
  exact h

set_option maxRecDepth 100000 in
set_option maxHeartbeats 3200000 in
theorem ref22_bytes (w : World) (pos : Int) (hpos : 0 ≤ pos ∧ pos ≤ 18446744073709551615) (l : List Int) (al : Option Addr) (nl cl : Nat) (hl : rU64s.r (· < w.heap.size) w [.slice al nl cl] l) (hf : fallsB pos l = true) (hlen : l.length ≤ 1000000) :
    Calls Tryz.prog 250 #[.int .u64 pos, .slice al nl cl] w fun r w' => ∃ v, r = .returned v ∧ OwnB w' w.heap.size v (deltaB pos l) ∧ Below w.heap.size w w' := by
  obtain ⟨rfl, hm, _, _⟩ := sl_len hl
  obtain ⟨i0, hi, hz0, hz1, hz2⟩ := info_parts info8
  have HS := hid (fun (W : World) (hW : Below w.heap.size w W) => ref22_steps W pos hpos l al _ cl (lift hl hW) hf hlen)
  have HV := hid (ref04_own l.length (by omega) w)
  have hsl := stepsL_len pos l
  have hnb := numsB_len (stepsL pos l)
  have hvl := (varB_len l.length).1
  unfold deltaB
  have HMO := hid (fun k => numsB_take_le (stepsL pos l) k)
  have HNS := hid (fun (k : Nat) (h : k < (stepsL pos l).length) => numsB_step (stepsL pos l) k h)
  generalize stepsL pos l = T at *
  generalize varB l.length = V at *
  clear hl hf
  go_enter Tryz.func250, Tryz.ntmps250
  go_wp2_with fail
  refine HV.out.mono ?_
  rintro r w1 ⟨v1, rfl, hv1, hb1⟩
  obtain ⟨a1, c1, rfl⟩ := own_form hv1
  have HO1 := hid hv1
  clear hv1
  go_wp2_with fail
  refine (HS.out _ hb1).mono ?_
  rintro r w2 ⟨v2, rfl, hr2, hb2⟩
  obtain ⟨a2, c2, hv2, hr2', _⟩ := sl_form hr2
  simp only [List.cons.injEq, and_true] at hv2
  subst hv2
  have HT := hid (rU64s.mono (S' := fun q => w1.heap.size ≤ q ∧ q < w2.heap.size) hr2' fun q hq => hq)
  have HO2 := hid (own_below HO1.out hb2)
  have hbw2 := below_then hb2 hb1
  have hsz2 := hb2.size
  clear hr2 hr2'
  go_wp2_with fail
  go_loopw [5, 7] (fun v i wr => ∃ (k : Nat) (J : List UInt8), k ≤ T.length ∧ i = .int .i64 k ∧ OwnB wr w.heap.size v J ∧ Hid (J = V ++ numsB (T.take k)) ∧ (∃ aJ cJ, v = .slice aJ J.length cJ) ∧ Below w.heap.size w wr ∧ w2.heap.size ≤ wr.heap.size ∧ rU64s.r (fun q => w1.heap.size ≤ q ∧ q < w2.heap.size) wr [.slice a2 T.length c2] T ∧ Hid (∀ q, v.ownBlock = some q → ¬ (w1.heap.size ≤ q ∧ q < w2.heap.size))) (fun _ i _ => T.length - (intOf i).toNat)
  case atStart => exact ⟨0, V, Nat.zero_le _, rfl, HO2.out, hid (by simp [numsB]), ⟨_, _, rfl⟩, hbw2, Nat.le_refl _, HT.out, hid (fun q e h => by have := (HO1.out.lt q e).2; omega)⟩
  case round =>
    obtain ⟨k, J, hk, rfl, hown, hJ, ⟨aJ, cJ, rfl⟩, hb, hsz, hT, hav⟩ := hrel
    rcases Nat.lt_or_ge k T.length with hlt | hge
    · obtain ⟨b, o, hA, hbb, x0, hx0, hx1⟩ := u64_at hT hlt
      subst hA
      have hst := HNS.out k hlt
      have hmo := HMO.out (k + 1)
      rw [hst, List.length_append] at hmo
      have hJl : J.length + (varB T[k].toNat).length ≤ 20000000 := by have := congrArg List.length hJ.out; rw [List.length_append] at this; omega
      have HN := hid (fun (W : World) => (by have := ref04_own T[k].toNat (by omega) W; rw [toNat_cast hx0] at this; exact this : Calls Tryz.prog 144 #[.int .u64 T[k]] W fun r w' => ∃ v, r = .returned v ∧ w'.ownsRow W.heap.size 5 1 v (varB T[k].toNat).length (byteCells (varB T[k].toNat)) ∧ Below W.heap.size W w'))
      have HJ1 : Hid (J ++ varB T[k].toNat = V ++ numsB (T.take (k + 1))) := hid (by rw [hst, hJ.out, List.append_assoc])
      have HO := hid hown
      have HTT := hid hT
      have i1 : (k : Int) < (T.length : Int) := by omega
      have d1 : decide ((k : Int) < (T.length : Int)) = true := decide_eq_true i1
      generalize varB T[k].toNat = VK at *
      have HONE := hid (byteCells_one VK)
      generalize T[k] = y at *
      clear hst hmo hJ hown hT
      go_wp2_with fail
      refine (HN.out _).mono ?_
      rintro r w3 ⟨v3, rfl, hv3, hb3⟩
      obtain ⟨a3, c3, rfl⟩ := own_form hv3
      have HS3 := hid (src_bytes (own_bytes rfl hv3))
      have HO3 := hid (own_below HO.out hb3)
      have hz := hb.size
      have hz3 := hb3.size
      clear hv3
      go_wp2_with (at_builtin; go_loud (refine wpList_append_src rfl _ _ _ rfl w.heap.size 5 i0 (.int .u8 0) 1 1 Tryz.underlying28 hi hz0 hz1 hz2 rfl (by decide) (.slice aJ J.length cJ) J.length (byteCells J) rfl HO3.out a3 VK.length c3 (byteCells VK) rfl HS3.out HONE.out (by simp only [maxLen]; omega) (by omega) (by omega) ?_; intro v' w4 hown4 hgrow4 hat4; obtain ⟨a4, c4, rfl⟩ := own_form hown4; have HO4 := hid hown4; have HGR4 := hid hgrow4; have HA4 := hid hat4; clear hown4 hgrow4 hat4))
      have ho4 := OwnB.app HO4.out
      have hb4 : Below w.heap.size w3 w4 := (Below.grown (Below.refl _ _) HGR4.out (by omega) (fun g e => (HO3.out.lt g e).1))
      have hg4 : rU64s.r (fun q => w1.heap.size ≤ q ∧ q < w2.heap.size) w4 [.slice (some ⟨b, o, none⟩) T.length c2] T := rU64s.keep HTT.out fun q hq => by
        have hq' : w1.heap.size ≤ q ∧ q < w2.heap.size := hq
        exact (HGR4.out.block q (by omega) (fun e => hav.out q e.symm hq')).trans (hb3.block q (by omega))
      have HO5 := hid ho4
      have HG4 := hid hg4
      clear ho4 hg4
      go_roundw
      case rel => exact ⟨k + 1, J ++ VK, by omega, by go_num, HO5.out, HJ1, ⟨_, _, by rw [List.length_append]⟩, hb.trans ((hb3.mono hb.size).trans hb4), by have := hb4.size; omega, HG4.out, hid (fun q e h => by
        rcases HA4.out with h1 | h1
        · exact hav.out q (h1 ▸ e) h
        · rw [h1] at e; simp at e; omega)⟩
      case measure => simp [intOf]; omega
    · obtain rfl : k = T.length := by omega
      have d1 : decide ((T.length : Int) < (T.length : Int)) = false := decide_eq_false (by omega)
      have hfin : Hid (J = V ++ numsB T) := hid (by have := hJ.out; rwa [List.take_length] at this)
      have HO := hid hown
      clear hown hJ
      go_wp2
      go_ret
      rw [← hfin.out]
      exact ⟨_, rfl, HO.out, hb⟩
end Go.Proofs.YtkipiefcnjfdjaaGreat
namespace Go.Proofs.YtkipiefcnjfdjaaGreat
open Go.RowKit Go.Bs Go.Maps
set_option linter.unusedVariables false
set_option linter.unusedSimpArgs false

theorem varB_cells {n : Nat} (h : n < 128) : byteCells (varB n) = [.int .u8 (n : Int)] := by
  rw [varB_small h]
  simp [byteCells]
  omega
theorem link_parts (pos : Int) (l : List Link) : ∃ Z : List (List UInt8), lnkF pos none l = Z.flatten ∧ Z.length = l.length ∧ (∀ k, (Z.take k).flatten.length ≤ Z.flatten.length) ∧ ∀ (k : Nat) (h : k < l.length), (Z.take (k + 1)).flatten = (Z.take k).flatten ++ (varB ((upsL none l)[k]'(by rw [upsL_len]; exact h)).toNat ++ deltaB pos l[k].backs) := by
  refine ⟨linkZ pos none l, linksF_zip pos l none, linkZ_len pos none l, fun k => flat_take_le _ k, fun k h => ?_⟩
  have := flat_step (linkZ pos none l) k (by rw [linkZ_len]; exact h)
  rw [linkZ_get pos l k h] at this
  exact this
set_option maxRecDepth 100000 in
set_option maxHeartbeats 6400000 in
theorem ref23_bytes (w : World) (pos : Int) (hpos : 0 ≤ pos ∧ pos ≤ 18446744073709551615) (l : List Link) (al : Option Addr) (nl cl : Nat) (hl : rLinks.r (· < w.heap.size) w [.slice al nl cl] l) (hR : linksR pos l = true) (hbk : ∀ x ∈ l, x.backs.length ≤ 1000000) :
    Calls Tryz.prog 205 #[.int .u64 pos, .slice al nl cl] w fun r w' => ∃ v, r = .returned v ∧ OwnB w' w.heap.size v (linksB pos l) ∧ Below w.heap.size w w' := by
  obtain ⟨rfl, hm, _, _⟩ := sl_len hl
  obtain ⟨i0, hi, hz0, hz1, hz2⟩ := info_parts info8
  have hN := links_bounds hl
  have hR' := hR
  simp only [linksR, Bool.and_eq_true, decide_eq_true_eq, List.all_eq_true] at hR'
  have hlk : ∀ x ∈ l, fallsB pos x.backs = true := fun x hx => by have := hR'.2.2 x hx; simp only [linkR, Bool.and_eq_true] at this; exact this.2
  have HLK := hid hlk
  have HBK := hid hbk
  have hup := hid (upsL_bounds l hR'.2.1 (fun x hx => (hN x hx).1))
  have hul := upsL_len none l
  have hle := linkZ_len_le pos l hR
  have HL := hid hl
  have hvl := varB_len_small (x := l.length) (by omega)
  have HVC := hid (varB_cells (n := l.length) (by omega))
  have HU := hid (fun (k : Nat) (h : k < l.length) => upsL_get l none k h)
  have HRI := hid (fun (k : Nat) (h : k + 1 < l.length) => (by have := rises_at (l.map Link.stream) k (by simpa using h) hR'.2.1; simpa using this : l[k].stream < l[k + 1].stream))
  obtain ⟨Z, hZ, hzl, hmo0, hns0⟩ := link_parts pos l
  have HMO := hid hmo0
  have HNS := hid hns0
  rw [hZ] at hle
  unfold linksB
  rw [hZ]
  have hll : l.length ≤ 16 := hR'.1
  generalize varB l.length = VL at *
  clear hl hR hR' hlk hbk hN hZ hmo0 hns0
  go_enter Tryz.func205, Tryz.ntmps205
  go_wp2_with fail
  have HOS : Hid ((w.alloc (.cells #[.int .u8 (l.length : Int)] 5)).ownsRow w.heap.size 5 1 (.slice (some ⟨w.heap.size, 0, none⟩) VL.length 1) VL.length (byteCells VL)) := hid (by rw [HVC.out, hvl]; exact own_new1 (Nat.le_refl _) (World.alloc_heap_new w _))
  have hb0 : Below w.heap.size w (w.alloc (.cells #[.int .u8 (l.length : Int)] 5)) := by (repeat (first | with_reducible exact Below.refl _ _ | with_reducible assumption | (with_reducible refine below_alloc ?_ _) | (with_reducible refine Below.setCell ?_ (by first | omega | (simp; done) | (simp; omega)) _) | (with_reducible refine Below.drew ?_) | (with_reducible refine below_drewN ?_ _) | (refine below_then (by with_reducible assumption) ?_)))
  go_loopw [5, 6] (fun v i wr => ∃ (k : Nat) (J : List UInt8), k ≤ l.length ∧ i = .int .i64 k ∧ OwnB wr w.heap.size v J ∧ Hid (J = VL ++ (Z.take k).flatten) ∧ (∃ aJ cJ, v = .slice aJ J.length cJ) ∧ Below w.heap.size w wr) (fun _ i _ => l.length - (intOf i).toNat)
  case atStart => exact ⟨0, VL, Nat.zero_le _, rfl, by rw [hvl] at HOS; exact (by unfold OwnB; rw [hvl]; exact HOS.out), hid (by simp), ⟨_, _, by rw [hvl]⟩, hb0⟩
  case round =>
    obtain ⟨k, J, hk, rfl, hown, hJ, ⟨aJ, cJ, rfl⟩, hb⟩ := hrel
    rcases Nat.lt_or_ge k l.length with hlt | hge
    · obtain ⟨b, o, hA, hbb, a2, c2, u0, u1, hx, xl⟩ := link_at HL.out hlt
      subst hA
      have hst := HNS.out k hlt
      have hmo := HMO.out (k + 1)
      have hub := hup.out k hlt
      have hu := HU.out k hlt
      rw [hst, List.length_append, List.length_append] at hmo
      have hJl : J.length + (varB ((upsL none l)[k]'(by omega)).toNat).length + (deltaB pos l[k].backs).length ≤ 20000000 := by have := congrArg List.length hJ.out; rw [List.length_append] at this; omega
      have hN0 : ∀ W : World, Calls Tryz.prog 144 #[.int .u64 ((upsL none l)[k]'(by omega))] W fun r w' => ∃ v, r = .returned v ∧ w'.ownsRow W.heap.size 5 1 v (varB ((upsL none l)[k]'(by omega)).toNat).length (byteCells (varB ((upsL none l)[k]'(by omega)).toNat)) ∧ Below W.heap.size W w' := fun W => by
        have := ref04_own ((upsL none l)[k]'(by omega)).toNat (by omega) W
        rw [toNat_cast hub.1] at this
        exact this
      have hJ1 : (J ++ varB ((upsL none l)[k]'(by omega)).toNat) ++ deltaB pos l[k].backs = VL ++ (Z.take (k + 1)).flatten := by rw [hst, hJ.out]; simp only [List.append_assoc]
      have HBY := hid (fun (W : World) (hW : Below w.heap.size w W) => ref22_bytes W pos hpos l[k].backs a2 _ c2 (lift xl hW) (HLK.out l[k] (List.getElem_mem hlt)) (HBK.out l[k] (List.getElem_mem hlt)))
      have HO := hid hown
      have i1 : (k : Int) < (l.length : Int) := by omega
      have d1 : decide ((k : Int) < (l.length : Int)) = true := decide_eq_true i1
      have X0 := (hb.cell (p := ⟨b, o + k * 2, none⟩) hbb).trans u0
      have X1 := (hb.cell (p := ⟨b, o + k * 2 + 1, none⟩) hbb).trans u1
      rcases Nat.eq_zero_or_pos k with rfl | hk0
      · rw [dif_pos rfl] at hu
        (try dsimp only at hu)
        rw [hu] at hJl hJ1
        have hN1 := fun W => hu ▸ hN0 W
        simp only [Nat.zero_mul, Nat.add_zero, Nat.zero_add] at X0 X1 u1
        have HN := hid hN1
        have HJ1 := hid hJ1
        generalize varB l[0].stream.toNat = VK at *
        generalize deltaB pos l[0].backs = DK at *
        have HONE := hid (byteCells_one VK)
        have HOND := hid (byteCells_one DK)
        generalize l[0] = y at *
        clear hst hmo hub hu hJ1 hN0 hN1 hown hJ u0 xl
        go_wp2_with fail
        refine (HN.out _).mono ?_
        rintro r w3 ⟨v3, rfl, hv3, hb3⟩
        obtain ⟨a3, c3, rfl⟩ := own_form hv3
        have HS3 := hid (src_bytes (own_bytes rfl hv3))
        have HO3 := hid (own_below HO.out hb3)
        have hz := hb.size
        have hz3 := hb3.size
        clear hv3
        go_wp2_with (at_builtin; go_loud (refine wpList_append_src rfl _ _ _ rfl w.heap.size 5 i0 (.int .u8 0) 1 1 Tryz.underlying28 hi hz0 hz1 hz2 rfl (by decide) (.slice aJ J.length cJ) J.length (byteCells J) rfl HO3.out a3 VK.length c3 (byteCells VK) rfl HS3.out HONE.out (by simp only [maxLen]; omega) (by omega) (by omega) ?_; intro v' w4 hown4 hgrow4 hat4; obtain ⟨a4, c4, rfl⟩ := own_form hown4; have HO4 := hid (OwnB.app hown4); have hbg4 : Below w.heap.size w3 w4 := (Below.grown (Below.refl _ _) hgrow4 (by omega) (fun g e => (HO3.out.lt g e).1)); have hb4 : Below w.heap.size w w4 := hb.trans ((hb3.mono hb.size).trans hbg4); have Y1 : w4.cell? ⟨b, o + 1, none⟩ = some (.slice a2 y.backs.length c2) := (hb4.cell (p := ⟨b, o + 1, none⟩) hbb).trans u1; clear hown4 hgrow4 hat4))
        have hz4 := hbg4.size
        have HB4 := hid (HBY.out w4 hb4)
        have hlJ : (J ++ VK).length = J.length + VK.length := List.length_append
        generalize J ++ VK = J4 at *
        have HOB4 := hid HO4.out
        rw [← hlJ] at HOB4 ⊢
        have hJ4l : J4.length + DK.length ≤ 20000000 := by omega
        clear hlJ
        clear X0 X1
        refine HB4.out.mono ?_
        rintro r w5 ⟨v5, rfl, hv5, hb5⟩
        obtain ⟨a5, c5, rfl⟩ := own_form hv5
        have HS5 := hid (src_bytes (own_bytes rfl hv5))
        have HO5 := hid (own_below HOB4.out hb5)
        have hz5 := hb5.size
        clear hv5 Y1
        go_wp2_with (at_builtin; go_loud (refine wpList_append_src rfl _ _ _ rfl w.heap.size 5 i0 (.int .u8 0) 1 1 Tryz.underlying28 hi hz0 hz1 hz2 rfl (by decide) (.slice a4 J4.length c4) J4.length (byteCells J4) rfl HO5.out a5 DK.length c5 (byteCells DK) rfl HS5.out HOND.out (by simp only [maxLen]; omega) (by omega) (by omega) ?_; intro v' w6 hown6 hgrow6 hat6; obtain ⟨a6, c6, rfl⟩ := own_form hown6; have HO6 := hid (OwnB.app hown6); have hbg6 : Below w.heap.size w5 w6 := (Below.grown (Below.refl _ _) hgrow6 (by omega) (fun g e => (HO5.out.lt g e).1)); clear hown6 hgrow6 hat6))
        have hbe : Below w.heap.size w w6 := hb4.trans ((hb5.mono hb4.size).trans hbg6)
        go_roundw
        case rel => exact ⟨1, J4 ++ DK, by omega, by go_num, HO6.out, HJ1, ⟨_, _, by rw [List.length_append]⟩, hbe⟩
        case measure => simp [intOf]; omega
      · obtain ⟨m, rfl⟩ : ∃ m, k = m + 1 := ⟨k - 1, by omega⟩
        obtain ⟨b', o', hA', hbb', a3', c3', t0, t1, hty, tl⟩ := link_at HL.out (show m < l.length by omega)
        simp only [Option.some.injEq, Addr.mk.injEq] at hA'
        obtain ⟨rfl, rfl, _⟩ := hA'
        have T0 := (hb.cell (p := ⟨b, o + m * 2, none⟩) hbb).trans t0
        have hri := HRI.out m hlt
        rw [dif_neg (by omega)] at hu
        simp only [Nat.add_sub_cancel] at hu
        rw [hu] at hJl hJ1
        have hN1 := fun W => hu ▸ hN0 W
        have HN := hid hN1
        have HJ1 := hid hJ1
        have i1' : (m : Int) + 1 < (l.length : Int) := by omega
        have i2 : (m : Int) < (l.length : Int) := by omega
        have d2 : decide ((m : Int) + 1 < (l.length : Int)) = true := decide_eq_true i1'
        have d3 : decide (m + 1 < l.length) = true := decide_eq_true hlt
        generalize varB (l[m + 1].stream - (l[m]'(by omega)).stream - 1).toNat = VK at *
        generalize deltaB pos l[m + 1].backs = DK at *
        have HONE := hid (byteCells_one VK)
        have HOND := hid (byteCells_one DK)
        generalize l[m + 1] = y at *
        generalize l[m]'(by omega) = z at *
        have w1 : 0 ≤ y.stream - z.stream := by omega
        have w2 : 0 ≤ y.stream - z.stream - 1 := by omega
        clear hst hmo hub hu hJ1 hN0 hN1 hown hJ u0 xl t0 t1 tl
        go_wp2_with fail
        refine (HN.out _).mono ?_
        rintro r w3 ⟨v3, rfl, hv3, hb3⟩
        obtain ⟨a3, c3, rfl⟩ := own_form hv3
        have HS3 := hid (src_bytes (own_bytes rfl hv3))
        have HO3 := hid (own_below HO.out hb3)
        have hz := hb.size
        have hz3 := hb3.size
        clear hv3
        go_wp2_with (at_builtin; go_loud (refine wpList_append_src rfl _ _ _ rfl w.heap.size 5 i0 (.int .u8 0) 1 1 Tryz.underlying28 hi hz0 hz1 hz2 rfl (by decide) (.slice aJ J.length cJ) J.length (byteCells J) rfl HO3.out a3 VK.length c3 (byteCells VK) rfl HS3.out HONE.out (by simp only [maxLen]; omega) (by omega) (by omega) ?_; intro v' w4 hown4 hgrow4 hat4; obtain ⟨a4, c4, rfl⟩ := own_form hown4; have HO4 := hid (OwnB.app hown4); have hbg4 : Below w.heap.size w3 w4 := (Below.grown (Below.refl _ _) hgrow4 (by omega) (fun g e => (HO3.out.lt g e).1)); have hb4 : Below w.heap.size w w4 := hb.trans ((hb3.mono hb.size).trans hbg4); have Y1 : w4.cell? ⟨b, o + (m + 1) * 2 + 1, none⟩ = some (.slice a2 y.backs.length c2) := (hb4.cell (p := ⟨b, o + (m + 1) * 2 + 1, none⟩) hbb).trans u1; clear hown4 hgrow4 hat4))
        have hz4 := hbg4.size
        have HB4 := hid (HBY.out w4 hb4)
        have hlJ : (J ++ VK).length = J.length + VK.length := List.length_append
        generalize J ++ VK = J4 at *
        have HOB4 := hid HO4.out
        rw [← hlJ] at HOB4 ⊢
        have hJ4l : J4.length + DK.length ≤ 20000000 := by omega
        clear hlJ
        clear X0 X1 T0
        refine HB4.out.mono ?_
        rintro r w5 ⟨v5, rfl, hv5, hb5⟩
        obtain ⟨a5, c5, rfl⟩ := own_form hv5
        have HS5 := hid (src_bytes (own_bytes rfl hv5))
        have HO5 := hid (own_below HOB4.out hb5)
        have hz5 := hb5.size
        clear hv5 Y1
        go_wp2_with (at_builtin; go_loud (refine wpList_append_src rfl _ _ _ rfl w.heap.size 5 i0 (.int .u8 0) 1 1 Tryz.underlying28 hi hz0 hz1 hz2 rfl (by decide) (.slice a4 J4.length c4) J4.length (byteCells J4) rfl HO5.out a5 DK.length c5 (byteCells DK) rfl HS5.out HOND.out (by simp only [maxLen]; omega) (by omega) (by omega) ?_; intro v' w6 hown6 hgrow6 hat6; obtain ⟨a6, c6, rfl⟩ := own_form hown6; have HO6 := hid (OwnB.app hown6); have hbg6 : Below w.heap.size w5 w6 := (Below.grown (Below.refl _ _) hgrow6 (by omega) (fun g e => (HO5.out.lt g e).1)); clear hown6 hgrow6 hat6))
        have hbe : Below w.heap.size w w6 := hb4.trans ((hb5.mono hb4.size).trans hbg6)
        go_roundw
        case rel => exact ⟨m + 1 + 1, J4 ++ DK, by omega, by go_num, HO6.out, HJ1, ⟨_, _, by rw [List.length_append]⟩, hbe⟩
        case measure => simp [intOf]; omega
    · obtain rfl : k = l.length := by omega
      have d1 : decide ((l.length : Int) < (l.length : Int)) = false := decide_eq_false (by omega)
      have hfin : Hid (J = VL ++ Z.flatten) := hid (by have := hJ.out; rwa [List.take_of_length_le (by omega)] at this)
      have HO := hid hown
      clear hown hJ
      go_wp2
      go_ret
      rw [← hfin.out]
      exact ⟨_, rfl, HO.out, hb⟩
end Go.Proofs.YtkipiefcnjfdjaaGreat
namespace Go.Proofs.YtkipiefcnjfdjaaGreat
open Go.RowKit Go.Bs Go.Maps
set_option linter.unusedVariables false
set_option linter.unusedSimpArgs false

theorem own_base {w : World} {b b' : Nat} (h : b ≤ b') {v : Value} {L : List UInt8} (ho : OwnB w b' v L) : OwnB w b v L := by
  refine ⟨ho.1, ?_⟩
  rcases ho.2 with h0 | ⟨g, cap, cur, h1, h2, h3⟩
  · exact .inl h0
  · exact .inr ⟨g, cap, cur, h1, by omega, h3⟩

set_option maxRecDepth 100000 in
set_option maxHeartbeats 6400000 in
theorem ref24_head (w : World) (pos : Int) (hpos : 0 ≤ pos ∧ pos ≤ 18446744073709551615) (e : Entry) (a1 a2 : Option Addr) (n1 c1 n2 c2 : Nat)
    (hl : rLinks.r (· < w.heap.size) w [.slice a1 n1 c1] e.links) (hd : rBytes.r (· < w.heap.size) w [.slice a2 n2 c2] e.data) (hR : entryR pos e = true) (hbk : ∀ x ∈ e.links, x.backs.length ≤ 1000000) :
    Calls Tryz.prog 145 #[.int .u64 pos, .agg #[.slice a1 n1 c1, .slice a2 n2 c2]] w fun r w' => ∃ v, r = .returned v ∧ OwnB w' w.heap.size v (headB pos e) ∧ Below w.heap.size w w' := by
  obtain ⟨rfl, hm1, _, _⟩ := sl_len hl
  obtain ⟨rfl, hm2, _, _⟩ := sl_len hd
  obtain ⟨i0, hi, hz0, hz1, hz2⟩ := info_parts info8
  have hle := headN_le pos e
  unfold headN at hle
  rw [if_pos hR] at hle
  have hR' := hR
  simp only [entryR, Bool.and_eq_true, decide_eq_true_eq] at hR'
  have hhb : headB pos e = linksB pos e.links ++ varB e.data.length := rfl
  rw [hhb] at hle ⊢
  rw [List.length_append] at hle
  have HLB := hid (fun (W : World) (hW : Below w.heap.size w W) => ref23_bytes W pos hpos e.links a1 _ c1 (lift hl hW) hR'.1 hbk)
  have HVB := hid (fun (W : World) => ref04_own e.data.length (by omega) W)
  have hdl := hR'.2
  have HWL : Hid (IntKind.u64.wrap (e.data.length : Int) = (e.data.length : Int)) := hid (by simp only [IntKind.wrap_u64]; omega)
  generalize varB e.data.length = VD at *
  generalize linksB pos e.links = LB at *
  have HONE := hid (byteCells_one VD)
  clear hl hd hR hR' hhb
  go_enter Tryz.func145, Tryz.ntmps145
  go_wp2_with fail
  refine wp_world (fun W => Below w.heap.size w W ∧ W.cell? ⟨w.heap.size, 0, none⟩ = some (.slice a1 e.links.length c1) ∧ W.cell? ⟨w.heap.size, 1, none⟩ = some (.slice a2 e.data.length c2) ∧ w.heap.size < W.heap.size) ⟨by (repeat (first | with_reducible exact Below.refl _ _ | with_reducible assumption | (with_reducible refine below_alloc ?_ _) | (with_reducible refine Below.setCell ?_ (by first | omega | (simp; done) | (simp; omega)) _) | (with_reducible refine Below.drew ?_) | (with_reducible refine below_drewN ?_ _) | (refine below_then (by with_reducible assumption) ?_))), by go_simp, by go_simp, by simp⟩ ?_
  rintro V ⟨hbV, x0, x1, lV⟩
  refine wp_region_held_drew (S := fun w' => w'.cell? ⟨w.heap.size, 0, none⟩ = some (.slice a1 e.links.length c1) ∧ w'.cell? ⟨w.heap.size, 1, none⟩ = some (.slice a2 e.data.length c2)) (by kernel_rfl) ⟨x0, x1⟩ (fun hHeld => ?_)
  refine wpAnyH_take (i := 0) (oi := _) (v := ?_) rfl (by decide +kernel) (by decide +kernel) (by decide +kernel) (fun _ _ _ h => h) (Or.inl ⟨by rfl, ?_⟩) (by assumption) ?_
  rotate_left
  · (intro w hSw; (try dsimp only at hSw); go_simp <;> with_reducible rfl)
  (try simp only [Act.put, List.setIfInBounds_toArray, List.set_cons_zero, List.set_cons_succ])
  refine wpAnyH_take (i := 1) (oi := _) (v := ?_) rfl (by decide +kernel) (by decide +kernel) (by decide +kernel) (fun _ _ _ h => h) (Or.inl ⟨by rfl, ?_⟩) (by assumption) ?_
  rotate_left
  · (intro w hSw; (try dsimp only at hSw); go_simp <;> with_reducible rfl)
  (try simp only [Act.put, List.setIfInBounds_toArray, List.set_cons_zero, List.set_cons_succ])
  refine wpAnyH_take (i := 2) (oi := _) (v := ?_) rfl (by decide +kernel) (by decide +kernel) (by decide +kernel) (fun _ _ _ h => h) (Or.inl ⟨by rfl, ?_⟩) (by assumption) ?_
  rotate_left
  · (intro w hSw; (try dsimp only at hSw); go_simp <;> with_reducible rfl)
  (try simp only [Act.put, List.setIfInBounds_toArray, List.set_cons_zero, List.set_cons_succ])
  refine wpAnyH_take (i := 4) (oi := _) (v := ?_) rfl (by decide +kernel) (by decide +kernel) (by decide +kernel) (fun _ _ _ h => h) (Or.inl ⟨by rfl, ?_⟩) (by assumption) ?_
  rotate_left
  · (intro w hSw; (try dsimp only at hSw); go_simp <;> with_reducible rfl)
  (try simp only [Act.put, List.setIfInBounds_toArray, List.set_cons_zero, List.set_cons_succ])
  refine wpAnyH_take (i := 5) (oi := _) (v := ?_) rfl (by decide +kernel) (by decide +kernel) (by decide +kernel) (fun _ _ _ h => h) (Or.inl ⟨by rfl, ?_⟩) (by assumption) ?_
  rotate_left
  · (intro w hSw; (try dsimp only at hSw); go_simp <;> with_reducible rfl)
  (try simp only [Act.put, List.setIfInBounds_toArray, List.set_cons_zero, List.set_cons_succ])
  refine wpAnyH_take (i := 6) (oi := _) (v := ?_) rfl (by decide +kernel) (by decide +kernel) (by decide +kernel) (fun _ _ _ h => h) (Or.inl ⟨by rfl, ?_⟩) (by assumption) ?_
  rotate_left
  · (intro w hSw; (try dsimp only at hSw); go_simp <;> with_reducible rfl)
  (try simp only [Act.put, List.setIfInBounds_toArray, List.set_cons_zero, List.set_cons_succ])
  refine wpAnyH_take (i := 7) (oi := _) (v := ?_) rfl (by decide +kernel) (by decide +kernel) (by decide +kernel) (fun _ _ _ h => h) (Or.inl ⟨by rfl, ?_⟩) (by assumption) ?_
  rotate_left
  · (intro w hSw; (try dsimp only at hSw); go_simp <;> with_reducible rfl)
  (try simp only [Act.put, List.setIfInBounds_toArray, List.set_cons_zero, List.set_cons_succ])
  refine wpAnyH_ready (rs := [3]) (by decide +kernel) (by simp) ?_
  refine AllReadyH.cons (o := _) rfl (fun K hK => ?_) AllReadyH.nil
  (go_simp; go_at_call 205; refine (HLB.out _ (by (repeat (first | with_reducible exact Below.refl _ _ | with_reducible assumption | (with_reducible refine below_alloc ?_ _) | (with_reducible refine Below.setCell ?_ (by first | omega | (simp; done) | (simp; omega)) _) | (with_reducible refine Below.drew ?_) | (with_reducible refine below_drewN ?_ _) | (refine below_then (by with_reducible assumption) ?_))))).mono ?_; rintro e1 w3 ⟨v3, rfl, hv3, hb3⟩; obtain ⟨a3, c3, rfl⟩ := own_form hv3; have hbv3 : Below V.heap.size V w3 := below_then hb3 (Below.refl _ _).drew; have k03 := (hbv3.cell (p := ⟨w.heap.size, 0, none⟩) lV).trans x0; have k13 := (hbv3.cell (p := ⟨w.heap.size, 1, none⟩) lV).trans x1; have HO3 : Hid (w3.ownsRow V.heap.size 5 1 (.slice a3 LB.length c3) LB.length (byteCells LB)) := hid hv3; have hs3 := hbv3.size; clear hv3 hb3; (try dsimp only))
  refine hK.out _ _ ?_ (fun hHeld => ?_)
  · ((try dsimp only); first | assumption | (refine ⟨?_, ?_⟩ <;> assumption) | (refine ⟨?_, ?_, ?_⟩ <;> assumption) | (refine ⟨?_, ?_, ?_, ?_⟩ <;> assumption))
  clear hK K
  (try simp only [Act.put, List.setIfInBounds_toArray, List.set_cons_zero, List.set_cons_succ])
  refine wpAnyH_ready (rs := [8]) (by decide +kernel) (by simp) ?_
  refine AllReadyH.cons (o := _) rfl (fun K hK => ?_) AllReadyH.nil
  (go_simp; rw [HWL.out]; go_at_call 144; refine (HVB.out _).mono ?_; rintro e1 w4 ⟨v4, rfl, hv4, hb4⟩; obtain ⟨a4, c4, rfl⟩ := own_form hv4; have k04 := (hb4.cell (p := ⟨w.heap.size, 0, none⟩) (by dsimp only; omega)).trans k03; have k14 := (hb4.cell (p := ⟨w.heap.size, 1, none⟩) (by dsimp only; omega)).trans k13; have HO4 := hid (own_below HO3.out hb4); have HS4 := hid (src_bytes (own_bytes rfl hv4)); have hs4 := hb4.size; clear hv4; (try dsimp only))
  refine hK.out _ _ ?_ (fun hHeld => ?_)
  · ((try dsimp only); first | assumption | (refine ⟨?_, ?_⟩ <;> assumption) | (refine ⟨?_, ?_, ?_⟩ <;> assumption) | (refine ⟨?_, ?_, ?_, ?_⟩ <;> assumption))
  clear hK K
  (try simp only [Act.put, List.setIfInBounds_toArray, List.set_cons_zero, List.set_cons_succ])
  refine wpAnyH_ready (rs := [9]) (by decide +kernel) (by simp) ?_
  refine AllReadyH.cons (o := _) rfl (fun K hK => ?_) AllReadyH.nil
  (go_loud (refine step_append_src (by rfl) _ _ _ (by rfl) V.heap.size 5 i0 (.int .u8 0) 1 1 Tryz.underlying28 hi hz0 hz1 hz2 rfl (by decide) (.slice a3 LB.length c3) LB.length (byteCells LB) (by rfl) HO4.out a4 VD.length c4 (byteCells VD) (by rfl) HS4.out HONE.out (by simp only [maxLen]; omega) (by omega) (by omega) ?_; intro a5 c5 w5 hown5 hgrow5 hat5; have HO5 := hid (OwnB.app hown5); have hbg5 : Below V.heap.size w4 w5 := (Below.grown (Below.refl _ _) hgrow5 (by omega) (fun g e => (HO4.out.lt g e).1)); have k05 := (hbg5.cell (p := ⟨w.heap.size, 0, none⟩) (by dsimp only; omega)).trans k04; have k15 := (hbg5.cell (p := ⟨w.heap.size, 1, none⟩) (by dsimp only; omega)).trans k14; clear hown5 hgrow5 hat5; (try dsimp only)))
  refine hK.out _ _ ?_ (fun hHeld => ?_)
  · ((try dsimp only); first | assumption | (refine ⟨?_, ?_⟩ <;> assumption) | (refine ⟨?_, ?_, ?_⟩ <;> assumption) | (refine ⟨?_, ?_, ?_, ?_⟩ <;> assumption))
  clear hK K
  (try simp only [Act.put, List.setIfInBounds_toArray, List.set_cons_zero, List.set_cons_succ])
  refine wpAnyH_take (i := 10) (oi := _) (v := ?_) rfl (by decide +kernel) (by decide +kernel) (by decide +kernel) (fun _ _ _ h => h) (Or.inl ⟨by rfl, ?_⟩) (by assumption) ?_
  rotate_left
  · (intro w hSw; (try dsimp only at hSw); go_simp <;> with_reducible rfl)
  (try simp only [Act.put, List.setIfInBounds_toArray, List.set_cons_zero, List.set_cons_succ])
  simp only [List.getElem_toArray, List.getElem_cons_zero, List.getElem_cons_succ, Act.put, List.setIfInBounds_toArray, List.set_cons_zero, List.set_cons_succ]
  refine wpAnyH_done (by kernel_rfl) ?_ _
  have hbe : Below w.heap.size w w5 := (hbV.trans ((hbv3.mono hbV.size).trans ((hb4.mono (by omega)).trans (hbg5.mono (by omega)))))
  have HOE := hid (own_base (by omega : w.heap.size ≤ V.heap.size) HO5.out)
  go_wp2
  go_ret
  exact ⟨_, rfl, HOE.out, hbe⟩
end Go.Proofs.YtkipiefcnjfdjaaGreat
namespace Go.Proofs.YtkipiefcnjfdjaaGreat
open Go.RowKit Go.Bs Go.Maps
set_option linter.unusedVariables false
set_option linter.unusedSimpArgs false

set_option maxRecDepth 100000 in
set_option maxHeartbeats 6400000 in
theorem ref25_heads (w : World) (b : Batch) (a : Option Addr) (n c : Nat) (hN : batchN b) (hl : rEntries.r (· < w.heap.size) w [.slice a n c] b.entries) (hR : batchR b = true) (ht : TameE b.entries) :
    Calls Tryz.prog 89 #[.agg #[.int .u64 b.epoch, .int .u64 b.base, .slice a n c]] w fun r w' => ∃ v, r = .returned v ∧ OwnB w' w.heap.size v (aheadB b) ∧ Below w.heap.size w w' := by
  obtain ⟨rfl, hm, _, _⟩ := sl_len hl
  obtain ⟨i0, hi, hz0, hz1, hz2⟩ := info_parts info8
  obtain ⟨h0, h1, _⟩ := hN
  have hlen := (batchB_len hR).2.2
  have hR' := hR
  simp only [batchR, Bool.and_eq_true, fitsR, decide_eq_true_eq] at hR'
  obtain ⟨_, ⟨_, hl16, hb62, hbn⟩, _, hent⟩ := hR'
  have HL := hid hl
  have HBK := hid ht.backs
  have HEA := hid (fun (k : Nat) (hk : k < b.entries.length) => entriesR_at b.entries b.base k hk hent)
  have HHS := hid (fun (k : Nat) (hk : k < b.entries.length) => headsB_step b.entries b.base k hk)
  have HHL := hid (fun k => headsB_le b.entries b.base k)
  have HE := hid (fun (W : World) => (by have := ref04_own b.epoch.toNat (by omega) W; rw [toNat_cast h0.1] at this; exact this : Calls Tryz.prog 144 #[.int .u64 b.epoch] W fun r w' => ∃ v, r = .returned v ∧ w'.ownsRow W.heap.size 5 1 v (varB b.epoch.toNat).length (byteCells (varB b.epoch.toNat)) ∧ Below W.heap.size W w'))
  have HB := hid (fun (W : World) => (by have := ref04_own b.base.toNat (by omega) W; rw [toNat_cast h1.1] at this; exact this : Calls Tryz.prog 144 #[.int .u64 b.base] W fun r w' => ∃ v, r = .returned v ∧ w'.ownsRow W.heap.size 5 1 v (varB b.base.toNat).length (byteCells (varB b.base.toNat)) ∧ Below W.heap.size W w'))
  have HNN := hid (fun (W : World) => ref04_own b.entries.length (by omega) W)
  have hv1 := (varB_len b.epoch.toNat).1
  have hv2 := (varB_len b.base.toNat).1
  have hv3 := (varB_len b.entries.length).1
  unfold aheadB
  obtain ⟨ep, bs, l⟩ := b
  dsimp only at *
  generalize varB ep.toNat = VE at *
  generalize varB bs.toNat = VB at *
  generalize varB l.length = VN at *
  have HOB := hid (byteCells_one VB)
  have HON := hid (byteCells_one VN)
  clear hl hR hent ht
  go_enter Tryz.func89, Tryz.ntmps89
  go_wp2_with fail
  refine wp_world (fun W => Below w.heap.size w W ∧ Blk W w.heap.size 25 #[.int .u64 ep, .int .u64 bs, .slice a l.length c] ∧ w.heap.size + 1 ≤ W.heap.size) ⟨by (repeat (first | with_reducible exact Below.refl _ _ | with_reducible assumption | (with_reducible refine below_alloc ?_ _) | (with_reducible refine Below.setCell ?_ (by first | omega | (simp; done) | (simp; omega)) _) | (with_reducible refine Below.drew ?_) | (with_reducible refine below_drewN ?_ _) | (refine below_then (by with_reducible assumption) ?_))), Blk.newAt _ _ _ rfl, by simp⟩ ?_
  rintro V ⟨hbV, BV, lV⟩
  obtain ⟨x0, x1, x2, _, _, _, lb⟩ := b_blk BV
  have HBV := hid BV
  clear BV
  refine wp_region_held_drew (S := fun w' => w'.cell? ⟨w.heap.size, 0, none⟩ = some (.int .u64 ep) ∧ w'.cell? ⟨w.heap.size, 1, none⟩ = some (.int .u64 bs)) (by kernel_rfl) ⟨x0, x1⟩ (fun hHeld => ?_)
  refine wpAnyH_take (i := 0) (oi := _) (v := ?_) rfl (by decide +kernel) (by decide +kernel) (by decide +kernel) (fun _ _ _ h => h) (Or.inl ⟨by rfl, ?_⟩) (by assumption) ?_
  rotate_left
  · (intro w hSw; (try dsimp only at hSw); go_simp <;> with_reducible rfl)
  (try simp only [Act.put, List.setIfInBounds_toArray, List.set_cons_zero, List.set_cons_succ])
  refine wpAnyH_take (i := 1) (oi := _) (v := ?_) rfl (by decide +kernel) (by decide +kernel) (by decide +kernel) (fun _ _ _ h => h) (Or.inl ⟨by rfl, ?_⟩) (by assumption) ?_
  rotate_left
  · (intro w hSw; (try dsimp only at hSw); go_simp <;> with_reducible rfl)
  (try simp only [Act.put, List.setIfInBounds_toArray, List.set_cons_zero, List.set_cons_succ])
  refine wpAnyH_take (i := 3) (oi := _) (v := ?_) rfl (by decide +kernel) (by decide +kernel) (by decide +kernel) (fun _ _ _ h => h) (Or.inl ⟨by rfl, ?_⟩) (by assumption) ?_
  rotate_left
  · (intro w hSw; (try dsimp only at hSw); go_simp <;> with_reducible rfl)
  (try simp only [Act.put, List.setIfInBounds_toArray, List.set_cons_zero, List.set_cons_succ])
  refine wpAnyH_take (i := 4) (oi := _) (v := ?_) rfl (by decide +kernel) (by decide +kernel) (by decide +kernel) (fun _ _ _ h => h) (Or.inl ⟨by rfl, ?_⟩) (by assumption) ?_
  rotate_left
  · (intro w hSw; (try dsimp only at hSw); go_simp <;> with_reducible rfl)
  (try simp only [Act.put, List.setIfInBounds_toArray, List.set_cons_zero, List.set_cons_succ])
  refine wpAnyH_ready (rs := [2]) (by decide +kernel) (by simp) ?_
  refine AllReadyH.cons (o := _) rfl (fun K hK => ?_) AllReadyH.nil
  (go_simp; go_at_call 144; refine (HE.out _).mono ?_; rintro e1 w3 ⟨v3, rfl, hv3, hb3⟩; obtain ⟨a3, c3, rfl⟩ := own_form hv3; have hbv3 : Below V.heap.size V w3 := below_then hb3 (Below.refl _ _).drew; have k03 := (hbv3.cell (p := ⟨w.heap.size, 0, none⟩) lb).trans x0; have k13 := (hbv3.cell (p := ⟨w.heap.size, 1, none⟩) lb).trans x1; have HO3 : Hid (w3.ownsRow V.heap.size 5 1 (.slice a3 VE.length c3) VE.length (byteCells VE)) := hid hv3; have hs3 := hbv3.size; clear hv3 hb3; (try dsimp only))
  refine hK.out _ _ ?_ (fun hHeld => ?_)
  · ((try dsimp only); first | assumption | (refine ⟨?_, ?_⟩ <;> assumption) | (refine ⟨?_, ?_, ?_⟩ <;> assumption) | (refine ⟨?_, ?_, ?_, ?_, ?_⟩ <;> assumption))
  clear hK K
  (try simp only [Act.put, List.setIfInBounds_toArray, List.set_cons_zero, List.set_cons_succ])
  refine wpAnyH_ready (rs := [5]) (by decide +kernel) (by simp) ?_
  refine AllReadyH.cons (o := _) rfl (fun K hK => ?_) AllReadyH.nil
  (go_simp; go_at_call 144; refine (HB.out _).mono ?_; rintro e1 w4 ⟨v4, rfl, hv4, hb4⟩; obtain ⟨a4, c4, rfl⟩ := own_form hv4; have k04 := (hb4.cell (p := ⟨w.heap.size, 0, none⟩) (by dsimp only; omega)).trans k03; have k14 := (hb4.cell (p := ⟨w.heap.size, 1, none⟩) (by dsimp only; omega)).trans k13; have HO4 := hid (own_below HO3.out hb4); have HS4 := hid (src_bytes (own_bytes rfl hv4)); have hs4 := hb4.size; clear hv4; (try dsimp only))
  refine hK.out _ _ ?_ (fun hHeld => ?_)
  · ((try dsimp only); first | assumption | (refine ⟨?_, ?_⟩ <;> assumption) | (refine ⟨?_, ?_, ?_⟩ <;> assumption) | (refine ⟨?_, ?_, ?_, ?_, ?_⟩ <;> assumption))
  clear hK K
  (try simp only [Act.put, List.setIfInBounds_toArray, List.set_cons_zero, List.set_cons_succ])
  refine wpAnyH_ready (rs := [6]) (by decide +kernel) (by simp) ?_
  refine AllReadyH.cons (o := _) rfl (fun K hK => ?_) AllReadyH.nil
  (go_loud (refine step_append_src (by rfl) _ _ _ (by rfl) V.heap.size 5 i0 (.int .u8 0) 1 1 Tryz.underlying28 hi hz0 hz1 hz2 rfl (by decide) (.slice a3 VE.length c3) VE.length (byteCells VE) (by rfl) HO4.out a4 VB.length c4 (byteCells VB) (by rfl) HS4.out HOB.out (by simp only [maxLen]; omega) (by omega) (by omega) ?_; intro a5 c5 w5 hown5 hgrow5 hat5; have HO5 := hid (OwnB.app hown5); have hbg5 : Below V.heap.size w4 w5 := (Below.grown (Below.refl _ _) hgrow5 (by omega) (fun g e => (HO4.out.lt g e).1)); have k05 := (hbg5.cell (p := ⟨w.heap.size, 0, none⟩) (by dsimp only; omega)).trans k04; have k15 := (hbg5.cell (p := ⟨w.heap.size, 1, none⟩) (by dsimp only; omega)).trans k14; clear hown5 hgrow5 hat5; (try dsimp only)))
  refine hK.out _ _ ?_ (fun hHeld => ?_)
  · ((try dsimp only); first | assumption | (refine ⟨?_, ?_⟩ <;> assumption) | (refine ⟨?_, ?_, ?_⟩ <;> assumption) | (refine ⟨?_, ?_, ?_, ?_, ?_⟩ <;> assumption))
  clear hK K
  (try simp only [Act.put, List.setIfInBounds_toArray, List.set_cons_zero, List.set_cons_succ])
  refine wpAnyH_take (i := 7) (oi := _) (v := ?_) rfl (by decide +kernel) (by decide +kernel) (by decide +kernel) (fun _ _ _ h => h) (Or.inl ⟨by rfl, ?_⟩) (by assumption) ?_
  rotate_left
  · (intro w hSw; (try dsimp only at hSw); go_simp <;> with_reducible rfl)
  (try simp only [Act.put, List.setIfInBounds_toArray, List.set_cons_zero, List.set_cons_succ])
  simp only [List.getElem_toArray, List.getElem_cons_zero, List.getElem_cons_succ, Act.put, List.setIfInBounds_toArray, List.set_cons_zero, List.set_cons_succ]
  refine wpAnyH_done (by kernel_rfl) ?_ _
  have hbV5 : Below V.heap.size V w5 := hbv3.trans ((hb4.mono hs3).trans hbg5)
  have B5 := HBV.out.later hbV5
  have hz5 := hbV5.size
  have HO6 := hid HO5.out
  have hlJ : (VE ++ VB).length = VE.length + VB.length := List.length_append
  have hfin0 : VE ++ VB ++ VN ++ headsB bs l = (VE ++ VB) ++ VN ++ headsB bs l := rfl
  obtain ⟨y0, y1, y2, _, _, _, lb5⟩ := b_blk B5
  have HB5 := hid B5
  have hbw5 := below_then hbV5 hbV
  clear x0 x1 x2 k03 k13 k04 k14 k05 k15 B5 hHeld
  generalize hj0 : VE ++ VB = J0 at *
  have HJ0 := hid hj0
  clear hj0
  rw [← hlJ] at HO6 ⊢
  have hJ0 : J0.length ≤ 20 := by omega
  clear hlJ hfin0
  go_wp2_with fail
  refine (HNN.out _).mono ?_
  rintro r w6 ⟨v6, rfl, hv6, hb6⟩
  obtain ⟨a6, c6, rfl⟩ := own_form hv6
  have HS6 := hid (src_bytes (own_bytes rfl hv6))
  have HO6b := hid (own_below HO6.out hb6)
  have hz6 := hb6.size
  have HB6 := hid (HB5.out.later hb6)
  clear hv6 y0 y1 y2
  go_wp2_with (at_builtin; go_loud (refine wpList_append_src rfl _ _ _ rfl V.heap.size 5 i0 (.int .u8 0) 1 1 Tryz.underlying28 hi hz0 hz1 hz2 rfl (by decide) (.slice a5 J0.length c5) J0.length (byteCells J0) rfl HO6b.out a6 VN.length c6 (byteCells VN) rfl HS6.out HON.out (by simp only [maxLen]; omega) (by omega) (by omega) ?_; intro v' w7 hown7 hgrow7 hat7; obtain ⟨a7, c7, rfl⟩ := own_form hown7; have HO7 := hid (OwnB.app hown7); have hbg7 : Below V.heap.size w6 w7 := (Below.grown (Below.refl _ _) hgrow7 (by omega) (fun g e => (HO6b.out.lt g e).1)); clear hown7 hgrow7 hat7))
  have hz7 := hbg7.size
  have B7 := HB6.out.below hbg7 lb
  have hbV7 : Below V.heap.size V w7 := (hbV5.trans (hb6.mono hz5)).trans hbg7
  have hbw7 := below_then hbV7 hbV
  clear HB6
  go_loopw [3, 4] (fun v i wr => ∃ (k : Nat) (J : List UInt8), k ≤ l.length ∧ i = .int .i64 k ∧ OwnB wr V.heap.size v J ∧ Hid (J = J0 ++ VN ++ headsB bs (l.take k)) ∧ (∃ aJ cJ, v = .slice aJ J.length cJ) ∧ Below w.heap.size w wr ∧ V.heap.size ≤ wr.heap.size ∧ Blk wr w.heap.size 25 #[.int .u64 ep, .int .u64 bs, .slice a l.length c]) (fun _ i _ => l.length - (intOf i).toNat)
  case atStart => exact ⟨0, J0 ++ VN, Nat.zero_le _, rfl, HO7.out, hid (by simp [headsB]), ⟨_, _, by rw [List.length_append]⟩, hbw7, by omega, B7⟩
  case round =>
    obtain ⟨k, J, hk, rfl, hown, hJ, ⟨aJ, cJ, rfl⟩, hb, hsz, hB⟩ := hrel
    obtain ⟨x0, x1, x2, _, _, _, lr⟩ := b_blk hB
    have hhl := HHL.out (k + 1)
    rcases Nat.lt_or_ge k l.length with hlt | hge
    · obtain ⟨bb, o, hA, hbb, a8, c8, a9, c9, u0, u1, hlk, hd⟩ := entry_at HL.out hlt
      subst hA
      have X0 := (hb.cell (p := ⟨bb, o + k * 2, none⟩) hbb).trans u0
      have X1 := (hb.cell (p := ⟨bb, o + k * 2 + 1, none⟩) hbb).trans u1
      have hst := HHS.out k hlt
      rw [hst, List.length_append] at hhl
      have hJl : J.length + (headB (bs + k) l[k]).length ≤ 20000000 := by have := congrArg List.length hJ.out; simp only [List.length_append] at this; omega
      have HHD := hid (fun (W : World) (hW : Below w.heap.size w W) => ref24_head W (bs + k) (by omega) l[k] a8 a9 _ c8 _ c9 (lift hlk hW) (lift hd hW) (HEA.out k hlt) (HBK.out l[k] (List.getElem_mem hlt)))
      have hJ1 : J ++ headB (bs + k) l[k] = J0 ++ VN ++ headsB bs (l.take (k + 1)) := by rw [hst, hJ.out, List.append_assoc (J0 ++ VN)]
      have HJ1 := hid hJ1
      have HO := hid hown
      have i1 : (k : Int) < (l.length : Int) := by omega
      have d1 : decide ((k : Int) < (l.length : Int)) = true := decide_eq_true i1
      have HWK : Hid (IntKind.u64.wrap (k : Int) = (k : Int)) := hid (by simp only [IntKind.wrap_u64]; omega)
      have HWB : Hid (IntKind.u64.wrap (bs + (k : Int)) = bs + (k : Int)) := hid (by simp only [IntKind.wrap_u64]; omega)
      generalize headB (bs + (k : Int)) l[k] = DK at *
      have HOND := hid (byteCells_one DK)
      generalize l[k] = y at *
      have HBR := hid hB
      have lbv : bb < V.heap.size := by have := hbV.size; have hbb' : bb < w.heap.size := hbb; omega
      have lbb : bb < wr.heap.size := by have := hb.size; have hbb' : bb < w.heap.size := hbb; omega
      clear hst hhl hJ1 hown hJ hB u0 u1 hlk hd
      go_wp2_with fail
      refine wp_world (fun W => W = wr) rfl ?_
      rintro W rfl
      refine wp_region_held_drew (S := fun w' => w'.cell? ⟨w.heap.size, 1, none⟩ = some (.int .u64 bs) ∧ w'.cell? ⟨w.heap.size, 2, none⟩ = some (.slice (some ⟨bb, o, none⟩) l.length c) ∧ w'.cell? ⟨bb, o + k * 2, none⟩ = some (.slice a8 y.links.length c8) ∧ w'.cell? ⟨bb, o + k * 2 + 1, none⟩ = some (.slice a9 y.data.length c9) ∧ True) (by kernel_rfl) ⟨x1, x2, X0, X1, trivial⟩ (fun hHeld => ?_)
      refine wpAnyH_take (i := 0) (oi := _) (v := ?_) rfl (by decide +kernel) (by decide +kernel) (by decide +kernel) (fun _ _ _ h => h) (Or.inl ⟨by rfl, ?_⟩) (by assumption) ?_
      rotate_left
      · (intro w hSw; (try dsimp only at hSw); go_simp <;> with_reducible rfl)
      (try simp only [Act.put, List.setIfInBounds_toArray, List.set_cons_zero, List.set_cons_succ])
      refine wpAnyH_take (i := 1) (oi := _) (v := ?_) rfl (by decide +kernel) (by decide +kernel) (by decide +kernel) (fun _ _ _ h => h) (Or.inl ⟨by rfl, ?_⟩) (by assumption) ?_
      rotate_left
      · (intro w hSw; (try dsimp only at hSw); go_simp <;> with_reducible rfl)
      (try simp only [Act.put, List.setIfInBounds_toArray, List.set_cons_zero, List.set_cons_succ])
      refine wpAnyH_take (i := 2) (oi := _) (v := ?_) rfl (by decide +kernel) (by decide +kernel) (by decide +kernel) (fun _ _ _ h => h) (Or.inl ⟨by rfl, ?_⟩) (by assumption) ?_
      rotate_left
      · (intro w hSw; (try dsimp only at hSw); go_simp <;> with_reducible rfl)
      (try simp only [Act.put, List.setIfInBounds_toArray, List.set_cons_zero, List.set_cons_succ])
      refine wpAnyH_take (i := 3) (oi := _) (v := ?_) rfl (by decide +kernel) (by decide +kernel) (by decide +kernel) (fun _ _ _ h => h) (Or.inl ⟨by rfl, ?_⟩) (by assumption) ?_
      rotate_left
      · (intro w hSw; (try dsimp only at hSw); go_simp <;> with_reducible rfl)
      (try simp only [Act.put, List.setIfInBounds_toArray, List.set_cons_zero, List.set_cons_succ])
      refine wpAnyH_take (i := 4) (oi := _) (v := ?_) rfl (by decide +kernel) (by decide +kernel) (by decide +kernel) (fun _ _ _ h => h) (Or.inl ⟨by rfl, ?_⟩) (by assumption) ?_
      rotate_left
      · (intro w hSw; (try dsimp only at hSw); go_simp <;> with_reducible rfl)
      (try simp only [Act.put, List.setIfInBounds_toArray, List.set_cons_zero, List.set_cons_succ])
      refine wpAnyH_take (i := 5) (oi := _) (v := ?_) rfl (by decide +kernel) (by decide +kernel) (by decide +kernel) (fun _ _ _ h => h) (Or.inl ⟨by rfl, ?_⟩) (by assumption) ?_
      rotate_left
      · (intro w hSw; (try dsimp only at hSw); go_simp <;> with_reducible rfl)
      (try simp only [Act.put, List.setIfInBounds_toArray, List.set_cons_zero, List.set_cons_succ])
      refine wpAnyH_take (i := 6) (oi := _) (v := ?_) rfl (by decide +kernel) (by decide +kernel) (by decide +kernel) (fun _ _ _ h => h) (Or.inl ⟨by rfl, ?_⟩) (by assumption) ?_
      rotate_left
      · (intro w hSw; (try dsimp only at hSw); go_simp <;> with_reducible rfl)
      (try simp only [Act.put, List.setIfInBounds_toArray, List.set_cons_zero, List.set_cons_succ])
      refine wpAnyH_take (i := 7) (oi := _) (v := ?_) rfl (by decide +kernel) (by decide +kernel) (by decide +kernel) (fun _ _ _ h => h) (Or.inl ⟨by rfl, ?_⟩) (by assumption) ?_
      rotate_left
      · (intro w hSw; (try dsimp only at hSw); go_simp <;> with_reducible rfl)
      (try simp only [Act.put, List.setIfInBounds_toArray, List.set_cons_zero, List.set_cons_succ])
      refine wpAnyH_take (i := 8) (oi := _) (v := ?_) rfl (by decide +kernel) (by decide +kernel) (by decide +kernel) (fun _ _ _ h => h) (Or.inl ⟨by rfl, ?_⟩) (by assumption) ?_
      rotate_left
      · (intro w hSw; (try dsimp only at hSw); go_simp <;> with_reducible rfl)
      (try simp only [Act.put, List.setIfInBounds_toArray, List.set_cons_zero, List.set_cons_succ])
      refine wpAnyH_take (i := 9) (oi := _) (v := ?_) rfl (by decide +kernel) (by decide +kernel) (by decide +kernel) (fun _ _ _ h => h) (Or.inl ⟨by rfl, ?_⟩) (by assumption) ?_
      rotate_left
      · (intro w hSw; (try dsimp only at hSw); go_simp <;> with_reducible rfl)
      (try simp only [Act.put, List.setIfInBounds_toArray, List.set_cons_zero, List.set_cons_succ])
      refine wpAnyH_take (i := 10) (oi := _) (v := ?_) rfl (by decide +kernel) (by decide +kernel) (by decide +kernel) (fun _ _ _ h => h) (Or.inl ⟨by rfl, ?_⟩) (by assumption) ?_
      rotate_left
      · (intro w hSw; (try dsimp only at hSw); go_simp <;> with_reducible rfl)
      (try simp only [Act.put, List.setIfInBounds_toArray, List.set_cons_zero, List.set_cons_succ])
      refine wpAnyH_ready (rs := [11]) (by decide +kernel) (by simp) ?_
      refine AllReadyH.cons (o := _) rfl (fun K hK => ?_) AllReadyH.nil
      (go_simp; rw [HWK.out, HWB.out]; go_at_call 145; refine (HHD.out _ (by (repeat (first | with_reducible exact Below.refl _ _ | with_reducible assumption | (with_reducible refine below_alloc ?_ _) | (with_reducible refine Below.setCell ?_ (by first | omega | (simp; done) | (simp; omega)) _) | (with_reducible refine Below.drew ?_) | (with_reducible refine below_drewN ?_ _) | (refine below_then (by with_reducible assumption) ?_))))).mono ?_; rintro e1 w3 ⟨v3, rfl, hv3, hb3⟩; obtain ⟨a3, c3, rfl⟩ := own_form hv3; have hbv3 : Below W.heap.size W w3 := below_then hb3 (Below.refl _ _).drew; have k13 := (hbv3.cell (p := ⟨w.heap.size, 1, none⟩) lr).trans x1; have k23 := (hbv3.cell (p := ⟨w.heap.size, 2, none⟩) lr).trans x2; have k33 := (hbv3.cell (p := ⟨bb, o + k * 2, none⟩) lbb).trans X0; have k43 := (hbv3.cell (p := ⟨bb, o + k * 2 + 1, none⟩) lbb).trans X1; have HO3 := hid (own_below HO.out hbv3); have HS3 := hid (src_bytes (own_bytes rfl hv3)); have hs3 := hbv3.size; have ktr : True := trivial; clear hv3 hb3; (try dsimp only))
      refine hK.out _ _ ?_ (fun hHeld => ?_)
      · ((try dsimp only); first | assumption | (refine ⟨?_, ?_⟩ <;> assumption) | (refine ⟨?_, ?_, ?_⟩ <;> assumption) | (refine ⟨?_, ?_, ?_, ?_, ?_⟩ <;> assumption))
      clear hK K
      (try simp only [Act.put, List.setIfInBounds_toArray, List.set_cons_zero, List.set_cons_succ])
      refine wpAnyH_ready (rs := [12]) (by decide +kernel) (by simp) ?_
      refine AllReadyH.cons (o := _) rfl (fun K hK => ?_) AllReadyH.nil
      (go_loud (refine step_append_src (by rfl) _ _ _ (by rfl) V.heap.size 5 i0 (.int .u8 0) 1 1 Tryz.underlying28 hi hz0 hz1 hz2 rfl (by decide) (.slice aJ J.length cJ) J.length (byteCells J) (by rfl) HO3.out a3 DK.length c3 (byteCells DK) (by rfl) HS3.out HOND.out (by simp only [maxLen]; omega) (by omega) (by omega) ?_; intro a5 c5 w5 hown5 hgrow5 hat5; have HO5 := hid (OwnB.app hown5); have hbg5 : Below V.heap.size w3 w5 := (Below.grown (Below.refl _ _) hgrow5 (by omega) (fun g e => (HO3.out.lt g e).1)); have k15 := (hbg5.cell (p := ⟨w.heap.size, 1, none⟩) (by dsimp only; omega)).trans k13; have k25 := (hbg5.cell (p := ⟨w.heap.size, 2, none⟩) (by dsimp only; omega)).trans k23; have k35 := (hbg5.cell (p := ⟨bb, o + k * 2, none⟩) (by dsimp only; omega)).trans k33; have k45 := (hbg5.cell (p := ⟨bb, o + k * 2 + 1, none⟩) (by dsimp only; omega)).trans k43; clear hown5 hgrow5 hat5; (try dsimp only)))
      refine hK.out _ _ ?_ (fun hHeld => ?_)
      · ((try dsimp only); first | assumption | (refine ⟨?_, ?_⟩ <;> assumption) | (refine ⟨?_, ?_, ?_⟩ <;> assumption) | (refine ⟨?_, ?_, ?_, ?_, ?_⟩ <;> assumption))
      clear hK K
      (try simp only [Act.put, List.setIfInBounds_toArray, List.set_cons_zero, List.set_cons_succ])
      refine wpAnyH_take (i := 13) (oi := _) (v := ?_) rfl (by decide +kernel) (by decide +kernel) (by decide +kernel) (fun _ _ _ h => h) (Or.inl ⟨by rfl, ?_⟩) (by assumption) ?_
      rotate_left
      · (intro w hSw; (try dsimp only at hSw); go_simp <;> with_reducible rfl)
      (try simp only [Act.put, List.setIfInBounds_toArray, List.set_cons_zero, List.set_cons_succ])
      simp only [List.getElem_toArray, List.getElem_cons_zero, List.getElem_cons_succ, Act.put, List.setIfInBounds_toArray, List.set_cons_zero, List.set_cons_succ]
      refine wpAnyH_done (by kernel_rfl) ?_ _
      have hbe : Below w.heap.size w w5 := hb.trans ((hbv3.mono hb.size).trans (hbg5.mono (by have := hbV.size; omega)))
      have B5 := HBR.out.below (hbv3.mono (Nat.le_of_lt lr |> fun _ => hsz) |>.trans hbg5) lb
      have hz9 := hbg5.size
      have HOE := hid HO5.out
      have HB5' := hid B5
      clear x0 x1 x2 X0 X1 k13 k23 k33 k43 B5 hHeld
      go_wp2
      go_roundw
      case rel => exact ⟨k + 1, J ++ DK, by omega, by go_num, HOE.out, HJ1, ⟨_, _, by rw [List.length_append]⟩, hbe, by omega, HB5'.out⟩
      case measure => simp [intOf]; omega
    · obtain rfl : k = l.length := by omega
      have d1 : decide ((l.length : Int) < (l.length : Int)) = false := decide_eq_false (by omega)
      have hfin : Hid (J = J0 ++ VN ++ headsB bs l) := hid (by have := hJ.out; rwa [List.take_length] at this)
      have HO := hid (own_base (by omega : w.heap.size ≤ V.heap.size) hown)
      clear hown hJ
      go_wp2
      go_ret
      rw [HJ0.out, ← hfin.out]
      exact ⟨_, rfl, HO.out, hb⟩
end Go.Proofs.YtkipiefcnjfdjaaGreat
namespace Go.Proofs.YtkipiefcnjfdjaaGreat
open Go.RowKit Go.Bs Go.Maps
set_option linter.unusedVariables false
set_option linter.unusedSimpArgs false

set_option maxRecDepth 100000 in
set_option maxHeartbeats 6400000 in
theorem ref25_bytes (w : World) (b : Batch) (a : Option Addr) (n c : Nat) (hN : batchN b) (hl : rEntries.r (· < w.heap.size) w [.slice a n c] b.entries) (hR : batchR b = true) (ht : TameE b.entries) :
    Calls Tryz.prog 28 #[.agg #[.int .u64 b.epoch, .int .u64 b.base, .slice a n c]] w fun r w' => ∃ v, r = .returned v ∧ OwnB w' w.heap.size v (batchB b) ∧ Below w.heap.size w w' := by
  obtain ⟨rfl, hm, _, _⟩ := sl_len hl
  obtain ⟨i0, hi, hz0, hz1, hz2⟩ := info_parts info8
  have hlen := batchB_len hR
  have hR' := hR
  simp only [batchR, Bool.and_eq_true, fitsR, decide_eq_true_eq] at hR'
  have hjl := joined_length b.entries
  have hbl := blockB_len (joined b.entries)
  have hvl := (varB_len (joined b.entries).length).1
  have HHD := hid (fun (W : World) (hW : Below w.heap.size w W) => ref25_heads W b a _ c hN (lift hl hW) hR ht)
  have HJN := hid (fun (W : World) (hW : Below w.heap.size w W) => ref24_join b.entries a _ c W (lift hl hW) (by have := ht.tot; omega))
  have HBK := hid (fun (W : World) (aD : Option Addr) (cD : Nat) (h : rBytes.r (· < W.heap.size) W [.slice aD (joined b.entries).length cD] (joined b.entries)) => ref16_bytes W (joined b.entries) aD _ cD h (by omega))
  have hbb : batchB b = aheadB b ++ blockB (joined b.entries) := rfl
  rw [hbb] at hlen ⊢
  rw [List.length_append] at hlen
  generalize aheadB b = AB at *
  generalize blockB (joined b.entries) = BB at *
  generalize joined b.entries = JJ at *
  obtain ⟨ep, bs, l⟩ := b
  dsimp only at *
  have HON := hid (byteCells_one BB)
  have hsz : AB.length + BB.length ≤ 100000000 := by omega
  unfold BytesRet at HJN
  clear hl hR hR' ht hbb hlen hbl hvl hjl hN
  go_enter Tryz.func28, Tryz.ntmps28
  go_wp2_with fail
  refine wp_world (fun W => Below w.heap.size w W ∧ Blk W w.heap.size 25 #[.int .u64 ep, .int .u64 bs, .slice a l.length c] ∧ w.heap.size + 1 ≤ W.heap.size) ⟨by (repeat (first | with_reducible exact Below.refl _ _ | with_reducible assumption | (with_reducible refine below_alloc ?_ _) | (with_reducible refine Below.setCell ?_ (by first | omega | (simp; done) | (simp; omega)) _) | (with_reducible refine Below.drew ?_) | (with_reducible refine below_drewN ?_ _) | (refine below_then (by with_reducible assumption) ?_))), Blk.newAt _ _ _ rfl, by simp⟩ ?_
  rintro V ⟨hbV, BV, lV⟩
  obtain ⟨x0, x1, x2, _, _, _, lb⟩ := b_blk BV
  clear BV
  refine wp_region_held_drew (S := fun w' => w'.cell? ⟨w.heap.size, 0, none⟩ = some (.int .u64 ep) ∧ w'.cell? ⟨w.heap.size, 1, none⟩ = some (.int .u64 bs) ∧ w'.cell? ⟨w.heap.size, 2, none⟩ = some (.slice a l.length c)) (by kernel_rfl) ⟨x0, x1, x2⟩ (fun hHeld => ?_)
  refine wpAnyH_take (i := 0) (oi := _) (v := ?_) rfl (by decide +kernel) (by decide +kernel) (by decide +kernel) (fun _ _ _ h => h) (Or.inl ⟨by rfl, ?_⟩) (by assumption) ?_
  rotate_left
  · (intro w hSw; (try dsimp only at hSw); go_simp <;> with_reducible rfl)
  (try simp only [Act.put, List.setIfInBounds_toArray, List.set_cons_zero, List.set_cons_succ])
  refine wpAnyH_take (i := 2) (oi := _) (v := ?_) rfl (by decide +kernel) (by decide +kernel) (by decide +kernel) (fun _ _ _ h => h) (Or.inl ⟨by rfl, ?_⟩) (by assumption) ?_
  rotate_left
  · (intro w hSw; (try dsimp only at hSw); go_simp <;> with_reducible rfl)
  (try simp only [Act.put, List.setIfInBounds_toArray, List.set_cons_zero, List.set_cons_succ])
  refine wpAnyH_take (i := 3) (oi := _) (v := ?_) rfl (by decide +kernel) (by decide +kernel) (by decide +kernel) (fun _ _ _ h => h) (Or.inl ⟨by rfl, ?_⟩) (by assumption) ?_
  rotate_left
  · (intro w hSw; (try dsimp only at hSw); go_simp <;> with_reducible rfl)
  (try simp only [Act.put, List.setIfInBounds_toArray, List.set_cons_zero, List.set_cons_succ])
  refine wpAnyH_ready (rs := [1]) (by decide +kernel) (by simp) ?_
  refine AllReadyH.cons (o := _) rfl (fun K hK => ?_) AllReadyH.nil
  (go_simp; go_at_call 89; refine (HHD.out _ (by (repeat (first | with_reducible exact Below.refl _ _ | with_reducible assumption | (with_reducible refine below_alloc ?_ _) | (with_reducible refine Below.setCell ?_ (by first | omega | (simp; done) | (simp; omega)) _) | (with_reducible refine Below.drew ?_) | (with_reducible refine below_drewN ?_ _) | (refine below_then (by with_reducible assumption) ?_))))).mono ?_; rintro e1 w3 ⟨v3, rfl, hv3, hb3⟩; obtain ⟨a3, c3, rfl⟩ := own_form hv3; have hbv3 : Below V.heap.size V w3 := below_then hb3 (Below.refl _ _).drew; have k03 := (hbv3.cell (p := ⟨w.heap.size, 0, none⟩) lb).trans x0; have k13 := (hbv3.cell (p := ⟨w.heap.size, 1, none⟩) lb).trans x1; have k23 := (hbv3.cell (p := ⟨w.heap.size, 2, none⟩) lb).trans x2; have HO3 : Hid (w3.ownsRow V.heap.size 5 1 (.slice a3 AB.length c3) AB.length (byteCells AB)) := hid hv3; have hs3 := hbv3.size; have hbw3 := below_then hbv3 hbV; clear hv3 hb3; (try dsimp only))
  refine hK.out _ _ ?_ (fun hHeld => ?_)
  · ((try dsimp only); first | assumption | (refine ⟨?_, ?_, ?_⟩ <;> assumption))
  clear hK K
  (try simp only [Act.put, List.setIfInBounds_toArray, List.set_cons_zero, List.set_cons_succ])
  refine wpAnyH_ready (rs := [4]) (by decide +kernel) (by simp) ?_
  refine AllReadyH.cons (o := _) rfl (fun K hK => ?_) AllReadyH.nil
  (go_simp; go_at_call 84; refine (HJN.out _ hbw3).mono ?_; rintro e1 w4 ⟨v4, rfl, hv4, hb4⟩; obtain ⟨a4, c4, hve, hv4', _⟩ := sl_form hv4; simp only [List.cons.injEq, and_true] at hve; subst hve; have k04 := (hb4.cell (p := ⟨w.heap.size, 0, none⟩) (by dsimp only; omega)).trans k03; have k14 := (hb4.cell (p := ⟨w.heap.size, 1, none⟩) (by dsimp only; omega)).trans k13; have k24 := (hb4.cell (p := ⟨w.heap.size, 2, none⟩) (by dsimp only; omega)).trans k23; have HO4 := hid (own_below HO3.out hb4); have HJ4 := hid hv4'; have hs4 := hb4.size; have hbw4 := below_then hb4 hbw3; clear hv4 hv4'; (try dsimp only))
  refine hK.out _ _ ?_ (fun hHeld => ?_)
  · ((try dsimp only); first | assumption | (refine ⟨?_, ?_, ?_⟩ <;> assumption))
  clear hK K
  (try simp only [Act.put, List.setIfInBounds_toArray, List.set_cons_zero, List.set_cons_succ])
  refine wpAnyH_ready (rs := [5]) (by decide +kernel) (by simp) ?_
  refine AllReadyH.cons (o := _) rfl (fun K hK => ?_) AllReadyH.nil
  (go_simp; go_at_call 90; refine (HBK.out _ a4 c4 HJ4.out).mono ?_; rintro e1 w5 ⟨v5, rfl, hv5, hb5⟩; obtain ⟨a5, c5, hve, hv5', _⟩ := sl_form hv5; simp only [List.cons.injEq, and_true] at hve; subst hve; have k05 := (hb5.cell (p := ⟨w.heap.size, 0, none⟩) (by dsimp only; omega)).trans k04; have k15 := (hb5.cell (p := ⟨w.heap.size, 1, none⟩) (by dsimp only; omega)).trans k14; have k25 := (hb5.cell (p := ⟨w.heap.size, 2, none⟩) (by dsimp only; omega)).trans k24; have HO5 := hid (own_below HO4.out hb5); have HS5 := hid (src_bytes hv5'); have hs5 := hb5.size; have hbw5 := below_then hb5 hbw4; clear hv5 hv5'; (try dsimp only))
  refine hK.out _ _ ?_ (fun hHeld => ?_)
  · ((try dsimp only); first | assumption | (refine ⟨?_, ?_, ?_⟩ <;> assumption))
  clear hK K
  (try simp only [Act.put, List.setIfInBounds_toArray, List.set_cons_zero, List.set_cons_succ])
  refine wpAnyH_ready (rs := [6]) (by decide +kernel) (by simp) ?_
  refine AllReadyH.cons (o := _) rfl (fun K hK => ?_) AllReadyH.nil
  (go_loud (refine step_append_src (by rfl) _ _ _ (by rfl) V.heap.size 5 i0 (.int .u8 0) 1 1 Tryz.underlying28 hi hz0 hz1 hz2 rfl (by decide) (.slice a3 AB.length c3) AB.length (byteCells AB) (by rfl) HO5.out a5 BB.length c5 (byteCells BB) (by rfl) HS5.out HON.out (by simp only [maxLen]; omega) (by omega) (by omega) ?_; intro a6 c6 w6 hown6 hgrow6 hat6; have HO6 := hid (OwnB.app hown6); have hbg6 : Below V.heap.size w5 w6 := (Below.grown (Below.refl _ _) hgrow6 (by omega) (fun g e => (HO5.out.lt g e).1)); have k06 := (hbg6.cell (p := ⟨w.heap.size, 0, none⟩) (by dsimp only; omega)).trans k05; have k16 := (hbg6.cell (p := ⟨w.heap.size, 1, none⟩) (by dsimp only; omega)).trans k15; have k26 := (hbg6.cell (p := ⟨w.heap.size, 2, none⟩) (by dsimp only; omega)).trans k25; clear hown6 hgrow6 hat6; (try dsimp only)))
  refine hK.out _ _ ?_ (fun hHeld => ?_)
  · ((try dsimp only); first | assumption | (refine ⟨?_, ?_, ?_⟩ <;> assumption))
  clear hK K
  (try simp only [Act.put, List.setIfInBounds_toArray, List.set_cons_zero, List.set_cons_succ])
  refine wpAnyH_take (i := 7) (oi := _) (v := ?_) rfl (by decide +kernel) (by decide +kernel) (by decide +kernel) (fun _ _ _ h => h) (Or.inl ⟨by rfl, ?_⟩) (by assumption) ?_
  rotate_left
  · (intro w hSw; (try dsimp only at hSw); go_simp <;> with_reducible rfl)
  (try simp only [Act.put, List.setIfInBounds_toArray, List.set_cons_zero, List.set_cons_succ])
  simp only [List.getElem_toArray, List.getElem_cons_zero, List.getElem_cons_succ, Act.put, List.setIfInBounds_toArray, List.set_cons_zero, List.set_cons_succ]
  refine wpAnyH_done (by kernel_rfl) ?_ _
  have hbe : Below w.heap.size w w6 := hbw5.trans (hbg6.mono hbV.size)
  have HOE := hid (own_base (by have := hbV.size; exact this : w.heap.size ≤ V.heap.size) HO6.out)
  go_wp2
  go_ret
  exact ⟨_, rfl, HOE.out, hbe⟩

theorem bytes_equal2 (x y : List UInt8) (a a' : Option Addr) (n c n' c' : Nat) (w : World) (hx : rBytes.r (· < w.heap.size) w [.slice a n c] x) (hy : rBytes.r (· < w.heap.size) w [.slice a' n' c'] y) :
    Calls Tryz.prog 161 #[.slice a n c, .slice a' n' c'] w fun r w' => r = .returned (.bool (decide (x = y))) ∧ w = w' := by
  obtain ⟨rfl, _, _, _⟩ := sl_len hx
  obtain ⟨rfl, _, _, _⟩ := sl_len hy
  have h1 := bytes_str (P := Tryz.prog) 28 9 5 Tryz.underlying28 Tryz.underlying5 Tryz.underlying9 hx
  have h2 := bytes_str (P := Tryz.prog) 28 9 5 Tryz.underlying28 Tryz.underlying5 Tryz.underlying9 hy
  have he : (x == y) = decide (x = y) := by
    by_cases h : x = y
    · simp [h]
    · simp [h]
  have HE := hid he; clear he hx hy
  go_enter Tryz.func161, Tryz.ntmps161
  go_wp2
  go_ret
  refine ⟨?_, rfl⟩
  rw [← HE.out]
  simp [go_sem]
theorem el_take_eq {α : Type} {xs ys : List α} {k : Nat} (h : xs.take k = ys.take k) (h1 : k < xs.length) (h2 : k < ys.length) (he : xs[k] = ys[k]) : xs.take (k + 1) = ys.take (k + 1) := by
  rw [List.take_succ_eq_append_getElem h1, List.take_succ_eq_append_getElem h2, h, he]
theorem el_ne {α : Type} {xs ys : List α} {k : Nat} (h1 : k < xs.length) (h2 : k < ys.length) (he : xs[k] ≠ ys[k]) : xs ≠ ys := fun e => he (by subst e; rfl)

set_option maxRecDepth 100000 in
set_option maxHeartbeats 3200000 in
theorem equal_u64s (xs ys : List Int) (a a' : Option Addr) (n c n' c' : Nat) (w : World) (hl : rU64s.r (· < w.heap.size) w [.slice a n c] xs) (hl' : rU64s.r (· < w.heap.size) w [.slice a' n' c'] ys) :
    Calls Tryz.prog 249 #[.slice a n c, .slice a' n' c'] w fun r w' => r = .returned (.bool (decide (xs = ys))) ∧ Below w.heap.size w w' := by
  obtain ⟨rfl, hm, _, _⟩ := sl_len hl
  obtain ⟨rfl, hm', _, _⟩ := sl_len hl'
  have HL := hid hl; have HL' := hid hl'; clear hl hl'
  by_cases hlen : xs.length = ys.length
  · have e0 : ((xs.length : Int) != (ys.length : Int)) = false := by rw [hlen]; simp
    have HLN := hid hlen; clear hlen
    go_enter Tryz.func249, Tryz.ntmps249
    go_wp2_with fail
    go_loopw [13] (fun i wr => ∃ k : Nat, k ≤ xs.length ∧ i = .int .i64 k ∧ Hid (xs.take k = ys.take k) ∧ Below w.heap.size w wr) (fun i _ => xs.length - (intOf i).toNat)
    case atStart => exact ⟨0, Nat.zero_le _, rfl, hid rfl, Below.refl _ _⟩
    case round =>
      obtain ⟨k, hk, rfl, heq, hb⟩ := hrel
      rcases Nat.lt_or_ge k xs.length with hlt | hge
      · have hlt' : k < ys.length := by rw [← HLN.out]; exact hlt
        obtain ⟨b, o, hA, hbb, x0, _, _⟩ := u64_at HL.out hlt
        obtain ⟨b', o', hA', hbb', y0, _, _⟩ := u64_at HL'.out hlt'
        subst hA
        subst hA'
        have X0 := fun s : Later wr => s.cell ((hb.cell (p := ⟨b, o + k, none⟩) hbb).trans x0)
        have Y0 := fun s : Later wr => s.cell ((hb.cell (p := ⟨b', o' + k, none⟩) hbb').trans y0)
        have hno := hid (el_ne hlt hlt')
        have hyes := hid (el_take_eq heq.out hlt hlt')
        clear x0 y0
        generalize xs[k] = x at *
        generalize ys[k] = y at *
        have i1 : (k : Int) < (xs.length : Int) := by omega
        have i2 : (k : Int) < (ys.length : Int) := by omega
        have d1 : decide ((k : Int) < (xs.length : Int)) = true := decide_eq_true i1
        have d1' : decide (k < xs.length) = true := decide_eq_true hlt
        by_cases hxy : x = y
        · have e2 : (x != y) = false := by simp [hxy]
          have hnx : Hid (xs.take (k + 1) = ys.take (k + 1)) := hid (hyes.out hxy)
          subst hxy
          clear hno hyes
          go_wp2_with fail
          refine wp_region_later (by kernel_rfl) (by kernel_rfl) ?_
          repeat (go_big_quiet_step (fail))
          refine wpQuiet_nil ?_
          rintro W5 ⟨⟨W5', hb5⟩, rfl⟩
          go_wp2
          go_roundw
          case rel => exact ⟨k + 1, by omega, by go_num, hnx, below_then hb5 hb⟩
          case measure => simp [intOf]; omega
        · have e2 : (x != y) = true := by simpa using hxy
          have hfin : Hid (decide (xs = ys) = false) := hid (decide_eq_false (hno.out hxy))
          clear hno hyes hxy
          go_wp2_with fail
          refine wp_region_later (by kernel_rfl) (by kernel_rfl) ?_
          repeat (go_big_quiet_step (fail))
          refine wpQuiet_nil ?_
          rintro W5 ⟨⟨W5', hb5⟩, rfl⟩
          go_wp2
          go_ret
          exact ⟨by rw [hfin.out]; rfl, below_then hb5 hb⟩
      · obtain rfl : k = xs.length := by omega
        have hfin : Hid (decide (xs = ys) = true) := hid (decide_eq_true (by have h := heq.out; rw [List.take_length, HLN.out, List.take_length] at h; exact h))
        go_wp2
        go_ret
        exact ⟨by rw [hfin.out]; rfl, hb⟩
  · have e0 : ((xs.length : Int) != (ys.length : Int)) = true := by simp; omega
    have hfin : Hid (decide (xs = ys) = false) := hid (decide_eq_false (fun e => hlen (by rw [e])))
    clear hlen
    go_enter Tryz.func249, Tryz.ntmps249
    go_wp2
    go_ret
    exact ⟨by rw [hfin.out]; rfl, by (repeat (first | exact Below.refl _ _ | assumption | (refine below_alloc ?_ _) | (refine Below.setCell ?_ (by first | omega | (simp; done) | (simp; omega)) _) | (refine Below.drew ?_) | (refine below_drewN ?_ _) | (refine below_then (by assumption) ?_)))⟩

set_option maxRecDepth 100000 in
set_option maxHeartbeats 3200000 in
theorem link_same1 (x y : Link) (a a' : Option Addr) (c c' : Nat) (w : World) (hx : rU64s.r (· < w.heap.size) w [.slice a x.backs.length c] x.backs) (hy : rU64s.r (· < w.heap.size) w [.slice a' y.backs.length c'] y.backs) :
    Calls Tryz.prog 248 #[.agg #[.int .u64 x.stream, .slice a x.backs.length c], .agg #[.int .u64 y.stream, .slice a' y.backs.length c']] w fun r w' => r = .returned (.bool (decide (x = y))) ∧ Below w.heap.size w w' := by
  obtain ⟨s, D⟩ := x
  obtain ⟨s', D'⟩ := y
  dsimp only at *
  have HB := hid (fun (W : World) (hW : Below w.heap.size w W) => equal_u64s D D' a a' _ c _ c' W (lift hx hW) (lift hy hW))
  by_cases hs : s = s'
  · subst hs
    have e1 : (s == s) = true := by simp
    have hfin : Hid (decide ((⟨s, D⟩ : Link) = ⟨s, D'⟩) = decide (D = D')) := hid (by by_cases h : D = D' <;> simp [h])
    generalize decide (D = D') = R at *
    clear hx hy
    cases R
    all_goals
      go_enter Tryz.func248, Tryz.ntmps248
      go_wp2_with fail
      refine (HB.out _ (by (repeat (first | with_reducible exact Below.refl _ _ | with_reducible assumption | (with_reducible refine below_alloc ?_ _) | (with_reducible refine Below.setCell ?_ (by first | omega | (simp; done) | (simp; omega)) _) | (with_reducible refine Below.drew ?_) | (with_reducible refine below_drewN ?_ _) | (refine below_then (by with_reducible assumption) ?_))))).mono ?_
      rintro r w1 ⟨rfl, hb1⟩
      go_wp2
      go_ret
      exact ⟨by rw [hfin.out]; rfl, by (repeat (first | with_reducible exact Below.refl _ _ | with_reducible assumption | (with_reducible refine below_alloc ?_ _) | (with_reducible refine Below.setCell ?_ (by first | omega | (simp; done) | (simp; omega)) _) | (with_reducible refine Below.drew ?_) | (with_reducible refine below_drewN ?_ _) | (refine below_then (by with_reducible assumption) ?_)))⟩
  · have e1 : (s == s') = false := by simpa using hs
    have hfin : Hid (decide ((⟨s, D⟩ : Link) = ⟨s', D'⟩) = false) := hid (by simp [hs])
    clear hx hy
    go_enter Tryz.func248, Tryz.ntmps248
    go_wp2
    go_ret
    exact ⟨by rw [hfin.out]; rfl, by (repeat (first | with_reducible exact Below.refl _ _ | with_reducible assumption | (with_reducible refine below_alloc ?_ _) | (with_reducible refine Below.setCell ?_ (by first | omega | (simp; done) | (simp; omega)) _) | (with_reducible refine Below.drew ?_) | (with_reducible refine below_drewN ?_ _) | (refine below_then (by with_reducible assumption) ?_)))⟩

set_option maxRecDepth 100000 in
set_option maxHeartbeats 3200000 in
theorem equal_links (xs ys : List Link) (a a' : Option Addr) (n c n' c' : Nat) (w : World) (hl : rLinks.r (· < w.heap.size) w [.slice a n c] xs) (hl' : rLinks.r (· < w.heap.size) w [.slice a' n' c'] ys) :
    Calls Tryz.prog 247 #[.slice a n c, .slice a' n' c', .func (Fn.func 248) #[] #[]] w fun r w' => r = .returned (.bool (decide (xs = ys))) ∧ Below w.heap.size w w' := by
  obtain ⟨rfl, hm, _, _⟩ := sl_len hl
  obtain ⟨rfl, hm', _, _⟩ := sl_len hl'
  have HL := hid hl; have HL' := hid hl'; clear hl hl'
  by_cases hlen : xs.length = ys.length
  · have e0 : ((xs.length : Int) != (ys.length : Int)) = false := by rw [hlen]; simp
    have HLN := hid hlen; clear hlen
    go_enter Tryz.func247, Tryz.ntmps247
    go_wp2_with fail
    go_loopw [17] (fun i wr => ∃ k : Nat, k ≤ xs.length ∧ i = .int .i64 k ∧ Hid (xs.take k = ys.take k) ∧ Below w.heap.size w wr) (fun i _ => xs.length - (intOf i).toNat)
    case atStart => exact ⟨0, Nat.zero_le _, rfl, hid rfl, Below.refl _ _⟩
    case round =>
      obtain ⟨k, hk, rfl, heq, hb⟩ := hrel
      rcases Nat.lt_or_ge k xs.length with hlt | hge
      · have hlt' : k < ys.length := by rw [← HLN.out]; exact hlt
        obtain ⟨b, o, hA, hbb, ax, cx, x0, x1, _, xl⟩ := link_at HL.out hlt
        obtain ⟨b', o', hA', hbb', ay, cy, y0, y1, _, yl⟩ := link_at HL'.out hlt'
        subst hA
        subst hA'
        have X0 := (hb.cell (p := ⟨b, o + k * 2, none⟩) hbb).trans x0
        have X1 := (hb.cell (p := ⟨b, o + k * 2 + 1, none⟩) hbb).trans x1
        have Y0 := (hb.cell (p := ⟨b', o' + k * 2, none⟩) hbb').trans y0
        have Y1 := (hb.cell (p := ⟨b', o' + k * 2 + 1, none⟩) hbb').trans y1
        have hbl' : b' < wr.heap.size := World.block_lt_of_cell? _ _ Y0
        have hbl : b < wr.heap.size := World.block_lt_of_cell? _ _ X0
        have hno := hid (el_ne hlt hlt')
        have hyes := hid (el_take_eq heq.out hlt hlt')
        have HS := hid (fun (W : World) (hW : Below wr.heap.size wr W) => link_same1 xs[k] ys[k] ax ay cx cy W (lift xl (below_then hW hb)) (lift yl (below_then hW hb)))
        clear x0 x1 y0 y1 xl yl
        generalize xs[k] = x at *
        generalize ys[k] = y at *
        have i1 : (k : Int) < (xs.length : Int) := by omega
        have i2 : (k : Int) < (ys.length : Int) := by omega
        have d1 : decide ((k : Int) < (xs.length : Int)) = true := decide_eq_true i1
        have d1' : decide (k < xs.length) = true := decide_eq_true hlt
        by_cases hxy : x = y
        · have hdd : decide (x = y) = true := decide_eq_true hxy
          rw [hdd] at HS
          have hnx : Hid (xs.take (k + 1) = ys.take (k + 1)) := hid (hyes.out hxy)
          clear hno hyes hxy hdd
          go_wp2_with fail
          refine (HS.out _ (by (repeat (first | with_reducible exact Below.refl _ _ | with_reducible assumption | (with_reducible refine below_alloc ?_ _) | (with_reducible refine Below.setCell ?_ (by first | omega | (simp; done) | (simp; omega)) _) | (with_reducible refine Below.drew ?_) | (with_reducible refine below_drewN ?_ _) | (refine below_then (by with_reducible assumption) ?_))))).mono ?_
          rintro r w5 ⟨rfl, hb5⟩
          have hbw5 : Below w.heap.size w w5 := by (repeat (first | with_reducible exact Below.refl _ _ | with_reducible assumption | (with_reducible refine below_alloc ?_ _) | (with_reducible refine Below.setCell ?_ (by first | omega | (simp; done) | (simp; omega)) _) | (with_reducible refine Below.drew ?_) | (with_reducible refine below_drewN ?_ _) | (refine below_then (by with_reducible assumption) ?_)))
          go_wp2
          go_roundw
          case rel => exact ⟨k + 1, by omega, by go_num, hnx, hbw5⟩
          case measure => simp [intOf]; omega
        · have hdd : decide (x = y) = false := decide_eq_false hxy
          rw [hdd] at HS
          have hfin : Hid (decide (xs = ys) = false) := hid (decide_eq_false (hno.out hxy))
          clear hno hyes hxy hdd
          go_wp2_with fail
          refine (HS.out _ (by (repeat (first | with_reducible exact Below.refl _ _ | with_reducible assumption | (with_reducible refine below_alloc ?_ _) | (with_reducible refine Below.setCell ?_ (by first | omega | (simp; done) | (simp; omega)) _) | (with_reducible refine Below.drew ?_) | (with_reducible refine below_drewN ?_ _) | (refine below_then (by with_reducible assumption) ?_))))).mono ?_
          rintro r w5 ⟨rfl, hb5⟩
          have hbw5 : Below w.heap.size w w5 := by (repeat (first | with_reducible exact Below.refl _ _ | with_reducible assumption | (with_reducible refine below_alloc ?_ _) | (with_reducible refine Below.setCell ?_ (by first | omega | (simp; done) | (simp; omega)) _) | (with_reducible refine Below.drew ?_) | (with_reducible refine below_drewN ?_ _) | (refine below_then (by with_reducible assumption) ?_)))
          go_wp2
          go_ret
          exact ⟨by rw [hfin.out]; rfl, hbw5⟩
      · obtain rfl : k = xs.length := by omega
        have hfin : Hid (decide (xs = ys) = true) := hid (decide_eq_true (by have h := heq.out; rw [List.take_length, HLN.out, List.take_length] at h; exact h))
        go_wp2
        go_ret
        exact ⟨by rw [hfin.out]; rfl, hb⟩
  · have e0 : ((xs.length : Int) != (ys.length : Int)) = true := by simp; omega
    have hfin : Hid (decide (xs = ys) = false) := hid (decide_eq_false (fun e => hlen (by rw [e])))
    clear hlen
    go_enter Tryz.func247, Tryz.ntmps247
    go_wp2
    go_ret
    exact ⟨by rw [hfin.out]; rfl, by (repeat (first | exact Below.refl _ _ | assumption | (refine below_alloc ?_ _) | (refine Below.setCell ?_ (by first | omega | (simp; done) | (simp; omega)) _) | (refine Below.drew ?_) | (refine below_drewN ?_ _) | (refine below_then (by assumption) ?_)))⟩

theorem link_same (xs ys : List Link) (a a' : Option Addr) (n c n' c' : Nat) (w : World) (hl : rLinks.r (· < w.heap.size) w [.slice a n c] xs) (hl' : rLinks.r (· < w.heap.size) w [.slice a' n' c'] ys) :
    Calls Tryz.prog 203 #[.slice a n c, .slice a' n' c'] w fun r w' => r = .returned (.bool (decide (xs = ys))) ∧ Below w.heap.size w w' := by
  obtain ⟨rfl, hm, _, _⟩ := sl_len hl
  obtain ⟨rfl, hm', _, _⟩ := sl_len hl'
  have HE := hid (equal_links xs ys a a' _ c _ c' w hl hl')
  generalize decide (xs = ys) = R at *
  clear hl hl'
  go_enter Tryz.func203, Tryz.ntmps203
  go_wp2_with fail
  refine HE.out.mono ?_
  rintro r w5 ⟨rfl, hb5⟩
  go_wp2
  go_ret
  exact ⟨rfl, by (repeat (first | with_reducible exact Below.refl _ _ | with_reducible assumption | (with_reducible refine below_alloc ?_ _) | (with_reducible refine Below.setCell ?_ (by first | omega | (simp; done) | (simp; omega)) _) | (with_reducible refine Below.drew ?_) | (with_reducible refine below_drewN ?_ _) | (refine below_then (by with_reducible assumption) ?_)))⟩
set_option maxRecDepth 100000 in
set_option maxHeartbeats 3200000 in
theorem entry_same (x y : Entry) (a1 a2 a3 a4 : Option Addr) (c1 c2 c3 c4 : Nat) (w : World) (hx : rLinks.r (· < w.heap.size) w [.slice a1 x.links.length c1] x.links) (hx' : rBytes.r (· < w.heap.size) w [.slice a3 x.data.length c3] x.data)
    (hy : rLinks.r (· < w.heap.size) w [.slice a2 y.links.length c2] y.links) (hy' : rBytes.r (· < w.heap.size) w [.slice a4 y.data.length c4] y.data) :
    Calls Tryz.prog 142 #[.agg #[.slice a1 x.links.length c1, .slice a3 x.data.length c3], .agg #[.slice a2 y.links.length c2, .slice a4 y.data.length c4]] w fun r w' => r = .returned (.bool (decide (x = y))) ∧ Below w.heap.size w w' := by
  obtain ⟨L, D⟩ := x
  obtain ⟨L', D'⟩ := y
  dsimp only at *
  have HLS := hid (fun (W : World) (hW : Below w.heap.size w W) => link_same L L' a1 a2 _ c1 _ c2 W (lift hx hW) (lift hy hW))
  have HBE := hid (fun (W : World) (hW : Below w.heap.size w W) => bytes_equal2 D D' a3 a4 _ c3 _ c4 W (lift hx' hW) (lift hy' hW))
  have hfin : Hid (decide ((⟨L, D⟩ : Entry) = ⟨L', D'⟩) = (decide (L = L') && decide (D = D'))) := hid (by by_cases h : L = L' <;> by_cases h' : D = D' <;> simp [h, h'])
  generalize decide (L = L') = R at *
  generalize decide (D = D') = Q at *
  clear hx hy hx' hy'
  cases R
  · rw [show (false && Q) = false from rfl] at hfin
    go_enter Tryz.func142, Tryz.ntmps142
    go_wp2_with fail
    refine (HLS.out _ (by (repeat (first | with_reducible exact Below.refl _ _ | with_reducible assumption | (with_reducible refine below_alloc ?_ _) | (with_reducible refine Below.setCell ?_ (by first | omega | (simp; done) | (simp; omega)) _) | (with_reducible refine Below.drew ?_) | (with_reducible refine below_drewN ?_ _) | (refine below_then (by with_reducible assumption) ?_))))).mono ?_
    rintro r w1 ⟨rfl, hb1⟩
    go_wp2
    go_ret
    exact ⟨by rw [hfin.out]; rfl, by (repeat (first | with_reducible exact Below.refl _ _ | with_reducible assumption | (with_reducible refine below_alloc ?_ _) | (with_reducible refine Below.setCell ?_ (by first | omega | (simp; done) | (simp; omega)) _) | (with_reducible refine Below.drew ?_) | (with_reducible refine below_drewN ?_ _) | (refine below_then (by with_reducible assumption) ?_)))⟩
  · rw [show (true && Q) = Q from rfl] at hfin
    go_enter Tryz.func142, Tryz.ntmps142
    go_wp2_with fail
    refine (HLS.out _ (by (repeat (first | with_reducible exact Below.refl _ _ | with_reducible assumption | (with_reducible refine below_alloc ?_ _) | (with_reducible refine Below.setCell ?_ (by first | omega | (simp; done) | (simp; omega)) _) | (with_reducible refine Below.drew ?_) | (with_reducible refine below_drewN ?_ _) | (refine below_then (by with_reducible assumption) ?_))))).mono ?_
    rintro r w1 ⟨rfl, hb1⟩
    have B0 : Blk w1 w.heap.size 75 #[.slice a1 L.length c1, .slice a3 D.length c3] := Blk.later (by (repeat (first | assumption | exact Blk.newAt _ _ _ (by first | (simp; done) | (simp; omega)) | refine Blk.alloc ?_ _ | refine Blk.drew ?_ | refine Blk.drewN ?_ _ | refine Blk.far ?_ (by first | (simp; done) | (simp; omega)) _))) hb1
    have B1 : Blk w1 (w.heap.size + 1) 75 #[.slice a2 L'.length c2, .slice a4 D'.length c4] := Blk.later (by (repeat (first | assumption | exact Blk.newAt _ _ _ (by first | (simp; done) | (simp; omega)) | refine Blk.alloc ?_ _ | refine Blk.drew ?_ | refine Blk.drewN ?_ _ | refine Blk.far ?_ (by first | (simp; done) | (simp; omega)) _))) hb1
    obtain ⟨x0, x1, l0⟩ := e_blk B0
    obtain ⟨y0, y1, l1⟩ := e_blk B1
    have hbw : Below w.heap.size w w1 := by (repeat (first | with_reducible exact Below.refl _ _ | with_reducible assumption | (with_reducible refine below_alloc ?_ _) | (with_reducible refine Below.setCell ?_ (by first | omega | (simp; done) | (simp; omega)) _) | (with_reducible refine Below.drew ?_) | (with_reducible refine below_drewN ?_ _) | (refine below_then (by with_reducible assumption) ?_)))
    clear B0 B1 hb1
    go_wp2_with fail
    refine (HBE.out _ hbw).mono ?_
    rintro r w2 ⟨rfl, rfl⟩
    go_wp2
    go_ret
    exact ⟨by rw [hfin.out]; cases Q <;> rfl, by (repeat (first | with_reducible exact Below.refl _ _ | with_reducible assumption | (with_reducible refine below_alloc ?_ _) | (with_reducible refine Below.setCell ?_ (by first | omega | (simp; done) | (simp; omega)) _) | (with_reducible refine Below.drew ?_) | (with_reducible refine below_drewN ?_ _) | (refine below_then (by with_reducible assumption) ?_)))⟩

set_option maxRecDepth 100000 in
set_option maxHeartbeats 3200000 in
theorem equal_entries (xs ys : List Entry) (a a' : Option Addr) (n c n' c' : Nat) (w : World) (hl : rEntries.r (· < w.heap.size) w [.slice a n c] xs) (hl' : rEntries.r (· < w.heap.size) w [.slice a' n' c'] ys) :
    Calls Tryz.prog 141 #[.slice a n c, .slice a' n' c', .func (Fn.func 142) #[] #[]] w fun r w' => r = .returned (.bool (decide (xs = ys))) ∧ Below w.heap.size w w' := by
  obtain ⟨rfl, hm, _, _⟩ := sl_len hl
  obtain ⟨rfl, hm', _, _⟩ := sl_len hl'
  have HL := hid hl; have HL' := hid hl'; clear hl hl'
  by_cases hlen : xs.length = ys.length
  · have e0 : ((xs.length : Int) != (ys.length : Int)) = false := by rw [hlen]; simp
    have HLN := hid hlen; clear hlen
    go_enter Tryz.func141, Tryz.ntmps141
    go_wp2_with fail
    go_loopw [17] (fun i wr => ∃ k : Nat, k ≤ xs.length ∧ i = .int .i64 k ∧ Hid (xs.take k = ys.take k) ∧ Below w.heap.size w wr) (fun i _ => xs.length - (intOf i).toNat)
    case atStart => exact ⟨0, Nat.zero_le _, rfl, hid rfl, Below.refl _ _⟩
    case round =>
      obtain ⟨k, hk, rfl, heq, hb⟩ := hrel
      rcases Nat.lt_or_ge k xs.length with hlt | hge
      · have hlt' : k < ys.length := by rw [← HLN.out]; exact hlt
        obtain ⟨b, o, hA, hbb, ax, cx, px, qx, x0, x1, xl, xd⟩ := entry_at HL.out hlt
        obtain ⟨b', o', hA', hbb', ay, cy, py, qy, y0, y1, yl, yd⟩ := entry_at HL'.out hlt'
        subst hA
        subst hA'
        have X0 := (hb.cell (p := ⟨b, o + k * 2, none⟩) hbb).trans x0
        have X1 := (hb.cell (p := ⟨b, o + k * 2 + 1, none⟩) hbb).trans x1
        have Y0 := (hb.cell (p := ⟨b', o' + k * 2, none⟩) hbb').trans y0
        have Y1 := (hb.cell (p := ⟨b', o' + k * 2 + 1, none⟩) hbb').trans y1
        have hbl' : b' < wr.heap.size := World.block_lt_of_cell? _ _ Y0
        have hbl : b < wr.heap.size := World.block_lt_of_cell? _ _ X0
        have hno := hid (el_ne hlt hlt')
        have hyes := hid (el_take_eq heq.out hlt hlt')
        have HS := hid (fun (W : World) (hW : Below wr.heap.size wr W) => entry_same xs[k] ys[k] ax ay px py cx cy qx qy W (lift xl (below_then hW hb)) (lift xd (below_then hW hb)) (lift yl (below_then hW hb)) (lift yd (below_then hW hb)))
        clear x0 x1 y0 y1 xl yl xd yd
        generalize xs[k] = x at *
        generalize ys[k] = y at *
        have i1 : (k : Int) < (xs.length : Int) := by omega
        have i2 : (k : Int) < (ys.length : Int) := by omega
        have d1 : decide ((k : Int) < (xs.length : Int)) = true := decide_eq_true i1
        have d1' : decide (k < xs.length) = true := decide_eq_true hlt
        by_cases hxy : x = y
        · have hdd : decide (x = y) = true := decide_eq_true hxy
          rw [hdd] at HS
          have hnx : Hid (xs.take (k + 1) = ys.take (k + 1)) := hid (hyes.out hxy)
          clear hno hyes hxy hdd
          go_wp2_with fail
          refine (HS.out _ (by (repeat (first | with_reducible exact Below.refl _ _ | with_reducible assumption | (with_reducible refine below_alloc ?_ _) | (with_reducible refine Below.setCell ?_ (by first | omega | (simp; done) | (simp; omega)) _) | (with_reducible refine Below.drew ?_) | (with_reducible refine below_drewN ?_ _) | (refine below_then (by with_reducible assumption) ?_))))).mono ?_
          rintro r w5 ⟨rfl, hb5⟩
          have hbw5 : Below w.heap.size w w5 := by (repeat (first | with_reducible exact Below.refl _ _ | with_reducible assumption | (with_reducible refine below_alloc ?_ _) | (with_reducible refine Below.setCell ?_ (by first | omega | (simp; done) | (simp; omega)) _) | (with_reducible refine Below.drew ?_) | (with_reducible refine below_drewN ?_ _) | (refine below_then (by with_reducible assumption) ?_)))
          go_wp2
          go_roundw
          case rel => exact ⟨k + 1, by omega, by go_num, hnx, hbw5⟩
          case measure => simp [intOf]; omega
        · have hdd : decide (x = y) = false := decide_eq_false hxy
          rw [hdd] at HS
          have hfin : Hid (decide (xs = ys) = false) := hid (decide_eq_false (hno.out hxy))
          clear hno hyes hxy hdd
          go_wp2_with fail
          refine (HS.out _ (by (repeat (first | with_reducible exact Below.refl _ _ | with_reducible assumption | (with_reducible refine below_alloc ?_ _) | (with_reducible refine Below.setCell ?_ (by first | omega | (simp; done) | (simp; omega)) _) | (with_reducible refine Below.drew ?_) | (with_reducible refine below_drewN ?_ _) | (refine below_then (by with_reducible assumption) ?_))))).mono ?_
          rintro r w5 ⟨rfl, hb5⟩
          have hbw5 : Below w.heap.size w w5 := by (repeat (first | with_reducible exact Below.refl _ _ | with_reducible assumption | (with_reducible refine below_alloc ?_ _) | (with_reducible refine Below.setCell ?_ (by first | omega | (simp; done) | (simp; omega)) _) | (with_reducible refine Below.drew ?_) | (with_reducible refine below_drewN ?_ _) | (refine below_then (by with_reducible assumption) ?_)))
          go_wp2
          go_ret
          exact ⟨by rw [hfin.out]; rfl, hbw5⟩
      · obtain rfl : k = xs.length := by omega
        have hfin : Hid (decide (xs = ys) = true) := hid (decide_eq_true (by have h := heq.out; rw [List.take_length, HLN.out, List.take_length] at h; exact h))
        go_wp2
        go_ret
        exact ⟨by rw [hfin.out]; rfl, hb⟩
  · have e0 : ((xs.length : Int) != (ys.length : Int)) = true := by simp; omega
    have hfin : Hid (decide (xs = ys) = false) := hid (decide_eq_false (fun e => hlen (by rw [e])))
    clear hlen
    go_enter Tryz.func141, Tryz.ntmps141
    go_wp2
    go_ret
    exact ⟨by rw [hfin.out]; rfl, by (repeat (first | exact Below.refl _ _ | assumption | (refine below_alloc ?_ _) | (refine Below.setCell ?_ (by first | omega | (simp; done) | (simp; omega)) _) | (refine Below.drew ?_) | (refine below_drewN ?_ _) | (refine below_then (by assumption) ?_)))⟩

theorem entry_all (xs ys : List Entry) (a a' : Option Addr) (n c n' c' : Nat) (w : World) (hl : rEntries.r (· < w.heap.size) w [.slice a n c] xs) (hl' : rEntries.r (· < w.heap.size) w [.slice a' n' c'] ys) :
    Calls Tryz.prog 86 #[.slice a n c, .slice a' n' c'] w fun r w' => r = .returned (.bool (decide (xs = ys))) ∧ Below w.heap.size w w' := by
  obtain ⟨rfl, hm, _, _⟩ := sl_len hl
  obtain ⟨rfl, hm', _, _⟩ := sl_len hl'
  have HE := hid (equal_entries xs ys a a' _ c _ c' w hl hl')
  generalize decide (xs = ys) = R at *
  clear hl hl'
  go_enter Tryz.func86, Tryz.ntmps86
  go_wp2_with fail
  refine HE.out.mono ?_
  rintro r w5 ⟨rfl, hb5⟩
  go_wp2
  go_ret
  exact ⟨rfl, by (repeat (first | with_reducible exact Below.refl _ _ | with_reducible assumption | (with_reducible refine below_alloc ?_ _) | (with_reducible refine Below.setCell ?_ (by first | omega | (simp; done) | (simp; omega)) _) | (with_reducible refine Below.drew ?_) | (with_reducible refine below_drewN ?_ _) | (refine below_then (by with_reducible assumption) ?_)))⟩
set_option maxRecDepth 100000 in
set_option maxHeartbeats 3200000 in
theorem batch_same (x y : Batch) (a a' : Option Addr) (n c n' c' : Nat) (w : World) (hx : rEntries.r (· < w.heap.size) w [.slice a n c] x.entries) (hy : rEntries.r (· < w.heap.size) w [.slice a' n' c'] y.entries) :
    Calls Tryz.prog 25 #[.agg #[.int .u64 x.epoch, .int .u64 x.base, .slice a n c], .agg #[.int .u64 y.epoch, .int .u64 y.base, .slice a' n' c']] w fun r w' => r = .returned (.bool (decide (x = y))) ∧ Below w.heap.size w w' := by
  obtain ⟨rfl, hm, _, _⟩ := sl_len hx
  obtain ⟨rfl, hm', _, _⟩ := sl_len hy
  obtain ⟨p, q, D⟩ := x
  obtain ⟨p', q', D'⟩ := y
  dsimp only at *
  have HB := hid (fun (W : World) (hW : Below w.heap.size w W) => entry_all D D' a a' _ c _ c' W (lift hx hW) (lift hy hW))
  by_cases hp : p = p'
  · subst hp
    have e1 : (p == p) = true := by simp
    by_cases hq : q = q'
    · subst hq
      have e2 : (q == q) = true := by simp
      have hfin : Hid (decide ((⟨p, q, D⟩ : Batch) = ⟨p, q, D'⟩) = decide (D = D')) := hid (by by_cases h : D = D' <;> simp [h])
      generalize decide (D = D') = R at *
      clear hx hy
      cases R
      all_goals
        go_enter Tryz.func25, Tryz.ntmps25
        go_wp2_with fail
        refine (HB.out _ (by (repeat (first | with_reducible exact Below.refl _ _ | with_reducible assumption | (with_reducible refine below_alloc ?_ _) | (with_reducible refine Below.setCell ?_ (by first | omega | (simp; done) | (simp; omega)) _) | (with_reducible refine Below.drew ?_) | (with_reducible refine below_drewN ?_ _) | (refine below_then (by with_reducible assumption) ?_))))).mono ?_
        rintro r w1 ⟨rfl, hb1⟩
        go_wp2
        go_ret
        exact ⟨by rw [hfin.out]; rfl, by (repeat (first | with_reducible exact Below.refl _ _ | with_reducible assumption | (with_reducible refine below_alloc ?_ _) | (with_reducible refine Below.setCell ?_ (by first | omega | (simp; done) | (simp; omega)) _) | (with_reducible refine Below.drew ?_) | (with_reducible refine below_drewN ?_ _) | (refine below_then (by with_reducible assumption) ?_)))⟩
    · have e2 : (q == q') = false := by simpa using hq
      have hfin : Hid (decide ((⟨p, q, D⟩ : Batch) = ⟨p, q', D'⟩) = false) := hid (by simp [hq])
      clear hx hy
      go_enter Tryz.func25, Tryz.ntmps25
      go_wp2
      go_ret
      exact ⟨by rw [hfin.out]; rfl, by (repeat (first | with_reducible exact Below.refl _ _ | with_reducible assumption | (with_reducible refine below_alloc ?_ _) | (with_reducible refine Below.setCell ?_ (by first | omega | (simp; done) | (simp; omega)) _) | (with_reducible refine Below.drew ?_) | (with_reducible refine below_drewN ?_ _) | (refine below_then (by with_reducible assumption) ?_)))⟩
  · have e1 : (p == p') = false := by simpa using hp
    have hfin : Hid (decide ((⟨p, q, D⟩ : Batch) = ⟨p', q', D'⟩) = false) := hid (by simp [hp])
    clear hx hy
    go_enter Tryz.func25, Tryz.ntmps25
    go_wp2
    go_ret
    exact ⟨by rw [hfin.out]; rfl, by (repeat (first | with_reducible exact Below.refl _ _ | with_reducible assumption | (with_reducible refine below_alloc ?_ _) | (with_reducible refine Below.setCell ?_ (by first | omega | (simp; done) | (simp; omega)) _) | (with_reducible refine Below.drew ?_) | (with_reducible refine below_drewN ?_ _) | (refine below_then (by with_reducible assumption) ?_)))⟩
end Go.Proofs.YtkipiefcnjfdjaaGreat
namespace Go.Proofs.YtkipiefcnjfdjaaGreat
open Go.RowKit Go.Bs Go.Maps
set_option linter.unusedVariables false
set_option linter.unusedSimpArgs false

def live25E : Entry := ⟨[], [7, 8]⟩
def live25B : Batch := ⟨3, 10, [live25E]⟩
theorem live25_bytes : batchBytes live25B = ([3, 10, 1, 0, 2, 2, 0, 7, 8], 0) := by decide +kernel
def want25 : Array Value := #[.int .u8 3, .int .u8 10, .int .u8 1, .int .u8 0, .int .u8 2, .int .u8 2, .int .u8 0, .int .u8 7, .int .u8 8]
theorem want25_is : want25 = (byteCells [3, 10, 1, 0, 2, 2, 0, 7, 8]).toArray := by rfl
theorem live25_entries {w : World} {g h : Nat} (hg : Blk w g 5 #[.int .u8 7, .int .u8 8]) (hh : Blk w h 75 #[.slice none 0 0, .slice (some ⟨g, 0, none⟩) 2 2]) :
    rEntries.r (· < w.heap.size) w [.slice (some ⟨h, 0, none⟩) 1 1] [live25E] := by
  refine rSl_mk (xs := [live25E]) rfl (Nat.le_refl _) (by decide) (.inr ⟨h, 0, rfl, hh.lt, fun i x hi => ?_⟩)
  have hi0 : i = 0 := by
    rcases i with _ | i
    · rfl
    · simp at hi
  subst hi0
  simp at hi
  subst hi
  refine ⟨[.slice none 0 0, .slice (some ⟨g, 0, none⟩) 2 2], rfl, fun j v hj => ?_, entry_mk (x := live25E) ?_ ?_⟩
  · rcases j with _ | _ | j
    · simp at hj; subst hj; exact hh.cell 0
    · simp at hj; subst hj; exact hh.cell 1
    · simp at hj
  · exact rSl_mk (xs := []) rfl (Nat.le_refl _) (Nat.zero_le _) (.inl rfl)
  · exact lit_bytes (l := [7, 8]) (cs := #[.int .u8 7, .int .u8 8]) rfl (by decide) hg
set_option maxRecDepth 100000 in
set_option maxHeartbeats 1600000 in
theorem live25 (w : World) : Calls Tryz.prog 16 #[] w fun r w' => r = .returned (.bool true) ∧ Below w.heap.size w w' := by
  have HB := hid (fun (W : World) (a : Option Addr) (h : rEntries.r (· < W.heap.size) W [.slice a 1 1] [live25E]) => (by
    have := batch_bytes W live25B a 1 1 ⟨by decide, by decide, fun e he => by simp [live25B] at he; subst he; exact fun x hx => by simp [live25E] at hx⟩ h ⟨by decide, by decide, fun e he => by simp [live25B] at he; subst he; exact fun x hx => by simp [live25E] at hx⟩
    rw [live25_bytes] at this
    exact this : Calls Tryz.prog 17 #[.agg #[.int .u64 3, .int .u64 10, .slice a 1 1]] W fun r w' => ∃ v, r = .returned (.tuple #[v, .int .i64 0]) ∧ rBytes.r (fun q => W.heap.size ≤ q ∧ q < w'.heap.size) w' [v] [3, 10, 1, 0, 2, 2, 0, 7, 8] ∧ Below W.heap.size W w'))
  go_enter Tryz.func16, Tryz.ntmps16
  go_wp2_with fail
  refine (HB.out _ _ (live25_entries ((Blk.newAt w _ _ rfl).alloc _) (Blk.newAt _ _ _ (by simp)))).mono ?_
  rintro r w1 ⟨v, rfl, hr, hb1⟩
  obtain ⟨a1, c1, hv, hr2, _⟩ := sl_form hr
  simp only [List.cons.injEq, and_true] at hv
  subst hv
  have HR := hid (rBytes.mono hr2 (S' := (· < w1.heap.size)) fun q hq => hq.2)
  have hbw : Below w.heap.size w w1 := by (repeat (first | exact Below.refl _ _ | assumption | (refine below_alloc ?_ _) | (refine Below.setCell ?_ (by first | omega | (simp; done) | (simp; omega)) _) | (refine Below.drew ?_) | (refine below_drewN ?_ _) | (refine below_then (by assumption) ?_)))
  clear hr hr2 hb1
  go_wp2_with fail
  have hs1 := same_bytes [3, 10, 1, 0, 2, 2, 0, 7, 8] [3, 10, 1, 0, 2, 2, 0, 7, 8] a1 (some ⟨w1.heap.size, 0, none⟩) _ c1 9 9 (w1.alloc (.cells want25 5)) (lift HR.out (by clear hbw; (repeat (first | exact Below.refl _ _ | assumption | (refine below_alloc ?_ _) | (refine Below.setCell ?_ (by first | omega | (simp; done) | (simp; omega)) _) | (refine Below.drew ?_) | (refine below_drewN ?_ _) | (refine below_then (by assumption) ?_))))) (lit_bytes want25_is (by decide) (World.alloc_heap_new w1 _))
  simp only [decide_true] at hs1
  refine hs1.mono ?_
  rintro r w3 ⟨rfl, rfl⟩
  have hbe : Below w.heap.size w (w1.alloc (.cells want25 5)) := below_alloc hbw _
  clear hs1
  generalize w1.alloc (.cells want25 5) = w3 at *
  go_wp2
  go_ret
  exact ⟨rfl, hbe⟩
end Go.Proofs.YtkipiefcnjfdjaaGreat
namespace Go.Proofs.YtkipiefcnjfdjaaGreat
open Go.RowKit Go.Bs Go.Maps
set_option linter.unusedVariables false
set_option linter.unusedSimpArgs false

theorem long25_tame {l : List Entry} (h : long25 l = false) : TameE l ∧ (∀ z ∈ l, Mild z) ∧ total l ≤ 300 := by
  obtain ⟨h1, h2, h3⟩ := long25_no h
  exact ⟨⟨by omega, by omega, fun e he x hx => by have := (h3 e he).2.2 x hx; omega⟩, fun z hz => ⟨by have := (h3 z hz).2.1; omega, by have := (h3 z hz).1; omega, fun y hy => by have := (h3 z hz).2.2 y hy; omega⟩, h2⟩
theorem entries_bounds {S : Nat → Prop} {w : World} {a : Option Addr} {n c : Nat} {l : List Entry} (h : rEntries.r S w [.slice a n c] l) : ∀ e ∈ l, entryN e := by
  intro e he
  obtain ⟨i, hi, rfl⟩ := List.getElem_of_mem he
  obtain ⟨b, o, _, _, a1, c1, a2, c2, _, _, hl, _⟩ := entry_at h hi
  exact links_bounds hl
theorem batch_end_any (e b : Int) (a : Option Addr) (n c : Nat) (w : World) (hb : 0 ≤ b ∧ b ≤ 18446744073709551615) (hn : n ≤ 1000000) :
    Calls Tryz.prog 24 #[.agg #[.int .u64 e, .int .u64 b, .slice a n c]] w fun r w' => r = .returned (.int .u64 (IntKind.u64.wrap (b + (n : Int)))) ∧ Below w.heap.size w w' := by
  go_enter Tryz.func24, Tryz.ntmps24
  go_wp2
  go_ret
  exact ⟨rfl, by (repeat (first | with_reducible exact Below.refl _ _ | with_reducible assumption | (with_reducible refine below_alloc ?_ _) | (with_reducible refine Below.setCell ?_ (by first | omega | (simp; done) | (simp; omega)) _) | (with_reducible refine Below.drew ?_) | (with_reducible refine below_drewN ?_ _) | (refine below_then (by with_reducible assumption) ?_)))⟩

set_option maxRecDepth 100000 in
set_option maxHeartbeats 12800000 in
theorem batchWrites_c (b o : Batch) (ab ao : Option Addr) (nb cb no co : Nat) (w : World) (hb : rBatch.r (· < w.heap.size) w [.int .u64 b.epoch, .int .u64 b.base, .slice ab nb cb] b) (ho : rBatch.r (· < w.heap.size) w [.int .u64 o.epoch, .int .u64 o.base, .slice ao no co] o) :
    Calls Tryz.prog 3 #[.agg #[.int .u64 b.epoch, .int .u64 b.base, .slice ab nb cb], .agg #[.int .u64 o.epoch, .int .u64 o.base, .slice ao no co]] w fun r w' => r = .returned (.bool true) ∧ Below w.heap.size w w' := by
  obtain ⟨ab', cb', hbe, hbe0, hbb0, hbl⟩ := batch_cells hb
  obtain ⟨ao', co', hoe, hoe0, hob0, hol⟩ := batch_cells ho
  simp only [List.cons.injEq, Value.slice.injEq, true_and, and_true] at hbe hoe
  obtain ⟨rfl, rfl, rfl⟩ := hbe
  obtain ⟨rfl, rfl, rfl⟩ := hoe
  clear hb ho
  have HLL := hid hbl
  have HLB := hid (fun (W : World) (hW : Below w.heap.size w W) => law25_long b.epoch b.base b.entries ab _ cb W (lift hbl hW))
  have HLO := hid (fun (W : World) (hW : Below w.heap.size w W) => law25_long o.epoch o.base o.entries ao _ co W (lift hol hW))
  have hbN : batchN b := ⟨hbe0, hbb0, entries_bounds hbl⟩
  cases hlb : long25 b.entries
  · rw [hlb] at HLB
    cases hlo : long25 o.entries
    · rw [hlo] at HLO
      obtain ⟨htb, hmb, htot⟩ := long25_tame hlb
      obtain ⟨hto, hmo, _⟩ := long25_tame hlo
      have hblen := htb.len
      have HWL : Hid (IntKind.u64.wrap (b.entries.length : Int) = (b.entries.length : Int)) := hid (by simp only [IntKind.wrap_u64]; omega)
      have HBY := hid (fun (W : World) (hW : Below w.heap.size w W) => batch_bytes W b ab _ cb hbN (lift hbl hW) htb)
      have HRT := hid (fun (W : World) (hW : Below w.heap.size w W) => batch_right b ab _ cb W hbe0 hbb0 (lift hbl hW) htb.fair)
      have HRR := hid (fun (W : World) (hW : Below w.heap.size w W) => ref25_right b ab _ cb W hbe0 hbb0 (lift hbl hW) htb.fair)
      have HEN := hid (fun (W : World) => batch_end_any b.epoch b.base ab b.entries.length cb W hbb0 (by omega))
      have HSM := hid (fun (W : World) (hW : Below w.heap.size w W) => batch_same b o ab ao _ cb _ co W (lift hbl hW) (lift hol hW))
      have HSR := hid (fun (W : World) (hW : Below w.heap.size w W) => ref25_same b o ab ao _ cb _ co W (lift hbl hW) (lift hol hW))
      have HCP := hid (fun (W : World) (hW : Below w.heap.size w W) => batch_copy b ab _ cb W (lift hbl hW) (by omega) hmb)
      have HSC := hid (fun (W : World) (hW : Below w.heap.size w W) (aC : Option Addr) (cC : Nat) (hC : rEntries.r (· < W.heap.size) W [.slice aC b.entries.length cC] b.entries) => (by have := ref25_same b b aC ab _ cC _ cb W hC (lift hbl hW); rw [decide_eq_true (rfl : b = b)] at this; exact this : Calls Tryz.prog 26 #[.agg #[.int .u64 b.epoch, .int .u64 b.base, .slice aC b.entries.length cC], .agg #[.int .u64 b.epoch, .int .u64 b.base, .slice ab b.entries.length cb]] W fun r w' => r = .returned (.bool true) ∧ Below W.heap.size W w'))
      unfold batchBytes at HBY
      cases hR : batchR b
      · rw [hR] at HRT HRR HBY
        simp only [Bool.false_eq_true, if_false] at HBY
        have HPUT := hid (fun (W : World) {g base : Nat} {a : Option Addr} {c : Nat} (h : PenAt W g base 65536 [] a c) (hW : Below w.heap.size w W) => batch_put_bad W h b ab _ cb hbN (lift hbl hW) hR htb)
        generalize decide (b = o) = Q at *
        obtain ⟨eb, bb, lb⟩ := b
        obtain ⟨eo, bo, lo⟩ := o
        dsimp only at *
        clear hbl hol hlb hlo htb hto hmb hmo hR hbN htot
        go_enter Tryz.func3, Tryz.ntmps3
        go_wp2_with fail
        refine (HLB.out _ (by (repeat (first | with_reducible exact Below.refl _ _ | with_reducible assumption | (with_reducible refine below_alloc ?_ _) | (with_reducible refine Below.setCell ?_ (by first | omega | (simp; done) | (simp; omega)) _) | (with_reducible refine Below.drew ?_) | (with_reducible refine below_drewN ?_ _) | (refine below_then (by with_reducible assumption) ?_))))).mono ?_
        rintro r w1 ⟨rfl, hb1⟩
        have B1 := Blk.later ((Blk.newAt w 25 #[.int .u64 eb, .int .u64 bb, .slice ab lb.length cb] rfl).alloc (.cells #[.int .u64 eo, .int .u64 bo, .slice ao lo.length co] 25)) hb1
        have O1 := Blk.later (Blk.newAt (w.alloc (.cells #[.int .u64 eb, .int .u64 bb, .slice ab lb.length cb] 25)) 25 #[.int .u64 eo, .int .u64 bo, .slice ao lo.length co] (g := w.heap.size + 1) (by simp)) hb1
        have hbw1 : Below w.heap.size w w1 := by (repeat (first | with_reducible exact Below.refl _ _ | with_reducible assumption | (with_reducible refine below_alloc ?_ _) | (with_reducible refine Below.setCell ?_ (by first | omega | (simp; done) | (simp; omega)) _) | (with_reducible refine Below.drew ?_) | (with_reducible refine below_drewN ?_ _) | (refine below_then (by with_reducible assumption) ?_)))
        clear hb1

        obtain ⟨x0, x1, x2, _, _, _, l1⟩ := b_blk O1
        go_wp2_with fail
        refine (HLO.out _ hbw1).mono ?_
        rintro r w2 ⟨rfl, hb2⟩
        have B2 := B1.later hb2
        have O2 := O1.later hb2
        have hbw2 := below_then hb2 hbw1
        clear B1 O1 hb2 x0 x1 x2 l1

        obtain ⟨x0, x1, x2, _, _, _, l2⟩ := b_blk B2
        go_wp2_with fail
        refine (HBY.out _ hbw2).mono ?_
        rintro r w3 ⟨v3, rfl, hr3, hb3⟩
        obtain ⟨a3, c3, hv3, hr3', _⟩ := sl_form hr3
        simp only [List.cons.injEq, and_true] at hv3
        subst hv3
        have HS3 := hid (rBytes.mono hr3' (S' := (· < w3.heap.size)) fun q hq => hq.2)
        have hbw3 := below_then hb3 hbw2
        have B3 := B2.later hb3
        have O3 := O2.later hb3
        have HN := hid (pen_new w3 65536 (by omega))
        clear hr3 hr3' B2 O2 x0 x1 x2 l2
        go_wp2_with fail
        refine HN.out.mono ?_
        rintro r w4 ⟨rfl, hp4, hb4⟩
        have B4 := B3.later hb4
        have O4 := O3.later hb4
        have hbw4 := below_then hb4 hbw3
        have hs4 := hb4.size
        obtain ⟨x0, x1, x2, _, _, _, l4⟩ := b_blk B4
        have hg2 : w.heap.size < w3.heap.size := by have := B3.lt; exact this
        have hg3 : w.heap.size + 1 < w3.heap.size := by have := O3.lt; exact this
        have HPT := hid (HPUT.out w4 hp4 hbw4)
        clear hp4
        go_wp2_with fail
        refine HPT.out.mono ?_
        rintro r w6 ⟨rfl, hB6p, hT6⟩
        have hb35 : Below w3.heap.size w3 w6 := hb4.trans (hT6.to_below hs4 (fun q _ e => by omega))
        have hbw5 := below_then hb35 hbw3
        have B5 := B3.later hb35
        have O5 := O3.later hb35
        have hb56 : Below w6.heap.size w6 w6 := Below.refl _ _
        have HB5 := hid (pen_bytes_bad w6 (k := 3) (by omega) hB6p)
        clear hB6p hT6 x0 x1 x2 l4 B3 O3 B4 O4
        go_wp2_with fail
        refine HB5.out.mono ?_
        rintro r w6' ⟨rfl, rfl⟩
        have HS6 : Hid (rBytes.r (· < w6.heap.size) w6 [.slice none 0 0] []) := hid (empty_bytes2 rfl rfl (by omega))
        have B6 := B5.later hb56
        have O6 := O5.later hb56
        have hbw6 := below_then hb56 hbw5
        have hb36 : Below w3.heap.size w3 w6 := hb35.trans (hb56.mono hb35.size)
        have hsame := same_bytes [] [] none a3 _ 0 _ c3 w6 HS6.out (lift HS3.out hb36)
        simp only [decide_true, List.length_nil] at hsame
        have HSAME := hid hsame
        clear hsame
        go_wp2_with fail
        refine HSAME.out.mono ?_
        rintro r w6' ⟨rfl, rfl⟩
        go_wp2_with fail
        have SK := hid (fun (w' : World) (h2 : Blk w' w.heap.size 25 #[.int .u64 eb, .int .u64 bb, .slice ab lb.length cb]) (h3 : Blk w' (w.heap.size + 1) 25 #[.int .u64 eo, .int .u64 bo, .slice ao lo.length co]) => (⟨h2.cell 0, h2.cell 1, h2.cell 2, h3.cell 0, h3.cell 1, h3.cell 2⟩ : w'.cell? ⟨w.heap.size, 0, none⟩ = some (.int .u64 eb) ∧ w'.cell? ⟨w.heap.size, 1, none⟩ = some (.int .u64 bb) ∧ w'.cell? ⟨w.heap.size, 2, none⟩ = some (.slice ab lb.length cb) ∧ w'.cell? ⟨w.heap.size + 1, 0, none⟩ = some (.int .u64 eo) ∧ w'.cell? ⟨w.heap.size + 1, 1, none⟩ = some (.int .u64 bo) ∧ w'.cell? ⟨w.heap.size + 1, 2, none⟩ = some (.slice ao lo.length co)))
        clear HSAME
        refine wp_region_held_drew (S := fun w' => w'.cell? ⟨w.heap.size, 0, none⟩ = some (.int .u64 eb) ∧ w'.cell? ⟨w.heap.size, 1, none⟩ = some (.int .u64 bb) ∧ w'.cell? ⟨w.heap.size, 2, none⟩ = some (.slice ab lb.length cb) ∧ w'.cell? ⟨w.heap.size + 1, 0, none⟩ = some (.int .u64 eo) ∧ w'.cell? ⟨w.heap.size + 1, 1, none⟩ = some (.int .u64 bo) ∧ w'.cell? ⟨w.heap.size + 1, 2, none⟩ = some (.slice ao lo.length co)) (by kernel_rfl) (SK.out w6 B6 O6) (fun hHeld => ?_)
        refine wpAnyH_take (i := 0) (oi := _) (v := ?_) rfl (by decide +kernel) (by decide +kernel) (by decide +kernel) (fun _ _ _ h => h) (Or.inl ⟨by rfl, ?_⟩) (by assumption) ?_
        rotate_left
        · (intro w hSw; (try dsimp only at hSw); go_simp <;> with_reducible rfl)
        (try simp only [Act.put, List.setIfInBounds_toArray, List.set_cons_zero, List.set_cons_succ])
        refine wpAnyH_take (i := 2) (oi := _) (v := ?_) rfl (by decide +kernel) (by decide +kernel) (by decide +kernel) (fun _ _ _ h => h) (Or.inl ⟨by rfl, ?_⟩) (by assumption) ?_
        rotate_left
        · (intro w hSw; (try dsimp only at hSw); go_simp <;> with_reducible rfl)
        (try simp only [Act.put, List.setIfInBounds_toArray, List.set_cons_zero, List.set_cons_succ])
        refine wpAnyH_ready (rs := [1]) (by decide +kernel) (by simp) ?_
        refine AllReadyH.cons (o := _) rfl (fun K hK => ?_) AllReadyH.nil
        (go_simp; go_at_call 22; refine (HRT.out w6.drew (below_then (Below.refl _ _).drew hbw6)).mono ?_; rintro e1 w7 ⟨rfl, hb7⟩; have hb67 : Below w6.heap.size w6 w7 := below_then hb7 (Below.refl _ _).drew; have B7 := B6.later hb67; have O7 := O6.later hb67; have hbw7 := below_then hb67 hbw6; clear B6 O6 hb7; (try dsimp only))
        refine hK.out _ _ ?_ (fun hHeld => ?_)
        · ((try dsimp only); first | exact SK.out _ (by assumption) (by assumption) | assumption)
        clear hK K
        (try simp only [Act.put, List.setIfInBounds_toArray, List.set_cons_zero, List.set_cons_succ])
        refine wpAnyH_ready (rs := [3]) (by decide +kernel) (by simp) ?_
        refine AllReadyH.cons (o := _) rfl (fun K hK => ?_) AllReadyH.nil
        (go_simp; go_at_call 23; refine (HRR.out w7 hbw7).mono ?_; rintro e1 w8 ⟨rfl, hb8⟩; have B8 := B7.later hb8; have O8 := O7.later hb8; have hbw8 := below_then hb8 hbw7; have hb68 := below_then hb8 hb67; clear B7 O7 hb8; (try dsimp only))
        refine hK.out _ _ ?_ (fun hHeld => ?_)
        · ((try dsimp only); first | exact SK.out _ (by assumption) (by assumption) | assumption)
        clear hK K
        (try simp only [Act.put, List.setIfInBounds_toArray, List.set_cons_zero, List.set_cons_succ])
        refine wpAnyH_take (i := 4) (oi := _) (v := ?_) rfl (by decide +kernel) (by decide +kernel) (by decide +kernel) (fun _ _ _ h => h) (Or.inl ⟨by rfl, ?_⟩) (by assumption) ?_
        rotate_left
        · (intro w hSw; (try dsimp only at hSw); go_simp <;> with_reducible rfl)
        (try simp only [Act.put, List.setIfInBounds_toArray, List.set_cons_zero, List.set_cons_succ])
        refine wpAnyH_take (i := 5) (oi := _) (v := ?_) rfl (by decide +kernel) (by decide +kernel) (by decide +kernel) (fun _ _ _ h => h) (Or.inl ⟨by rfl, ?_⟩) (by assumption) ?_
        rotate_left
        · (intro w hSw; (try dsimp only at hSw); go_simp <;> with_reducible rfl)
        (try simp only [Act.put, List.setIfInBounds_toArray, List.set_cons_zero, List.set_cons_succ])
        refine wpAnyH_take (i := 6) (oi := _) (v := ?_) rfl (by decide +kernel) (by decide +kernel) (by decide +kernel) (fun _ _ _ h => h) (Or.inl ⟨by kernel_rfl, ?_⟩) (by assumption) ?_
        rotate_left
        · (intro w hSw; (try dsimp only at hSw); go_simp <;> with_reducible rfl)
        (try simp only [Act.put, List.setIfInBounds_toArray, List.set_cons_zero, List.set_cons_succ])
        refine wpAnyH_take (i := 8) (oi := _) (v := ?_) rfl (by decide +kernel) (by decide +kernel) (by decide +kernel) (fun _ _ _ h => h) (Or.inl ⟨by kernel_rfl, ?_⟩) (by assumption) ?_
        rotate_left
        · (intro w hSw; (try dsimp only at hSw); go_simp <;> with_reducible rfl)
        (try simp only [Act.put, List.setIfInBounds_toArray, List.set_cons_zero, List.set_cons_succ])
        refine wpAnyH_take (i := 9) (oi := _) (v := ?_) rfl (by decide +kernel) (by decide +kernel) (by decide +kernel) (fun _ _ _ h => h) (Or.inl ⟨by kernel_rfl, ?_⟩) (by assumption) ?_
        rotate_left
        · (intro w hSw; (try dsimp only at hSw); go_simp <;> with_reducible rfl)
        (try simp only [Act.put, List.setIfInBounds_toArray, List.set_cons_zero, List.set_cons_succ])
        refine wpAnyH_take (i := 10) (oi := _) (v := ?_) rfl (by decide +kernel) (by decide +kernel) (by decide +kernel) (fun _ _ _ h => h) (Or.inl ⟨by kernel_rfl, ?_⟩) (by assumption) ?_
        rotate_left
        · (intro w hSw; (try dsimp only at hSw); go_simp <;> with_reducible rfl)
        (try simp only [Act.put, List.setIfInBounds_toArray, List.set_cons_zero, List.set_cons_succ])
        refine wpAnyH_take (i := 11) (oi := _) (v := ?_) rfl (by decide +kernel) (by decide +kernel) (by decide +kernel) (fun _ _ _ h => h) (Or.inl ⟨by kernel_rfl, ?_⟩) (by assumption) ?_
        rotate_left
        · (intro w hSw; (try dsimp only at hSw); go_simp <;> with_reducible rfl)
        (try simp only [Act.put, List.setIfInBounds_toArray, List.set_cons_zero, List.set_cons_succ])
        refine wpAnyH_take (i := 12) (oi := _) (v := ?_) rfl (by decide +kernel) (by decide +kernel) (by decide +kernel) (fun _ _ _ h => h) (Or.inl ⟨by kernel_rfl, ?_⟩) (by assumption) ?_
        rotate_left
        · (intro w hSw; (try dsimp only at hSw); go_simp <;> with_reducible rfl)
        (try simp only [Act.put, List.setIfInBounds_toArray, List.set_cons_zero, List.set_cons_succ])
        refine wpAnyH_take (i := 13) (oi := _) (v := ?_) rfl (by decide +kernel) (by decide +kernel) (by decide +kernel) (fun _ _ _ h => h) (Or.inl ⟨by kernel_rfl, ?_⟩) (by assumption) ?_
        rotate_left
        · (intro w hSw; (try dsimp only at hSw); go_simp <;> with_reducible rfl)
        (try simp only [Act.put, List.setIfInBounds_toArray, List.set_cons_zero, List.set_cons_succ])
        refine wpAnyH_take (i := 14) (oi := _) (v := ?_) rfl (by decide +kernel) (by decide +kernel) (by decide +kernel) (fun _ _ _ h => h) (Or.inl ⟨by kernel_rfl, ?_⟩) (by assumption) ?_
        rotate_left
        · (intro w hSw; (try dsimp only at hSw); go_simp <;> with_reducible rfl)
        (try simp only [Act.put, List.setIfInBounds_toArray, List.set_cons_zero, List.set_cons_succ])
        (try rw [HWL.out])
        generalize IntKind.u64.wrap (bb + (lb.length : Int)) = EV at *
        refine wpAnyH_ready (rs := [7]) (by decide +kernel) (by simp) ?_
        refine AllReadyH.cons (o := _) rfl (fun K hK => ?_) AllReadyH.nil
        (go_simp; go_at_call 24; refine (HEN.out w8).mono ?_; rintro e1 w9 ⟨rfl, hb9⟩; have B9 := B8.later hb9; have O9 := O8.later hb9; have hbw9 := below_then hb9 hbw8; have hb69 := below_then hb9 hb68; clear B8 O8 hb9; (try dsimp only))
        refine hK.out _ _ ?_ (fun hHeld => ?_)
        · ((try dsimp only); first | exact SK.out _ (by assumption) (by assumption) | assumption)
        clear hK K
        (try simp only [Act.put, List.setIfInBounds_toArray, List.set_cons_zero, List.set_cons_succ])
        refine wpAnyH_take (i := 15) (oi := _) (v := ?_) rfl (by decide +kernel) (by decide +kernel) (by decide +kernel) (fun _ _ _ h => h) (Or.inl ⟨by kernel_rfl, ?_⟩) (by assumption) ?_
        rotate_left
        · (intro w hSw; (try dsimp only at hSw); go_simp <;> with_reducible rfl)
        (try simp only [Act.put, List.setIfInBounds_toArray, List.set_cons_zero, List.set_cons_succ])
        refine wpAnyH_take (i := 16) (oi := _) (v := ?_) rfl (by decide +kernel) (by decide +kernel) (by decide +kernel) (fun _ _ _ h => h) (Or.inl ⟨by kernel_rfl, ?_⟩) (by assumption) ?_
        rotate_left
        · (intro w hSw; (try dsimp only at hSw); go_simp <;> with_reducible rfl)
        (try simp only [Act.put, List.setIfInBounds_toArray, List.set_cons_zero, List.set_cons_succ])
        refine wpAnyH_take (i := 17) (oi := _) (v := ?_) rfl (by decide +kernel) (by decide +kernel) (by decide +kernel) (fun _ _ _ h => h) (Or.inl ⟨by kernel_rfl, ?_⟩) (by assumption) ?_
        rotate_left
        · (intro w hSw; (try dsimp only at hSw); go_simp <;> with_reducible rfl)
        (try simp only [Act.put, List.setIfInBounds_toArray, List.set_cons_zero, List.set_cons_succ])
        refine wpAnyH_take (i := 18) (oi := _) (v := ?_) rfl (by decide +kernel) (by decide +kernel) (by decide +kernel) (fun _ _ _ h => h) (Or.inl ⟨by kernel_rfl, ?_⟩) (by assumption) ?_
        rotate_left
        · (intro w hSw; (try dsimp only at hSw); go_simp <;> with_reducible rfl)
        (try simp only [Act.put, List.setIfInBounds_toArray, List.set_cons_zero, List.set_cons_succ])
        refine wpAnyH_take (i := 19) (oi := _) (v := ?_) rfl (by decide +kernel) (by decide +kernel) (by decide +kernel) (fun _ _ _ h => h) (Or.inl ⟨by kernel_rfl, ?_⟩) (by assumption) ?_
        rotate_left
        · (intro w hSw; (try dsimp only at hSw); go_simp <;> with_reducible rfl)
        (try simp only [Act.put, List.setIfInBounds_toArray, List.set_cons_zero, List.set_cons_succ])
        refine wpAnyH_take (i := 21) (oi := _) (v := ?_) rfl (by decide +kernel) (by decide +kernel) (by decide +kernel) (fun _ _ _ h => h) (Or.inl ⟨by kernel_rfl, ?_⟩) (by assumption) ?_
        rotate_left
        · (intro w hSw; (try dsimp only at hSw); go_simp <;> with_reducible rfl)
        (try simp only [Act.put, List.setIfInBounds_toArray, List.set_cons_zero, List.set_cons_succ])
        refine wpAnyH_take (i := 22) (oi := _) (v := ?_) rfl (by decide +kernel) (by decide +kernel) (by decide +kernel) (fun _ _ _ h => h) (Or.inl ⟨by kernel_rfl, ?_⟩) (by assumption) ?_
        rotate_left
        · (intro w hSw; (try dsimp only at hSw); go_simp <;> with_reducible rfl)
        (try simp only [Act.put, List.setIfInBounds_toArray, List.set_cons_zero, List.set_cons_succ])
        refine wpAnyH_ready (rs := [20]) (by decide +kernel) (by simp) ?_
        refine AllReadyH.cons (o := _) rfl (fun K hK => ?_) AllReadyH.nil
        (go_simp; go_at_call 25; refine (HSM.out w9 hbw9).mono ?_; rintro e1 w10 ⟨rfl, hb10⟩; have B10 := B9.later hb10; have O10 := O9.later hb10; have hbw10 := below_then hb10 hbw9; have hb610 := below_then hb10 hb69; clear B9 O9 hb10; (try dsimp only))
        refine hK.out _ _ ?_ (fun hHeld => ?_)
        · ((try dsimp only); first | exact SK.out _ (by assumption) (by assumption) | assumption)
        clear hK K
        (try simp only [Act.put, List.setIfInBounds_toArray, List.set_cons_zero, List.set_cons_succ])
        refine wpAnyH_ready (rs := [23]) (by decide +kernel) (by simp) ?_
        refine AllReadyH.cons (o := _) rfl (fun K hK => ?_) AllReadyH.nil
        (go_simp; go_at_call 26; refine (HSR.out w10 hbw10).mono ?_; rintro e1 w11 ⟨rfl, hb11⟩; have B11 := B10.later hb11; have O11 := O10.later hb11; have hbw11 := below_then hb11 hbw10; have hb611 := below_then hb11 hb610; clear B10 O10 hb11; (try dsimp only))
        refine hK.out _ _ ?_ (fun hHeld => ?_)
        · ((try dsimp only); first | exact SK.out _ (by assumption) (by assumption) | assumption)
        clear hK K
        (try simp only [Act.put, List.setIfInBounds_toArray, List.set_cons_zero, List.set_cons_succ])
        refine wpAnyH_take (i := 24) (oi := _) (v := ?_) rfl (by decide +kernel) (by decide +kernel) (by decide +kernel) (fun _ _ _ h => h) (Or.inl ⟨by kernel_rfl, ?_⟩) (by assumption) ?_
        rotate_left
        · (intro w hSw; (try dsimp only at hSw); go_simp <;> with_reducible rfl)
        (try simp only [Act.put, List.setIfInBounds_toArray, List.set_cons_zero, List.set_cons_succ])
        refine wpAnyH_take (i := 25) (oi := _) (v := ?_) rfl (by decide +kernel) (by decide +kernel) (by decide +kernel) (fun _ _ _ h => h) (Or.inl ⟨by kernel_rfl, ?_⟩) (by assumption) ?_
        rotate_left
        · (intro w hSw; (try dsimp only at hSw); go_simp <;> with_reducible rfl)
        (try simp only [Act.put, List.setIfInBounds_toArray, List.set_cons_zero, List.set_cons_succ])
        refine wpAnyH_take (i := 26) (oi := _) (v := ?_) rfl (by decide +kernel) (by decide +kernel) (by decide +kernel) (fun _ _ _ h => h) (Or.inl ⟨by kernel_rfl, ?_⟩) (by assumption) ?_
        rotate_left
        · (intro w hSw; (try dsimp only at hSw); go_simp <;> with_reducible rfl)
        (try simp only [Act.put, List.setIfInBounds_toArray, List.set_cons_zero, List.set_cons_succ])
        refine wpAnyH_take (i := 27) (oi := _) (v := ?_) rfl (by decide +kernel) (by decide +kernel) (by decide +kernel) (fun _ _ _ h => h) (Or.inl ⟨by kernel_rfl, ?_⟩) (by assumption) ?_
        rotate_left
        · (intro w hSw; (try dsimp only at hSw); go_simp <;> with_reducible rfl)
        (try simp only [Act.put, List.setIfInBounds_toArray, List.set_cons_zero, List.set_cons_succ])
        refine wpAnyH_take (i := 29) (oi := _) (v := ?_) rfl (by decide +kernel) (by decide +kernel) (by decide +kernel) (fun _ _ _ h => h) (Or.inl ⟨by kernel_rfl, ?_⟩) (by assumption) ?_
        rotate_left
        · (intro w hSw; (try dsimp only at hSw); go_simp <;> with_reducible rfl)
        (try simp only [Act.put, List.setIfInBounds_toArray, List.set_cons_zero, List.set_cons_succ])
        refine wpAnyH_ready (rs := [28]) (by decide +kernel) (by simp) ?_
        refine AllReadyH.cons (o := _) rfl (fun K hK => ?_) AllReadyH.nil
        (go_simp; go_at_call 27; refine (HCP.out w11 hbw11).mono ?_; rintro e1 w12 ⟨v12, rfl, hr12, hb12⟩; obtain ⟨a12, c12, hv12, hr12', _⟩ := sl_form hr12; simp only [List.cons.injEq, and_true] at hv12; subst hv12; have HC12 := hid (rEntries.mono hr12' (S' := (· < w12.heap.size)) fun q hq => hq.2); have B12 := B11.later hb12; have O12 := O11.later hb12; have hbw12 := below_then hb12 hbw11; have hb612 := below_then hb12 hb611; clear B11 O11 hb12 hr12 hr12'; (try dsimp only))
        refine hK.out _ _ ?_ (fun hHeld => ?_)
        · ((try dsimp only); first | exact SK.out _ (by assumption) (by assumption) | assumption)
        clear hK K
        (try simp only [Act.put, List.setIfInBounds_toArray, List.set_cons_zero, List.set_cons_succ])
        refine wpAnyH_ready (rs := [30]) (by decide +kernel) (by simp) ?_
        refine AllReadyH.cons (o := _) rfl (fun K hK => ?_) AllReadyH.nil
        (go_simp; go_at_call 26; refine (HSC.out w12 hbw12 a12 c12 HC12.out).mono ?_; rintro e1 w13 ⟨rfl, hb13⟩; have B13 := B12.later hb13; have O13 := O12.later hb13; have hbw13 := below_then hb13 hbw12; have hb613 := below_then hb13 hb612; clear B12 O12 hb13; (try dsimp only))
        refine hK.out _ _ ?_ (fun hHeld => ?_)
        · ((try dsimp only); first | exact SK.out _ (by assumption) (by assumption) | assumption)
        clear hK K
        (try simp only [Act.put, List.setIfInBounds_toArray, List.set_cons_zero, List.set_cons_succ])
        refine wpAnyH_take (i := 31) (oi := _) (v := ?_) rfl (by decide +kernel) (by decide +kernel) (by decide +kernel) (fun _ _ _ h => h) (Or.inl ⟨by kernel_rfl, ?_⟩) (by assumption) ?_
        rotate_left
        · (intro w hSw; (try dsimp only at hSw); go_simp <;> with_reducible rfl)
        (try simp only [Act.put, List.setIfInBounds_toArray, List.set_cons_zero, List.set_cons_succ])
        refine wpAnyH_take (i := 32) (oi := _) (v := ?_) rfl (by decide +kernel) (by decide +kernel) (by decide +kernel) (fun _ _ _ h => h) (Or.inl ⟨by kernel_rfl, ?_⟩) (by assumption) ?_
        rotate_left
        · (intro w hSw; (try dsimp only at hSw); go_simp <;> with_reducible rfl)
        (try simp only [Act.put, List.setIfInBounds_toArray, List.set_cons_zero, List.set_cons_succ])
        simp only [List.getElem_toArray, List.getElem_cons_zero, List.getElem_cons_succ, Act.put, List.setIfInBounds_toArray, List.set_cons_zero, List.set_cons_succ]
        refine wpAnyH_done (by kernel_rfl) ?_ _
        obtain ⟨x0, x1, x2, _, _, _, l13⟩ := b_blk B13
        have hb313 := below_then hb613 hb36
        go_wp2_with fail
        refine (HRR.out w13 hbw13).mono ?_
        rintro r w14 ⟨rfl, hb14⟩
        have B14 := B13.later hb14
        have hbw14 := below_then hb14 hbw13
        have hb314 := below_then hb14 hb313
        clear x0 x1 x2 l13 B13 O13 hb14
        obtain ⟨x0, x1, x2, _, _, _, l14⟩ := b_blk B14
        go_wp2_with fail
        refine (live25 _).mono ?_
        rintro r w99 ⟨rfl, hb99⟩
        have hbe := below_then hb99 hbw14
        go_wp2
        go_ret
        exact ⟨rfl, hbe⟩
      · rw [hR] at HRT HRR HBY
        simp only [if_true] at HBY
        have hbl2 := batchB_len hR
        have hvl := (varB_len (total b.entries)).1
        have HRB := hid (fun (W : World) (hW : Below w.heap.size w W) => ref25_bytes W b ab _ cb hbN (lift hbl hW) hR htb)
        have HPUT := hid (fun (W : World) {g base : Nat} {a : Option Addr} {c : Nat} (h : PenAt W g base 65536 [] a c) (hW : rEntries.r (fun q => q < W.heap.size ∧ ¬ PenF g a q) W [.slice ab b.entries.length cb] b.entries) => batch_put W h b ab _ cb hbN hW hR htb (by simp; omega) (by simp; omega))
        generalize decide (b = o) = Q at *
        generalize batchB b = K at *
        obtain ⟨eb, bb, lb⟩ := b
        obtain ⟨eo, bo, lo⟩ := o
        dsimp only at *
        clear hbl hol hlb hlo htb hto hmb hmo hbl2 hvl hR hbN htot
        go_enter Tryz.func3, Tryz.ntmps3
        go_wp2_with fail
        refine (HLB.out _ (by (repeat (first | with_reducible exact Below.refl _ _ | with_reducible assumption | (with_reducible refine below_alloc ?_ _) | (with_reducible refine Below.setCell ?_ (by first | omega | (simp; done) | (simp; omega)) _) | (with_reducible refine Below.drew ?_) | (with_reducible refine below_drewN ?_ _) | (refine below_then (by with_reducible assumption) ?_))))).mono ?_
        rintro r w1 ⟨rfl, hb1⟩
        have B1 := Blk.later ((Blk.newAt w 25 #[.int .u64 eb, .int .u64 bb, .slice ab lb.length cb] rfl).alloc (.cells #[.int .u64 eo, .int .u64 bo, .slice ao lo.length co] 25)) hb1
        have O1 := Blk.later (Blk.newAt (w.alloc (.cells #[.int .u64 eb, .int .u64 bb, .slice ab lb.length cb] 25)) 25 #[.int .u64 eo, .int .u64 bo, .slice ao lo.length co] (g := w.heap.size + 1) (by simp)) hb1
        have hbw1 : Below w.heap.size w w1 := by (repeat (first | with_reducible exact Below.refl _ _ | with_reducible assumption | (with_reducible refine below_alloc ?_ _) | (with_reducible refine Below.setCell ?_ (by first | omega | (simp; done) | (simp; omega)) _) | (with_reducible refine Below.drew ?_) | (with_reducible refine below_drewN ?_ _) | (refine below_then (by with_reducible assumption) ?_)))
        clear hb1

        obtain ⟨x0, x1, x2, _, _, _, l1⟩ := b_blk O1
        go_wp2_with fail
        refine (HLO.out _ hbw1).mono ?_
        rintro r w2 ⟨rfl, hb2⟩
        have B2 := B1.later hb2
        have O2 := O1.later hb2
        have hbw2 := below_then hb2 hbw1
        clear B1 O1 hb2 x0 x1 x2 l1

        obtain ⟨x0, x1, x2, _, _, _, l2⟩ := b_blk B2
        go_wp2_with fail
        refine (HBY.out _ hbw2).mono ?_
        rintro r w3 ⟨v3, rfl, hr3, hb3⟩
        obtain ⟨a3, c3, hv3, hr3', _⟩ := sl_form hr3
        simp only [List.cons.injEq, and_true] at hv3
        subst hv3
        have HS3 := hid (rBytes.mono hr3' (S' := (· < w3.heap.size)) fun q hq => hq.2)
        have hbw3 := below_then hb3 hbw2
        have B3 := B2.later hb3
        have O3 := O2.later hb3
        have HN := hid (pen_new w3 65536 (by omega))
        clear hr3 hr3' B2 O2 x0 x1 x2 l2
        go_wp2_with fail
        refine HN.out.mono ?_
        rintro r w4 ⟨rfl, hp4, hb4⟩
        have B4 := B3.later hb4
        have O4 := O3.later hb4
        have hbw4 := below_then hb4 hbw3
        have hs4 := hb4.size
        obtain ⟨x0, x1, x2, _, _, _, l4⟩ := b_blk B4
        have hg2 : w.heap.size < w3.heap.size := by have := B3.lt; exact this
        have hg3 : w.heap.size + 1 < w3.heap.size := by have := O3.lt; exact this
        have HPT := hid (HPUT.out w4 hp4 (rEntries.mono (rEntries.keep HLL.out fun q hq => hbw4.block q hq) fun q hq => ⟨by have := hbw4.size; omega, fun hf => by have := (hp4.own_lt hf).1; have := hbw3.size; omega⟩))
        have HP4 := hid hp4
        clear hp4
        go_wp2_with fail
        refine HPT.out.mono ?_
        rintro r w5 ⟨rfl, hst⟩
        rw [List.nil_append] at hst
        have hb35 : Below w3.heap.size w3 w5 := hb4.trans (HP4.out.below (Nat.le_refl _) hs4 hst)
        have hbw5 := below_then hb35 hbw3
        have B5 := B3.later hb35
        have O5 := O3.later hb35
        obtain ⟨a5, c5, hp5, _, _⟩ := hst
        have HB5 := hid (pen_bytes w5 hp5)
        clear hp5 x0 x1 x2 l4 B3 O3 B4 O4
        go_wp2_with fail
        refine HB5.out.mono ?_
        rintro r w6 ⟨v6, rfl, hr6, hb56⟩
        obtain ⟨a6, c6, hv6, hr6', _⟩ := sl_form hr6
        simp only [List.cons.injEq, and_true] at hv6
        subst hv6
        have HS6 := hid (rBytes.mono hr6' (S' := (· < w6.heap.size)) fun q hq => hq.2)
        clear hr6 hr6'
        have B6 := B5.later hb56
        have O6 := O5.later hb56
        have hbw6 := below_then hb56 hbw5
        have hb36 : Below w3.heap.size w3 w6 := hb35.trans (hb56.mono hb35.size)
        have hsame := same_bytes K K a6 a3 _ c6 _ c3 w6 HS6.out (lift HS3.out hb36)
        simp only [decide_true] at hsame
        have HSAME := hid hsame
        clear hsame
        go_wp2_with fail
        refine HSAME.out.mono ?_
        rintro r w6' ⟨rfl, rfl⟩
        go_wp2_with fail
        have SK := hid (fun (w' : World) (h2 : Blk w' w.heap.size 25 #[.int .u64 eb, .int .u64 bb, .slice ab lb.length cb]) (h3 : Blk w' (w.heap.size + 1) 25 #[.int .u64 eo, .int .u64 bo, .slice ao lo.length co]) => (⟨h2.cell 0, h2.cell 1, h2.cell 2, h3.cell 0, h3.cell 1, h3.cell 2⟩ : w'.cell? ⟨w.heap.size, 0, none⟩ = some (.int .u64 eb) ∧ w'.cell? ⟨w.heap.size, 1, none⟩ = some (.int .u64 bb) ∧ w'.cell? ⟨w.heap.size, 2, none⟩ = some (.slice ab lb.length cb) ∧ w'.cell? ⟨w.heap.size + 1, 0, none⟩ = some (.int .u64 eo) ∧ w'.cell? ⟨w.heap.size + 1, 1, none⟩ = some (.int .u64 bo) ∧ w'.cell? ⟨w.heap.size + 1, 2, none⟩ = some (.slice ao lo.length co)))
        clear HSAME
        refine wp_region_held_drew (S := fun w' => w'.cell? ⟨w.heap.size, 0, none⟩ = some (.int .u64 eb) ∧ w'.cell? ⟨w.heap.size, 1, none⟩ = some (.int .u64 bb) ∧ w'.cell? ⟨w.heap.size, 2, none⟩ = some (.slice ab lb.length cb) ∧ w'.cell? ⟨w.heap.size + 1, 0, none⟩ = some (.int .u64 eo) ∧ w'.cell? ⟨w.heap.size + 1, 1, none⟩ = some (.int .u64 bo) ∧ w'.cell? ⟨w.heap.size + 1, 2, none⟩ = some (.slice ao lo.length co)) (by kernel_rfl) (SK.out w6 B6 O6) (fun hHeld => ?_)
        refine wpAnyH_take (i := 0) (oi := _) (v := ?_) rfl (by decide +kernel) (by decide +kernel) (by decide +kernel) (fun _ _ _ h => h) (Or.inl ⟨by rfl, ?_⟩) (by assumption) ?_
        rotate_left
        · (intro w hSw; (try dsimp only at hSw); go_simp <;> with_reducible rfl)
        (try simp only [Act.put, List.setIfInBounds_toArray, List.set_cons_zero, List.set_cons_succ])
        refine wpAnyH_take (i := 2) (oi := _) (v := ?_) rfl (by decide +kernel) (by decide +kernel) (by decide +kernel) (fun _ _ _ h => h) (Or.inl ⟨by rfl, ?_⟩) (by assumption) ?_
        rotate_left
        · (intro w hSw; (try dsimp only at hSw); go_simp <;> with_reducible rfl)
        (try simp only [Act.put, List.setIfInBounds_toArray, List.set_cons_zero, List.set_cons_succ])
        refine wpAnyH_ready (rs := [1]) (by decide +kernel) (by simp) ?_
        refine AllReadyH.cons (o := _) rfl (fun K hK => ?_) AllReadyH.nil
        (go_simp; go_at_call 22; refine (HRT.out w6.drew (below_then (Below.refl _ _).drew hbw6)).mono ?_; rintro e1 w7 ⟨rfl, hb7⟩; have hb67 : Below w6.heap.size w6 w7 := below_then hb7 (Below.refl _ _).drew; have B7 := B6.later hb67; have O7 := O6.later hb67; have hbw7 := below_then hb67 hbw6; clear B6 O6 hb7; (try dsimp only))
        refine hK.out _ _ ?_ (fun hHeld => ?_)
        · ((try dsimp only); first | exact SK.out _ (by assumption) (by assumption) | assumption)
        clear hK K
        (try simp only [Act.put, List.setIfInBounds_toArray, List.set_cons_zero, List.set_cons_succ])
        refine wpAnyH_ready (rs := [3]) (by decide +kernel) (by simp) ?_
        refine AllReadyH.cons (o := _) rfl (fun K hK => ?_) AllReadyH.nil
        (go_simp; go_at_call 23; refine (HRR.out w7 hbw7).mono ?_; rintro e1 w8 ⟨rfl, hb8⟩; have B8 := B7.later hb8; have O8 := O7.later hb8; have hbw8 := below_then hb8 hbw7; have hb68 := below_then hb8 hb67; clear B7 O7 hb8; (try dsimp only))
        refine hK.out _ _ ?_ (fun hHeld => ?_)
        · ((try dsimp only); first | exact SK.out _ (by assumption) (by assumption) | assumption)
        clear hK K
        (try simp only [Act.put, List.setIfInBounds_toArray, List.set_cons_zero, List.set_cons_succ])
        refine wpAnyH_take (i := 4) (oi := _) (v := ?_) rfl (by decide +kernel) (by decide +kernel) (by decide +kernel) (fun _ _ _ h => h) (Or.inl ⟨by rfl, ?_⟩) (by assumption) ?_
        rotate_left
        · (intro w hSw; (try dsimp only at hSw); go_simp <;> with_reducible rfl)
        (try simp only [Act.put, List.setIfInBounds_toArray, List.set_cons_zero, List.set_cons_succ])
        refine wpAnyH_take (i := 5) (oi := _) (v := ?_) rfl (by decide +kernel) (by decide +kernel) (by decide +kernel) (fun _ _ _ h => h) (Or.inl ⟨by rfl, ?_⟩) (by assumption) ?_
        rotate_left
        · (intro w hSw; (try dsimp only at hSw); go_simp <;> with_reducible rfl)
        (try simp only [Act.put, List.setIfInBounds_toArray, List.set_cons_zero, List.set_cons_succ])
        refine wpAnyH_take (i := 6) (oi := _) (v := ?_) rfl (by decide +kernel) (by decide +kernel) (by decide +kernel) (fun _ _ _ h => h) (Or.inl ⟨by kernel_rfl, ?_⟩) (by assumption) ?_
        rotate_left
        · (intro w hSw; (try dsimp only at hSw); go_simp <;> with_reducible rfl)
        (try simp only [Act.put, List.setIfInBounds_toArray, List.set_cons_zero, List.set_cons_succ])
        refine wpAnyH_take (i := 8) (oi := _) (v := ?_) rfl (by decide +kernel) (by decide +kernel) (by decide +kernel) (fun _ _ _ h => h) (Or.inl ⟨by kernel_rfl, ?_⟩) (by assumption) ?_
        rotate_left
        · (intro w hSw; (try dsimp only at hSw); go_simp <;> with_reducible rfl)
        (try simp only [Act.put, List.setIfInBounds_toArray, List.set_cons_zero, List.set_cons_succ])
        refine wpAnyH_take (i := 9) (oi := _) (v := ?_) rfl (by decide +kernel) (by decide +kernel) (by decide +kernel) (fun _ _ _ h => h) (Or.inl ⟨by kernel_rfl, ?_⟩) (by assumption) ?_
        rotate_left
        · (intro w hSw; (try dsimp only at hSw); go_simp <;> with_reducible rfl)
        (try simp only [Act.put, List.setIfInBounds_toArray, List.set_cons_zero, List.set_cons_succ])
        refine wpAnyH_take (i := 10) (oi := _) (v := ?_) rfl (by decide +kernel) (by decide +kernel) (by decide +kernel) (fun _ _ _ h => h) (Or.inl ⟨by kernel_rfl, ?_⟩) (by assumption) ?_
        rotate_left
        · (intro w hSw; (try dsimp only at hSw); go_simp <;> with_reducible rfl)
        (try simp only [Act.put, List.setIfInBounds_toArray, List.set_cons_zero, List.set_cons_succ])
        refine wpAnyH_take (i := 11) (oi := _) (v := ?_) rfl (by decide +kernel) (by decide +kernel) (by decide +kernel) (fun _ _ _ h => h) (Or.inl ⟨by kernel_rfl, ?_⟩) (by assumption) ?_
        rotate_left
        · (intro w hSw; (try dsimp only at hSw); go_simp <;> with_reducible rfl)
        (try simp only [Act.put, List.setIfInBounds_toArray, List.set_cons_zero, List.set_cons_succ])
        refine wpAnyH_take (i := 12) (oi := _) (v := ?_) rfl (by decide +kernel) (by decide +kernel) (by decide +kernel) (fun _ _ _ h => h) (Or.inl ⟨by kernel_rfl, ?_⟩) (by assumption) ?_
        rotate_left
        · (intro w hSw; (try dsimp only at hSw); go_simp <;> with_reducible rfl)
        (try simp only [Act.put, List.setIfInBounds_toArray, List.set_cons_zero, List.set_cons_succ])
        refine wpAnyH_take (i := 13) (oi := _) (v := ?_) rfl (by decide +kernel) (by decide +kernel) (by decide +kernel) (fun _ _ _ h => h) (Or.inl ⟨by kernel_rfl, ?_⟩) (by assumption) ?_
        rotate_left
        · (intro w hSw; (try dsimp only at hSw); go_simp <;> with_reducible rfl)
        (try simp only [Act.put, List.setIfInBounds_toArray, List.set_cons_zero, List.set_cons_succ])
        refine wpAnyH_take (i := 14) (oi := _) (v := ?_) rfl (by decide +kernel) (by decide +kernel) (by decide +kernel) (fun _ _ _ h => h) (Or.inl ⟨by kernel_rfl, ?_⟩) (by assumption) ?_
        rotate_left
        · (intro w hSw; (try dsimp only at hSw); go_simp <;> with_reducible rfl)
        (try simp only [Act.put, List.setIfInBounds_toArray, List.set_cons_zero, List.set_cons_succ])
        (try rw [HWL.out])
        generalize IntKind.u64.wrap (bb + (lb.length : Int)) = EV at *
        refine wpAnyH_ready (rs := [7]) (by decide +kernel) (by simp) ?_
        refine AllReadyH.cons (o := _) rfl (fun K hK => ?_) AllReadyH.nil
        (go_simp; go_at_call 24; refine (HEN.out w8).mono ?_; rintro e1 w9 ⟨rfl, hb9⟩; have B9 := B8.later hb9; have O9 := O8.later hb9; have hbw9 := below_then hb9 hbw8; have hb69 := below_then hb9 hb68; clear B8 O8 hb9; (try dsimp only))
        refine hK.out _ _ ?_ (fun hHeld => ?_)
        · ((try dsimp only); first | exact SK.out _ (by assumption) (by assumption) | assumption)
        clear hK K
        (try simp only [Act.put, List.setIfInBounds_toArray, List.set_cons_zero, List.set_cons_succ])
        refine wpAnyH_take (i := 15) (oi := _) (v := ?_) rfl (by decide +kernel) (by decide +kernel) (by decide +kernel) (fun _ _ _ h => h) (Or.inl ⟨by kernel_rfl, ?_⟩) (by assumption) ?_
        rotate_left
        · (intro w hSw; (try dsimp only at hSw); go_simp <;> with_reducible rfl)
        (try simp only [Act.put, List.setIfInBounds_toArray, List.set_cons_zero, List.set_cons_succ])
        refine wpAnyH_take (i := 16) (oi := _) (v := ?_) rfl (by decide +kernel) (by decide +kernel) (by decide +kernel) (fun _ _ _ h => h) (Or.inl ⟨by kernel_rfl, ?_⟩) (by assumption) ?_
        rotate_left
        · (intro w hSw; (try dsimp only at hSw); go_simp <;> with_reducible rfl)
        (try simp only [Act.put, List.setIfInBounds_toArray, List.set_cons_zero, List.set_cons_succ])
        refine wpAnyH_take (i := 17) (oi := _) (v := ?_) rfl (by decide +kernel) (by decide +kernel) (by decide +kernel) (fun _ _ _ h => h) (Or.inl ⟨by kernel_rfl, ?_⟩) (by assumption) ?_
        rotate_left
        · (intro w hSw; (try dsimp only at hSw); go_simp <;> with_reducible rfl)
        (try simp only [Act.put, List.setIfInBounds_toArray, List.set_cons_zero, List.set_cons_succ])
        refine wpAnyH_take (i := 18) (oi := _) (v := ?_) rfl (by decide +kernel) (by decide +kernel) (by decide +kernel) (fun _ _ _ h => h) (Or.inl ⟨by kernel_rfl, ?_⟩) (by assumption) ?_
        rotate_left
        · (intro w hSw; (try dsimp only at hSw); go_simp <;> with_reducible rfl)
        (try simp only [Act.put, List.setIfInBounds_toArray, List.set_cons_zero, List.set_cons_succ])
        refine wpAnyH_take (i := 19) (oi := _) (v := ?_) rfl (by decide +kernel) (by decide +kernel) (by decide +kernel) (fun _ _ _ h => h) (Or.inl ⟨by kernel_rfl, ?_⟩) (by assumption) ?_
        rotate_left
        · (intro w hSw; (try dsimp only at hSw); go_simp <;> with_reducible rfl)
        (try simp only [Act.put, List.setIfInBounds_toArray, List.set_cons_zero, List.set_cons_succ])
        refine wpAnyH_take (i := 21) (oi := _) (v := ?_) rfl (by decide +kernel) (by decide +kernel) (by decide +kernel) (fun _ _ _ h => h) (Or.inl ⟨by kernel_rfl, ?_⟩) (by assumption) ?_
        rotate_left
        · (intro w hSw; (try dsimp only at hSw); go_simp <;> with_reducible rfl)
        (try simp only [Act.put, List.setIfInBounds_toArray, List.set_cons_zero, List.set_cons_succ])
        refine wpAnyH_take (i := 22) (oi := _) (v := ?_) rfl (by decide +kernel) (by decide +kernel) (by decide +kernel) (fun _ _ _ h => h) (Or.inl ⟨by kernel_rfl, ?_⟩) (by assumption) ?_
        rotate_left
        · (intro w hSw; (try dsimp only at hSw); go_simp <;> with_reducible rfl)
        (try simp only [Act.put, List.setIfInBounds_toArray, List.set_cons_zero, List.set_cons_succ])
        refine wpAnyH_ready (rs := [20]) (by decide +kernel) (by simp) ?_
        refine AllReadyH.cons (o := _) rfl (fun K hK => ?_) AllReadyH.nil
        (go_simp; go_at_call 25; refine (HSM.out w9 hbw9).mono ?_; rintro e1 w10 ⟨rfl, hb10⟩; have B10 := B9.later hb10; have O10 := O9.later hb10; have hbw10 := below_then hb10 hbw9; have hb610 := below_then hb10 hb69; clear B9 O9 hb10; (try dsimp only))
        refine hK.out _ _ ?_ (fun hHeld => ?_)
        · ((try dsimp only); first | exact SK.out _ (by assumption) (by assumption) | assumption)
        clear hK K
        (try simp only [Act.put, List.setIfInBounds_toArray, List.set_cons_zero, List.set_cons_succ])
        refine wpAnyH_ready (rs := [23]) (by decide +kernel) (by simp) ?_
        refine AllReadyH.cons (o := _) rfl (fun K hK => ?_) AllReadyH.nil
        (go_simp; go_at_call 26; refine (HSR.out w10 hbw10).mono ?_; rintro e1 w11 ⟨rfl, hb11⟩; have B11 := B10.later hb11; have O11 := O10.later hb11; have hbw11 := below_then hb11 hbw10; have hb611 := below_then hb11 hb610; clear B10 O10 hb11; (try dsimp only))
        refine hK.out _ _ ?_ (fun hHeld => ?_)
        · ((try dsimp only); first | exact SK.out _ (by assumption) (by assumption) | assumption)
        clear hK K
        (try simp only [Act.put, List.setIfInBounds_toArray, List.set_cons_zero, List.set_cons_succ])
        refine wpAnyH_take (i := 24) (oi := _) (v := ?_) rfl (by decide +kernel) (by decide +kernel) (by decide +kernel) (fun _ _ _ h => h) (Or.inl ⟨by kernel_rfl, ?_⟩) (by assumption) ?_
        rotate_left
        · (intro w hSw; (try dsimp only at hSw); go_simp <;> with_reducible rfl)
        (try simp only [Act.put, List.setIfInBounds_toArray, List.set_cons_zero, List.set_cons_succ])
        refine wpAnyH_take (i := 25) (oi := _) (v := ?_) rfl (by decide +kernel) (by decide +kernel) (by decide +kernel) (fun _ _ _ h => h) (Or.inl ⟨by kernel_rfl, ?_⟩) (by assumption) ?_
        rotate_left
        · (intro w hSw; (try dsimp only at hSw); go_simp <;> with_reducible rfl)
        (try simp only [Act.put, List.setIfInBounds_toArray, List.set_cons_zero, List.set_cons_succ])
        refine wpAnyH_take (i := 26) (oi := _) (v := ?_) rfl (by decide +kernel) (by decide +kernel) (by decide +kernel) (fun _ _ _ h => h) (Or.inl ⟨by kernel_rfl, ?_⟩) (by assumption) ?_
        rotate_left
        · (intro w hSw; (try dsimp only at hSw); go_simp <;> with_reducible rfl)
        (try simp only [Act.put, List.setIfInBounds_toArray, List.set_cons_zero, List.set_cons_succ])
        refine wpAnyH_take (i := 27) (oi := _) (v := ?_) rfl (by decide +kernel) (by decide +kernel) (by decide +kernel) (fun _ _ _ h => h) (Or.inl ⟨by kernel_rfl, ?_⟩) (by assumption) ?_
        rotate_left
        · (intro w hSw; (try dsimp only at hSw); go_simp <;> with_reducible rfl)
        (try simp only [Act.put, List.setIfInBounds_toArray, List.set_cons_zero, List.set_cons_succ])
        refine wpAnyH_take (i := 29) (oi := _) (v := ?_) rfl (by decide +kernel) (by decide +kernel) (by decide +kernel) (fun _ _ _ h => h) (Or.inl ⟨by kernel_rfl, ?_⟩) (by assumption) ?_
        rotate_left
        · (intro w hSw; (try dsimp only at hSw); go_simp <;> with_reducible rfl)
        (try simp only [Act.put, List.setIfInBounds_toArray, List.set_cons_zero, List.set_cons_succ])
        refine wpAnyH_ready (rs := [28]) (by decide +kernel) (by simp) ?_
        refine AllReadyH.cons (o := _) rfl (fun K hK => ?_) AllReadyH.nil
        (go_simp; go_at_call 27; refine (HCP.out w11 hbw11).mono ?_; rintro e1 w12 ⟨v12, rfl, hr12, hb12⟩; obtain ⟨a12, c12, hv12, hr12', _⟩ := sl_form hr12; simp only [List.cons.injEq, and_true] at hv12; subst hv12; have HC12 := hid (rEntries.mono hr12' (S' := (· < w12.heap.size)) fun q hq => hq.2); have B12 := B11.later hb12; have O12 := O11.later hb12; have hbw12 := below_then hb12 hbw11; have hb612 := below_then hb12 hb611; clear B11 O11 hb12 hr12 hr12'; (try dsimp only))
        refine hK.out _ _ ?_ (fun hHeld => ?_)
        · ((try dsimp only); first | exact SK.out _ (by assumption) (by assumption) | assumption)
        clear hK K
        (try simp only [Act.put, List.setIfInBounds_toArray, List.set_cons_zero, List.set_cons_succ])
        refine wpAnyH_ready (rs := [30]) (by decide +kernel) (by simp) ?_
        refine AllReadyH.cons (o := _) rfl (fun K hK => ?_) AllReadyH.nil
        (go_simp; go_at_call 26; refine (HSC.out w12 hbw12 a12 c12 HC12.out).mono ?_; rintro e1 w13 ⟨rfl, hb13⟩; have B13 := B12.later hb13; have O13 := O12.later hb13; have hbw13 := below_then hb13 hbw12; have hb613 := below_then hb13 hb612; clear B12 O12 hb13; (try dsimp only))
        refine hK.out _ _ ?_ (fun hHeld => ?_)
        · ((try dsimp only); first | exact SK.out _ (by assumption) (by assumption) | assumption)
        clear hK K
        (try simp only [Act.put, List.setIfInBounds_toArray, List.set_cons_zero, List.set_cons_succ])
        refine wpAnyH_take (i := 31) (oi := _) (v := ?_) rfl (by decide +kernel) (by decide +kernel) (by decide +kernel) (fun _ _ _ h => h) (Or.inl ⟨by kernel_rfl, ?_⟩) (by assumption) ?_
        rotate_left
        · (intro w hSw; (try dsimp only at hSw); go_simp <;> with_reducible rfl)
        (try simp only [Act.put, List.setIfInBounds_toArray, List.set_cons_zero, List.set_cons_succ])
        refine wpAnyH_take (i := 32) (oi := _) (v := ?_) rfl (by decide +kernel) (by decide +kernel) (by decide +kernel) (fun _ _ _ h => h) (Or.inl ⟨by kernel_rfl, ?_⟩) (by assumption) ?_
        rotate_left
        · (intro w hSw; (try dsimp only at hSw); go_simp <;> with_reducible rfl)
        (try simp only [Act.put, List.setIfInBounds_toArray, List.set_cons_zero, List.set_cons_succ])
        simp only [List.getElem_toArray, List.getElem_cons_zero, List.getElem_cons_succ, Act.put, List.setIfInBounds_toArray, List.set_cons_zero, List.set_cons_succ]
        refine wpAnyH_done (by kernel_rfl) ?_ _
        obtain ⟨x0, x1, x2, _, _, _, l13⟩ := b_blk B13
        have hb313 := below_then hb613 hb36
        go_wp2_with fail
        refine (HRR.out w13 hbw13).mono ?_
        rintro r w14 ⟨rfl, hb14⟩
        have B14 := B13.later hb14
        have hbw14 := below_then hb14 hbw13
        have hb314 := below_then hb14 hb313
        clear x0 x1 x2 l13 B13 O13 hb14
        obtain ⟨x0, x1, x2, _, _, _, l14⟩ := b_blk B14
        go_wp2_with fail
        refine (HRB.out w14 hbw14).mono ?_
        rintro r w15 ⟨v15, rfl, hv15, hb15⟩
        obtain ⟨a15, c15, rfl⟩ := own_form hv15
        have hbw15 := below_then hb15 hbw14
        have hs15 := same_bytes K K a3 a15 _ c3 _ c15 w15 (lift HS3.out (below_then hb15 hb314)) (own_bytes rfl hv15)
        simp only [decide_true] at hs15
        have HS15 := hid hs15
        clear hs15 hv15 x0 x1 x2 l14 B14 hb15
        go_wp2_with fail
        refine HS15.out.mono ?_
        rintro r w15' ⟨rfl, rfl⟩

        go_wp2_with fail
        refine (live25 _).mono ?_
        rintro r w99 ⟨rfl, hb99⟩
        have hbe := below_then hb99 hbw15
        go_wp2
        go_ret
        exact ⟨rfl, hbe⟩
    · rw [hlo] at HLO
      obtain ⟨eb, bb, lb⟩ := b
      obtain ⟨eo, bo, lo⟩ := o
      dsimp only at *
      clear hbl hol hlb hlo hbN
      go_enter Tryz.func3, Tryz.ntmps3
      go_wp2_with fail
      refine (HLB.out _ (by (repeat (first | with_reducible exact Below.refl _ _ | with_reducible assumption | (with_reducible refine below_alloc ?_ _) | (with_reducible refine Below.setCell ?_ (by first | omega | (simp; done) | (simp; omega)) _) | (with_reducible refine Below.drew ?_) | (with_reducible refine below_drewN ?_ _) | (refine below_then (by with_reducible assumption) ?_))))).mono ?_
      rintro r w1 ⟨rfl, hb1⟩
      have B1 := Blk.later ((Blk.newAt w 25 #[.int .u64 eb, .int .u64 bb, .slice ab lb.length cb] rfl).alloc (.cells #[.int .u64 eo, .int .u64 bo, .slice ao lo.length co] 25)) hb1
      have O1 := Blk.later (Blk.newAt (w.alloc (.cells #[.int .u64 eb, .int .u64 bb, .slice ab lb.length cb] 25)) 25 #[.int .u64 eo, .int .u64 bo, .slice ao lo.length co] (g := w.heap.size + 1) (by simp)) hb1
      have hbw1 : Below w.heap.size w w1 := by (repeat (first | with_reducible exact Below.refl _ _ | with_reducible assumption | (with_reducible refine below_alloc ?_ _) | (with_reducible refine Below.setCell ?_ (by first | omega | (simp; done) | (simp; omega)) _) | (with_reducible refine Below.drew ?_) | (with_reducible refine below_drewN ?_ _) | (refine below_then (by with_reducible assumption) ?_)))
      clear hb1

      obtain ⟨x0, x1, x2, _, _, _, l1⟩ := b_blk O1
      go_wp2_with fail
      refine (HLO.out _ hbw1).mono ?_
      rintro r w2 ⟨rfl, hb2⟩
      have B2 := B1.later hb2
      have O2 := O1.later hb2
      have hbw2 := below_then hb2 hbw1
      clear B1 O1 hb2 x0 x1 x2 l1

      go_wp2_with fail
      refine (live25 _).mono ?_
      rintro r w99 ⟨rfl, hb99⟩
      have hbe := below_then hb99 hbw2
      go_wp2
      go_ret
      exact ⟨rfl, hbe⟩
  · rw [hlb] at HLB
    obtain ⟨eb, bb, lb⟩ := b
    obtain ⟨eo, bo, lo⟩ := o
    dsimp only at *
    clear hbl hol hlb hbN
    go_enter Tryz.func3, Tryz.ntmps3
    go_wp2_with fail
    refine (HLB.out _ (by (repeat (first | with_reducible exact Below.refl _ _ | with_reducible assumption | (with_reducible refine below_alloc ?_ _) | (with_reducible refine Below.setCell ?_ (by first | omega | (simp; done) | (simp; omega)) _) | (with_reducible refine Below.drew ?_) | (with_reducible refine below_drewN ?_ _) | (refine below_then (by with_reducible assumption) ?_))))).mono ?_
    rintro r w1 ⟨rfl, hb1⟩
    have B1 := Blk.later ((Blk.newAt w 25 #[.int .u64 eb, .int .u64 bb, .slice ab lb.length cb] rfl).alloc (.cells #[.int .u64 eo, .int .u64 bo, .slice ao lo.length co] 25)) hb1
    have O1 := Blk.later (Blk.newAt (w.alloc (.cells #[.int .u64 eb, .int .u64 bb, .slice ab lb.length cb] 25)) 25 #[.int .u64 eo, .int .u64 bo, .slice ao lo.length co] (g := w.heap.size + 1) (by simp)) hb1
    have hbw1 : Below w.heap.size w w1 := by (repeat (first | with_reducible exact Below.refl _ _ | with_reducible assumption | (with_reducible refine below_alloc ?_ _) | (with_reducible refine Below.setCell ?_ (by first | omega | (simp; done) | (simp; omega)) _) | (with_reducible refine Below.drew ?_) | (with_reducible refine below_drewN ?_ _) | (refine below_then (by with_reducible assumption) ?_)))
    clear hb1

    go_wp2_with fail
    refine (live25 _).mono ?_
    rintro r w99 ⟨rfl, hb99⟩
    have hbe := below_then hb99 hbw1
    go_wp2
    go_ret
    exact ⟨rfl, hbe⟩

set_option maxRecDepth 100000 in
theorem batch_arg {H : Type} (enc : TypeId × Value → H) (W : World) (base : Nat) (v0 : Value) (d0 : DataW H) (p0 : List MemPlace)
    (k0 : DataW.Trod enc Tryz.prog W 0 (fun _ => true) true 25 v0 d0 p0) (o0 : Value.okWide Tryz.prog W .any base 25 v0) :
    ∃ (b : Batch) (a : Option Addr) (n c : Nat), v0 = .agg #[.int .u64 b.epoch, .int .u64 b.base, .slice a n c] ∧ rBatch.r (· < W.heap.size) W [.int .u64 b.epoch, .int .u64 b.base, .slice a n c] b := by
  obtain ⟨fuel, hf⟩ := k0
  obtain ⟨cs, rfl, hsz⟩ := Go.WideShapes.okWide_struct Tryz.underlying25 o0
  obtain ⟨u, hu⟩ := o_batch enc W fuel _ _ hf
  obtain ⟨a, c, hcs, h0, h1, hl⟩ := batch_cells hu
  have e : cs = #[.int .u64 u.epoch, .int .u64 u.base, .slice a u.entries.length c] := by
    have := hcs
    simp only [Value.cells] at this
    exact Array.ext' this
  exact ⟨u, a, _, c, by rw [e], by rw [← hcs]; exact hu⟩
set_option maxRecDepth 100000 in
theorem batchWrites_walk {H : Type} (enc : TypeId × Value → H) (W : World) (base : Nat) (v0 v1 : Value) (d0 d1 : DataW H) (p0 p1 : List MemPlace)
    (k0 : DataW.Trod enc Tryz.prog W 0 (fun _ => true) true 25 v0 d0 p0) (k1 : DataW.Trod enc Tryz.prog W 0 (fun _ => true) true 25 v1 d1 p1)
    (o0 : Value.okWide Tryz.prog W .any base 25 v0) (o1 : Value.okWide Tryz.prog W .any base 25 v1) :
    Calls Tryz.prog 3 #[v0, v1] W fun e w' => e = .returned (.bool true) ∧ Below W.heap.size W w' := by
  obtain ⟨b, a, n, c, rfl, hb⟩ := batch_arg enc W base v0 d0 p0 k0 o0
  obtain ⟨o, a', n', c', rfl, ho⟩ := batch_arg enc W base v1 d1 p1 k1 o1
  exact batchWrites_c b o a a' n c n' c' W hb ho
end Go.Proofs.YtkipiefcnjfdjaaGreat
