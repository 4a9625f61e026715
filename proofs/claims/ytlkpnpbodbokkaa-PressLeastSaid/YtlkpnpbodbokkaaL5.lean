/- Needed by pressLeast_walk, part 5: texts put together by shake.py; no condition. -/
import Derived.Test.YtlkpnpbodbokkaaProg
import Derived.WalkKit
import Derived.Deep.Cut
import Derived.BigQuiet
import Derived.Laws.Runes
import Derived.Laws.MakeOwn
import Derived.Test.YtlkpnpbodbokkaaL3
import Derived.Test.YtlkpnpbodbokkaaL4
import Derived.Test.YtlkpnpbodbokkaaL2
namespace Go.Proofs.Ytlkpnpbodbokkaa
open Go.RowKit Go.Bs
set_option linter.unusedVariables false
set_option linter.unusedSimpArgs false
-- KEEP ((try dsimp only); first | assumption | (go_keep; done))

/-- The least while the copies of a place are gone through. -/
def mo (b : List UInt8) (J p o best : Nat) : Nat → Nat
  | 0 => best
  | j + 1 => min (mo b J p o best j) (csz o (4 + j) + (Wf b J (p + (4 + j))).1)
def ma (b : List UInt8) (J p : Nat) : Nat → Nat
  | 0 => J
  | k + 1 => mo b J p (k + 1) (ma b J p k) (mlen b p (k + 1) - 3)
def mr (b : List UInt8) (J p : Nat) : Nat → Nat
  | 0 => (Wc b J p).1
  | k + 1 => min (mr b J p k) (rsz (k + 1) + (Wc b J (p + (k + 1))).1)
theorem mo_le (b : List UInt8) (J p o best : Nat) : ∀ j, mo b J p o best j ≤ best ∧ ∀ i, i < j → mo b J p o best j ≤ csz o (4 + i) + (Wf b J (p + (4 + i))).1
  | 0 => ⟨Nat.le_refl _, fun i h => by omega⟩
  | j + 1 => by
    have h := mo_le b J p o best j
    unfold mo
    refine ⟨Nat.le_trans (Nat.min_le_left _ _) h.1, fun i hi => ?_⟩
    by_cases e : i = j
    · subst e; exact Nat.min_le_right _ _
    · exact Nat.le_trans (Nat.min_le_left _ _) (h.2 i (by omega))
theorem ma_le (b : List UInt8) (J p : Nat) : ∀ k, ma b J p k ≤ J ∧ ∀ o n, 1 ≤ o → o ≤ k → 4 ≤ n → n ≤ mlen b p o → ma b J p k ≤ csz o n + (Wf b J (p + n)).1
  | 0 => ⟨Nat.le_refl _, fun o n h1 h2 => by omega⟩
  | k + 1 => by
    have h := ma_le b J p k
    have hm := mo_le b J p (k + 1) (ma b J p k) (mlen b p (k + 1) - 3)
    unfold ma
    refine ⟨Nat.le_trans hm.1 h.1, fun o n h1 h2 h3 h4 => ?_⟩
    by_cases e : o = k + 1
    · subst e
      have := hm.2 (n - 4) (by omega)
      rw [show 4 + (n - 4) = n by omega] at this
      exact this
    · exact Nat.le_trans hm.1 (h.2 o n h1 (by omega) h3 h4)
theorem mo_ge (b : List UInt8) (J p o best x : Nat) (hb : x ≤ best) : ∀ j, (∀ i, i < j → x ≤ csz o (4 + i) + (Wf b J (p + (4 + i))).1) → x ≤ mo b J p o best j
  | 0, _ => hb
  | j + 1, h => by
    unfold mo
    exact Nat.le_min.2 ⟨mo_ge b J p o best x hb j (fun i hi => h i (by omega)), h j (by omega)⟩
theorem ma_ge (b : List UInt8) (J p : Nat) (hp : p < b.length) (hb : b.length ≤ 60) : ∀ k, k ≤ p → (Wc b J p).1 ≤ ma b J p k
  | 0, _ => Wc_le b J p
  | k + 1, hk => by
    unfold ma
    refine mo_ge b J p (k + 1) _ _ (ma_ge b J p hp hb k (by omega)) _ (fun i hi => Wc_copy b J p (k + 1) (4 + i) hp ⟨by dsimp only; omega, by dsimp only; unfold reach; omega, by dsimp only; omega, by dsimp only; omega⟩)
theorem ma_is (b : List UInt8) (J p : Nat) (hp : p < b.length) (hb : b.length ≤ 60) : ma b J p p = (Wc b J p).1 := by
  apply Nat.le_antisymm
  · have h := ma_le b J p p
    rcases Wc_is b J p hb hp with e | ⟨o, n, hc, e⟩
    · rw [e]; exact h.1
    · rw [e]
      exact h.2 o n hc.1 (by have := hc.2.1; unfold reach at this; dsimp only at this; omega) hc.2.2.1 hc.2.2.2
  · exact ma_ge b J p hp hb p (Nat.le_refl _)
theorem mr_is (b : List UInt8) (J p : Nat) : ∀ k, (wbs (Wc b J p) (rList b J p k)).1 = mr b J p k
  | 0 => rfl
  | k + 1 => by
    rw [rList_snoc]
    unfold mr
    rw [← mr_is b J p k]
    unfold wb
    dsimp only
    split <;> omega
theorem mr_end (b : List UInt8) (J p : Nat) (hp : p < b.length) : mr b J p (b.length - p) = (Wf b J p).1 := by
  rw [← mr_is, ← (W_step b J p hp).2]
/-- A row of numbers. -/
def intA (f : Nat → Nat) (n : Nat) : Array Value := (Array.range n).map fun k => .int .i64 (f k : Int)
theorem intA_get (f : Nat → Nat) (n i : Nat) (h : i < n) : (intA f n)[i]? = some (.int .i64 (f i : Int)) := by
  unfold intA; rw [Array.getElem?_map, Array.getElem?_range, if_pos h]; rfl
theorem intA_set (f : Nat → Nat) (n i x : Nat) (h : i < n) : (intA f n).setIfInBounds i (.int .i64 (x : Int)) = intA (fun k => if k = i then x else f k) n := by
  apply Array.ext_getElem?
  intro k
  have hs : ∀ g, (intA g n)[k]? = if k < n then some (.int .i64 (g k : Int)) else none := fun g => by
    unfold intA; rw [Array.getElem?_map, Array.getElem?_range]; split <;> rfl
  rw [Array.getElem?_setIfInBounds, hs, hs, show (intA f n).size = n by simp [intA]]
  by_cases e : i = k
  · subst e; rw [if_pos rfl, if_pos h, if_pos h, if_pos rfl]
  · rw [if_neg e]
    split
    · rw [if_neg (by omega)]
    · rfl
theorem intA_made (n : Nat) : madeCells #[.int .i64 0] (n * 1) = intA (fun _ => 0) n := by
  unfold madeCells intA
  rw [Nat.mul_one]
  apply Array.ext'
  simp only [Array.toList_map]
  apply List.map_congr_left
  intro k _
  have : k % 1 = 0 := Nat.mod_one k
  show (#[Value.int .i64 0])[k % 1]! = _
  rw [this]; rfl
theorem intA_congr (f g : Nat → Nat) (n : Nat) (h : ∀ i, i < n → f i = g i) : intA f n = intA g n := by
  unfold intA
  apply Array.ext'
  simp only [Array.toList_map]
  apply List.map_congr_left
  intro k hk
  rw [h k (by simpa using hk)]
def fromN (g : Nat → W3) (q : Nat) : Nat → Nat := fun i => if q ≤ i then (g i).1 else 0
theorem fromN_set (g : Nat → W3) (q n : Nat) : intA (fun k => if k = q then (g q).1 else fromN g (q + 1) k) n = intA (fromN g q) n := by
  apply intA_congr
  intro i _
  unfold fromN
  by_cases h : i = q
  · subst h; rw [if_pos rfl, if_pos (Nat.le_refl _)]
  · rw [if_neg h]
    by_cases h2 : q ≤ i
    · rw [if_pos h2, if_pos (by omega)]
    · rw [if_neg h2, if_neg (by omega)]
theorem wInfoI : (Try.prog.info? 3).map (fun i => (i.zero, i.size, i.bytes)) = some (some (.int .i64 0), 1, 8) := by kernel_rfl
theorem tok_lone {w : World} {g : Nat} {v : Value} {x : Tok} (h : Blk w g 33 #[v, .int .i64 x.off, .int .i64 x.len]) (hx : rTok.r (· < w.heap.size) w [v, .int .i64 x.off, .int .i64 x.len] x) : rToks.r (· < w.heap.size) w [.slice (some ⟨g, 0, none⟩) 1 1] [x] := by
  refine rSl_mk rfl (Nat.le_refl _) (by decide) (.inr ⟨g, 0, rfl, h.lt, fun i y hi => ?_⟩)
  have hi0 : i = 0 := by
    rcases i with _ | i
    · rfl
    · simp at hi
  subst hi0
  simp at hi
  subst hi
  refine ⟨_, rfl, fun j u hj => ?_, hx⟩
  simp only [Nat.zero_mul, Nat.zero_add]
  rw [h.cell j, ← hj]
  rcases j with _ | _ | _ | j <;> rfl

/-- The tables while they are filled. -/
structure LeaS (b : List UInt8) (J : Nat) (w W : World) (q : Nat) : Prop where
  below : Below w.heap.size w W
  free : Blk W w.heap.size 3 (intA (fromN (Wf b J) q) (b.length + 1))
  run : Blk W (w.heap.size + 1) 3 (intA (fromN (Wc b J) q) (b.length + 1))

set_option maxRecDepth 100000 in
set_option maxHeartbeats 6400000 in
theorem ref15_least (b : List UInt8) (hb : b.length ≤ 60) (a : Option Addr) (n c : Nat) (w : World) (hl : rBytes.r (· < w.heap.size) w [.slice a n c] b) :
    Calls Try.prog 5 #[.slice a n c] w fun r w' => r = .returned (.int .i64 ((Wf b 1000000 0).1 : Int)) ∧ Below w.heap.size w w' := by
  obtain ⟨rfl, hm, _, _⟩ := sl_len hl
  obtain ⟨i0, hi, hz0, hz1, hz2⟩ := info_parts wInfoI
  obtain ⟨N, hN⟩ : ∃ N, N = b.length + 1 := ⟨_, rfl⟩
  have eN : (b.length : Int) + 1 = (N : Int) := by omega
  have hmk : ∀ W : World, (Instr.makeSlice 40 (.int .i64 (N : Int)) (.int .i64 (N : Int))).run Try.prog W = .ok (.slice (some ⟨W.heap.size, 0, none⟩) N N) (W.alloc (.cells (intA (fun _ => 0) N) 3)) := fun W => by
    have := run_make (P := Try.prog) (w := W) 40 3 i0 _ Try.underlying40 hi hz0 .i64 .i64 (N : Int) (N : Int) (by omega) (by omega) (by rw [hz2]; omega) (by omega)
    rw [hz1] at this
    simp only [Int.toNat_natCast] at this
    rw [this, ← intA_made]
    rfl
  have HL := hid hl
  have HN := hid hN
  have hN61 : N ≤ 61 := by omega
  have hNb : b.length < N := by omega
  have hN0 : (0 : Int) < (N : Int) := by omega
  clear hl hN
  go_enter Try.func5, Try.ntmps5
  go_wp2_with fail
  go_loopw [5] (fun i wr => ∃ q : Nat, q ≤ b.length ∧ i = .int .i64 ((q : Int) - 1) ∧ LeaS b 1000000 w wr q) (fun i _ => (intOf i + 1).toNat)
  case atStart =>
    have e0 : ∀ g : Nat → W3, (g b.length).1 = 0 → intA (fromN g b.length) N = intA (fun _ => 0) N := fun g hg => by
      apply intA_congr
      intro i hi
      rw [HN.out] at hi
      unfold fromN
      by_cases h : b.length ≤ i
      · rw [if_pos h, show i = b.length by omega, hg]
      · rw [if_neg h]
    refine ⟨b.length, Nat.le_refl _, rfl, ?_, ?_, ?_⟩
    · (repeat (first | exact Below.refl _ _ | assumption | (refine below_alloc ?_ _) | (refine Below.setCell ?_ (by first | omega | (simp; done) | (simp; omega)) _) | (refine Below.drew ?_) | (refine below_drewN ?_ _) | (refine below_then (by assumption) ?_)))
    · rw [← HN.out, e0 _ (by rw [(W_end b _ _ (Nat.le_refl _)).1])]; (repeat (first | assumption | exact Blk.newAt _ _ _ (by first | (simp; done) | (simp; omega)) | refine Blk.alloc ?_ _ | refine Blk.drew ?_ | refine Blk.drewN ?_ _ | refine Blk.far ?_ (by first | (simp; done) | (simp; omega)) _))
    · rw [← HN.out, e0 _ (by rw [(W_end b _ _ (Nat.le_refl _)).2])]; (repeat (first | assumption | exact Blk.newAt _ _ _ (by first | (simp; done) | (simp; omega)) | refine Blk.alloc ?_ _ | refine Blk.drew ?_ | refine Blk.drewN ?_ _ | refine Blk.far ?_ (by first | (simp; done) | (simp; omega)) _))
  case round =>
    obtain ⟨q, hq, rfl, hS⟩ := hrel
    by_cases hq0 : 0 < q
    · obtain ⟨wo, hwo⟩ : ∃ wo : World, wo = wr := ⟨_, rfl⟩
      subst hwo
      obtain ⟨p, rfl⟩ : ∃ p, q = p + 1 := ⟨q - 1, by omega⟩
      have ep : (((p + 1 : Nat) : Int) - 1) = (p : Int) := by omega
      rw [ep]
      have HS := hid hS
      have hfl := hS.free.lt
      have hrl := hS.run.lt
      have HM := hid (fun (k : Nat) (hk : k + 1 ≤ 1048577) (W : World) (hW : Below w.heap.size w W) => ref14_match1 b p (k + 1) a b.length c W (lift HL.out hW) (by omega) (by omega) hk)
      have HR0 := hid (Below.refl wo.heap.size wo)
      clear hS ep
      go_wp2_with fail
      go_loopw [6, 7] (fun be off wr => ∃ k : Nat, k ≤ p ∧ off = .int .i64 ((k : Int) + 1) ∧ be = .int .i64 (ma b 1000000 p k : Int) ∧ Below wo.heap.size wo wr) (fun _ off _ => p + 1 - (intOf off).toNat)
      case atStart => exact ⟨0, by omega, rfl, rfl, HR0.out⟩
      case round =>
        obtain ⟨k, hk, rfl, rfl, hbk⟩ := hrel
        by_cases hkp : k < p
        · have i1 : decide ((k : Int) + 1 ≤ (p : Int)) = true := decide_eq_true (by omega)
          have HBk := hid hbk
          have hma := (ma_le b 1000000 p k).1
          have HMA : Hid (ma b 1000000 p (k + 1) = mo b 1000000 p (k + 1) (ma b 1000000 p k) (mlen b p (k + 1) - 3)) := hid rfl
          have HMO0 : Hid (mo b 1000000 p (k + 1) (ma b 1000000 p k) 0 = ma b 1000000 p k) := hid rfl
          have HMOs : Hid (∀ j, mo b 1000000 p (k + 1) (ma b 1000000 p k) (j + 1) = min (mo b 1000000 p (k + 1) (ma b 1000000 p k) j) (csz (k + 1) (4 + j) + (Wf b 1000000 (p + (4 + j))).1)) := hid fun j => rfl
          have HMOl : Hid (∀ j, mo b 1000000 p (k + 1) (ma b 1000000 p k) j ≤ 1000000) := hid fun j => Nat.le_trans (mo_le b 1000000 p (k + 1) (ma b 1000000 p k) j).1 hma
          have hml := mlen_le b p (k + 1)
          have HMk := hid (fun W hW => HM.out k (by omega) W hW)
          rw [show ((k + 1 : Nat) : Int) = (k : Int) + 1 by omega] at HMk
          have HF := hid (fun i (hi : p + 1 ≤ i) => (show fromN (Wf b 1000000) (p + 1) i = (Wf b 1000000 i).1 from if_pos hi))
          generalize mo b 1000000 p (k + 1) (ma b 1000000 p k) = MO at *
          generalize hml0 : mlen b p (k + 1) = m at *
          have HML := hid hml0
          clear hbk hml0
          obtain ⟨wk, hwk⟩ : ∃ wk : World, wk = wr := ⟨_, rfl⟩
          subst hwk
          go_wp2_with fail
          go_loopw [6, 8] (fun be nn wr => ∃ j : Nat, j ≤ m - 3 ∧ nn = .int .i64 (4 + (j : Int)) ∧ be = .int .i64 (MO j : Int) ∧ Below wo.heap.size wo wr) (fun _ nn _ => m + 1 - (intOf nn).toNat)
          case atStart => exact ⟨0, by omega, rfl, by rw [HMO0.out], HBk.out⟩
          case round =>
            obtain ⟨j, hj, rfl, rfl, hbj⟩ := hrel
            have HBj := hid hbj
            have hbw := HS.out.below.trans (hbj.mono HS.out.below.size)
            have HMj := hid (HMk.out wr hbw)
            clear hbj hbw
            by_cases hjm : j < m - 3
            · have i2 : decide (4 + (j : Int) ≤ (m : Int)) = true := decide_eq_true (by omega)
              go_wp2_with fail
              refine HMj.out.mono ?_
              rintro r w1 ⟨rfl, hb1⟩
              have HB1 := hid (HBj.out.trans (hb1.mono HBj.out.size))
              clear hb1
              have hin : p + (4 + j) < b.length + 1 := by omega
              have c3 : w1.cell? ⟨w.heap.size, p + (4 + j), none⟩ = some (.int .i64 ((Wf b 1000000 (p + (4 + j))).1 : Int)) := by
                rw [((HS.out.free.below HB1.out hfl).cell (p + (4 + j))), intA_get _ _ _ hin, HF.out _ (by omega)]
              have hF61 := Wf_le61 b 1000000 (p + (4 + j)) hb
              have HBy := hid (fun (W : World) (g : Nat) (h : Blk W g 33 #[.slice none 0 0, .int .i64 ((k : Int) + 1), .int .i64 (4 + (j : Int))]) => ref11_bytes [⟨[], (k : Int) + 1, 4 + (j : Int)⟩] (some ⟨g, 0, none⟩) 1 1 W (tok_lone (x := ⟨[], (k : Int) + 1, 4 + (j : Int)⟩) h (tok_mk (x := ⟨[], (k : Int) + 1, 4 + (j : Int)⟩) (rSl_mk rfl (Nat.le_refl _) (Nat.zero_le _) (.inl rfl)) (by dsimp only; omega) (by dsimp only; omega))) (by simp) (fun t ht => by
                simp at ht; subst ht
                simp [rightB, copyB, runB]; omega))
              have hcost : (tokensB [⟨[], (k : Int) + 1, 4 + (j : Int)⟩]).length = csz (k + 1) (4 + j) := by
                have e : (⟨[], (k : Int) + 1, 4 + (j : Int)⟩ : Tok) = ⟨[], ((k + 1 : Nat) : Int), ((4 + j : Nat) : Int)⟩ := by
                  congr 1
                rw [e, cost_cons, cost_copy _ _ (by omega)]; rfl
              have hcs := csz_le (k + 1) (4 + j)
              have HCost := hid hcost
              have HMj1 := hid (HMOs.out j)
              have hMOj := HMOl.out j
              generalize (Wf b 1000000 (p + (4 + j))).1 = F at *
              generalize csz (k + 1) (4 + j) = cs at *
              generalize tokensB [⟨[], (k : Int) + 1, 4 + (j : Int)⟩] = TB at *
              have ei : 0 ≤ (p : Int) + (4 + (j : Int)) ∧ (p : Int) + (4 + (j : Int)) < (N : Int) := by have := HN.out; omega
              have en : ((p : Int) + (4 + (j : Int))).toNat = p + (4 + j) := by omega
              have HW1 : Hid (IntKind.i64.wrap ((p : Int) + (4 + (j : Int))) = (p : Int) + (4 + (j : Int))) := hid (wrap_small _ (by omega) (by omega))
              have HW2 : Hid (IntKind.i64.wrap ((TB.length : Int) + (F : Int)) = ((cs + F : Nat) : Int)) := hid (by rw [wrap_small _ (by omega) (by omega)]; omega)
              have l2 := World.block_lt_of_cell? _ _ c3
              have hD2 : w1.drew.cell? ⟨w.heap.size, p + (4 + j), none⟩ = some (.int .i64 (F : Int)) := c3
              have l3 : w.heap.size < w1.drew.heap.size := l2
              clear hcost
              go_wp2_with fail
              refine wp_region_held_drew (S := fun w' => w'.cell? ⟨w.heap.size, p + (4 + j), none⟩ = some (.int .i64 (F : Int))) (by kernel_rfl) hD2 (fun hHeld => ?_)
              refine wpAnyH_take (i := 0) (oi := _) (v := ?_) rfl (by decide +kernel) (by decide +kernel) (by decide +kernel) (fun _ _ _ h => h) (Or.inl ⟨by rfl, ?_⟩) (by assumption) ?_
              rotate_left
              · (intro w hSw; (try dsimp only at hSw); go_simp <;> with_reducible rfl)
              (try simp only [Act.put, List.setIfInBounds_toArray, List.set_cons_zero, List.set_cons_succ])
              refine wpAnyH_take (i := 1) (oi := _) (v := ?_) rfl (by decide +kernel) (by decide +kernel) (by decide +kernel) (fun _ _ _ h => h) (Or.inl ⟨by rfl, ?_⟩) (by assumption) ?_
              rotate_left
              · (intro w hSw; (try dsimp only at hSw); go_simp <;> with_reducible rfl)
              (try simp only [Act.put, List.setIfInBounds_toArray, List.set_cons_zero, List.set_cons_succ])
              refine wpAnyH_take (i := 2) (oi := _) (v := ?_) rfl (by decide +kernel) (by decide +kernel) (by decide +kernel) (fun _ _ _ h => h) (Or.inl ⟨by rfl, ?_⟩) (by assumption) ?_
              rotate_left
              · (intro w hSw; (try dsimp only at hSw); go_simp <;> with_reducible rfl)
              (try simp only [Act.put, List.setIfInBounds_toArray, List.set_cons_zero, List.set_cons_succ])
              refine wpAnyH_take (i := 3) (oi := _) (v := ?_) rfl (by decide +kernel) (by decide +kernel) (by decide +kernel) (fun _ _ _ h => h) (Or.inl ⟨by rfl, ?_⟩) (by assumption) ?_
              rotate_left
              · (intro w hSw; (try dsimp only at hSw); go_simp <;> with_reducible rfl)
              (try simp only [Act.put, List.setIfInBounds_toArray, List.set_cons_zero, List.set_cons_succ])
              refine wpAnyH_take (i := 7) (oi := _) (v := ?_) rfl (by decide +kernel) (by decide +kernel) (by decide +kernel) (fun _ _ _ h => h) (Or.inl ⟨by rfl, ?_⟩) (by assumption) ?_
              rotate_left
              · (intro w hSw; (try dsimp only at hSw); go_simp <;> with_reducible rfl)
              (try simp only [Act.put, List.setIfInBounds_toArray, List.set_cons_zero, List.set_cons_succ])
              refine wpAnyH_take (i := 8) (oi := _) (v := ?_) rfl (by decide +kernel) (by decide +kernel) (by decide +kernel) (fun _ _ _ h => h) (Or.inl ⟨by rfl, ?_⟩) (by assumption) ?_
              rotate_left
              · (intro w hSw; (try dsimp only at hSw); go_simp <;> with_reducible rfl)
              (try simp only [Act.put, List.setIfInBounds_toArray, List.set_cons_zero, List.set_cons_succ])
              refine wpAnyH_take (i := 9) (oi := _) (v := ?_) rfl (by decide +kernel) (by decide +kernel) (by decide +kernel) (fun _ _ _ h => h) (Or.inl ⟨by rfl, ?_⟩) (by assumption) ?_
              rotate_left
              · (intro w hSw; (try dsimp only at hSw); go_simp <;> with_reducible rfl)
              (try simp only [Act.put, List.setIfInBounds_toArray, List.set_cons_zero, List.set_cons_succ])
              refine wpAnyH_take (i := 10) (oi := _) (v := ?_) rfl (by decide +kernel) (by decide +kernel) (by decide +kernel) (fun _ _ _ h => h) (Or.inl ⟨by rfl, ?_⟩) (by assumption) ?_
              rotate_left
              · (intro w hSw; (try dsimp only at hSw); go_simp <;> with_reducible rfl)
              (try simp only [Act.put, List.setIfInBounds_toArray, List.set_cons_zero, List.set_cons_succ])
              (try rw [HW1.out])
              refine wpAnyH_take (i := 11) (oi := _) (v := ?_) rfl (by decide +kernel) (by decide +kernel) (by decide +kernel) (fun _ _ _ h => h) (Or.inl ⟨by rfl, ?_⟩) (by assumption) ?_
              rotate_left
              · (intro w hSw; (try dsimp only at hSw); go_simp <;> with_reducible rfl)
              (try simp only [Act.put, List.setIfInBounds_toArray, List.set_cons_zero, List.set_cons_succ])
              refine wpAnyH_take (i := 12) (oi := _) (v := ?_) rfl (by decide +kernel) (by decide +kernel) (by decide +kernel) (fun _ _ _ h => h) (Or.inl ⟨by rfl, ?_⟩) (by assumption) ?_
              rotate_left
              · (intro w hSw; (try dsimp only at hSw); go_simp <;> with_reducible rfl)
              (try simp only [Act.put, List.setIfInBounds_toArray, List.set_cons_zero, List.set_cons_succ])
              refine wpAnyH_ready (rs := [4]) (by decide +kernel) (by simp) ?_
              refine AllReadyH.cons (o := _) rfl (fun K hK => ?_) AllReadyH.nil
              go_simp
              refine hK.out _ _ ?_ (fun hHeld => ?_)
              · ((try dsimp only); first | assumption | (go_keep; done))
              clear hK K
              (try simp only [Act.put, List.setIfInBounds_toArray, List.set_cons_zero, List.set_cons_succ])
              refine wpAnyH_ready (rs := [5]) (by decide +kernel) (by simp) ?_
              refine AllReadyH.cons (o := _) rfl (fun K hK => ?_) AllReadyH.nil
              (go_simp; go_at_call 8; refine (HBy.out _ w1.drew.heap.size (by (repeat (first | assumption | exact Blk.newAt _ _ _ (by first | (simp; done) | (simp; omega)) | refine Blk.alloc ?_ _ | refine Blk.drew ?_ | refine Blk.drewN ?_ _ | refine Blk.far ?_ (by first | (simp; done) | (simp; omega)) _)))).mono ?_; rintro e w4 ⟨v4, rfl, hv4, hb4⟩; obtain ⟨a4, c4, hw4, _⟩ := sl_form hv4; simp only [List.cons.injEq, and_true] at hw4; subst hw4; have f2 := (hb4.cell (p := ⟨w.heap.size, p + (4 + j), none⟩) (by simp; omega)).trans (by assumption); have HB4 := hid hb4; clear hv4 hb4)
              refine hK.out _ _ ?_ (fun hHeld => ?_)
              · ((try dsimp only); first | assumption | (go_keep; done))
              clear hK K
              (try simp only [Act.put, List.setIfInBounds_toArray, List.set_cons_zero, List.set_cons_succ])
              refine wpAnyH_take (i := 6) (oi := _) (v := ?_) rfl (by decide +kernel) (by decide +kernel) (by decide +kernel) (fun _ _ _ h => h) (Or.inl ⟨by rfl, ?_⟩) (by assumption) ?_
              rotate_left
              · (intro w hSw; (try dsimp only at hSw); go_simp <;> with_reducible rfl)
              (try simp only [Act.put, List.setIfInBounds_toArray, List.set_cons_zero, List.set_cons_succ])
              refine wpAnyH_take (i := 13) (oi := _) (v := ?_) rfl (by decide +kernel) (by decide +kernel) (by decide +kernel) (fun _ _ _ h => h) (Or.inl ⟨by rfl, ?_⟩) (by assumption) ?_
              rotate_left
              · (intro w hSw; (try dsimp only at hSw); go_simp <;> with_reducible rfl)
              (try simp only [Act.put, List.setIfInBounds_toArray, List.set_cons_zero, List.set_cons_succ])
              (try rw [HW2.out])
              refine wpAnyH_take (i := 14) (oi := _) (v := ?_) rfl (by decide +kernel) (by decide +kernel) (by decide +kernel) (fun _ _ _ h => h) (Or.inl ⟨by rfl, ?_⟩) (by assumption) ?_
              rotate_left
              · (intro w hSw; (try dsimp only at hSw); go_simp <;> with_reducible rfl)
              (try simp only [Act.put, List.setIfInBounds_toArray, List.set_cons_zero, List.set_cons_succ])
              (try simp only [List.getElem_toArray, List.getElem_cons_zero, List.getElem_cons_succ, Act.put, List.setIfInBounds_toArray, List.set_cons_zero, List.set_cons_succ])
              refine wpAnyH_take (i := 15) (oi := _) (v := ?_) rfl (by decide +kernel) (by decide +kernel) (by decide +kernel) (fun _ _ _ h => h) (Or.inl ⟨by rfl, ?_⟩) (by assumption) ?_
              rotate_left
              · (intro w hSw; (try dsimp only at hSw); go_simp <;> with_reducible rfl)
              (try simp only [Act.put, List.setIfInBounds_toArray, List.set_cons_zero, List.set_cons_succ])
              (try simp only [List.getElem_toArray, List.getElem_cons_zero, List.getElem_cons_succ, Act.put, List.setIfInBounds_toArray, List.set_cons_zero, List.set_cons_succ])
              refine wpAnyH_done (by kernel_rfl) ?_ _
              have HBe := hid (HB1.out.trans ((below_then HB4.out (show Below w1.heap.size w1 (w1.drew.alloc (.cells #[.slice none 0 0, .int .i64 ((k : Int) + 1), .int .i64 (4 + (j : Int))] 33)) from by (repeat (first | exact Below.refl _ _ | assumption | (refine below_alloc ?_ _) | (refine Below.setCell ?_ (by first | omega | (simp; done) | (simp; omega)) _) | (refine Below.drew ?_) | (refine below_drewN ?_ _) | (refine below_then (by assumption) ?_))))).mono HB1.out.size))
              go_wp2_with fail
              go_roundw
              case rel =>
                refine ⟨j + 1, by omega, by go_num, ?_, HBe.out⟩
                rw [HMj1.out]
                congr 1
                split <;> omega
              case measure => simp [intOf]; omega
            · have i2 : decide (4 + (j : Int) ≤ (m : Int)) = false := decide_eq_false (by omega)
              have hje : Hid (j = m - 3) := hid (by omega)
              go_wp2_with fail
              refine HMj.out.mono ?_
              rintro r w1 ⟨rfl, hb1⟩
              have HB1 := hid (HBj.out.trans (hb1.mono HBj.out.size))
              clear hb1
              go_wp2_with fail
              go_roundw
              case rel => exact ⟨k + 1, by omega, by go_num, (by rw [HMA.out, hje.out]), HB1.out⟩
              case measure => simp [intOf]; omega
        · obtain rfl : k = p := by omega
          have i1 : decide ((k : Int) + 1 ≤ (k : Int)) = false := decide_eq_false (by omega)
          have hma := ma_is b 1000000 k (by omega) hb
          rw [hma]
          have hbs : k < b.length + 1 := by omega
          have HRn := hid (HS.out.run.below hbk hrl)
          have HFn := hid (HS.out.free.below hbk hfl)
          have z0 : wr.cell? ⟨w.heap.size + 1, k, none⟩ = some (.int .i64 (fromN (Wc b 1000000) (k + 1) k : Int)) := (HRn.out.cell k).trans (intA_get _ _ _ hbs)
          have z1 := HRn.out.free k
          generalize fromN (Wc b 1000000) (k + 1) k = zz at *
          have ik : 0 ≤ (k : Int) ∧ (k : Int) < (N : Int) := by have := HN.out; omega
          have ik2 : (k : Int) < (N : Int) := ik.2
          have HBk := hid hbk
          have HCe : Hid ((Wc b 1000000 k).1 = (Wc b 1000000 k).1) := hid rfl
          have hcle := Wc_le b 1000000 k
          have HSet := hid (fromN_set (Wc b 1000000) k (b.length + 1))
          have HSet2 := hid (fromN_set (Wf b 1000000) k (b.length + 1))
          have HMr0 : Hid (mr b 1000000 k 0 = (Wc b 1000000 k).1) := hid rfl
          have HMrs : Hid (∀ j, mr b 1000000 k (j + 1) = min (mr b 1000000 k j) (rsz (j + 1) + (Wc b 1000000 (k + (j + 1))).1)) := hid fun j => rfl
          have HMrl : Hid (∀ j, mr b 1000000 k j ≤ 1000000) := hid fun j => by
            rw [← mr_is]; exact Nat.le_trans (wbs_le _ _).1 hcle
          have HMre := hid (mr_end b 1000000 k (by omega))
          have HF := hid (fun i (hi : k ≤ i) => (show fromN (Wc b 1000000) k i = (Wc b 1000000 i).1 from if_pos hi))
          clear hbk hma
          obtain ⟨cc, hcc⟩ : ∃ cc, (Wc b 1000000 k).1 = cc := ⟨_, rfl⟩
          rw [hcc] at HMr0 HSet hcle ⊢
          clear HCe hcc
          go_wp2_with fail
          refine wp_world (fun W => Below w.heap.size w W ∧ Blk W w.heap.size 3 (intA (fromN (Wf b 1000000) (k + 1)) (b.length + 1)) ∧ Blk W (w.heap.size + 1) 3 (intA (fromN (Wc b 1000000) k) (b.length + 1))) ?_ ?_
          · have hr3 := HRn.out.set k (.int .i64 (cc : Int))
            rw [intA_set _ _ _ _ hbs, HSet.out] at hr3
            exact ⟨(HS.out.below.trans (HBk.out.mono HS.out.below.size)).setCell (by dsimp only; omega) _, HFn.out.far (by dsimp only; omega) _, hr3⟩
          intro W3 ⟨hb3, hf3, hr3⟩
          have HB3 := hid hb3
          have HF3 := hid hf3
          have HR3 := hid hr3
          have hl1 := hf3.lt
          have hl2 := hr3.lt
          clear hb3 hf3 hr3 z0 z1 HRn HFn HBk
          go_loopw [6, 9] (fun be nn wr => ∃ j : Nat, j ≤ b.length - k ∧ nn = .int .i64 ((j : Int) + 1) ∧ be = .int .i64 (mr b 1000000 k j : Int) ∧ Below W3.heap.size W3 wr) (fun _ nn _ => b.length + 1 - (intOf nn).toNat)
          case atStart => exact ⟨0, by omega, rfl, by rw [HMr0.out], Below.refl _ _⟩
          case round =>
            obtain ⟨j, hj, rfl, rfl, hbj⟩ := hrel
            have HBj := hid hbj
            have hbz := hbj.size
            by_cases hjm : j < b.length - k
            · have i2 : decide ((k : Int) + ((j : Int) + 1) ≤ (b.length : Int)) = true := decide_eq_true (by omega)
              have hin : k + (j + 1) < b.length + 1 := by omega
              have c3 : wr.cell? ⟨w.heap.size + 1, k + (j + 1), none⟩ = some (.int .i64 ((Wc b 1000000 (k + (j + 1))).1 : Int)) := by
                rw [((HR3.out.later hbj).cell (k + (j + 1))), intA_get _ _ _ hin, HF.out _ (by omega)]
              have hF61 := Wc_le b 1000000 (k + (j + 1))
              obtain ⟨aD, cD, hcut, hD⟩ := cut_bytes (rBytes.keep HL.out fun q hq => (HB3.out.trans (hbj.mono HB3.out.size)).block q hq) (lo := k) (hi := k + (j + 1)) (by omega) (by omega)
              rw [show k + (j + 1) - k = j + 1 by omega, show ((k + (j + 1) : Nat) : Int) = (k : Int) + ((j : Int) + 1) by omega] at hcut
              rw [show k + (j + 1) - k = j + 1 by omega] at hD
              have hDl : ((b.drop k).take (j + 1)).length = j + 1 := by rw [List.length_take, List.length_drop]; omega
              have HD := hid hD
              have HBy := hid (fun (W : World) (g : Nat) (h : Blk W g 33 #[.slice aD (j + 1) cD, .int .i64 0, .int .i64 0]) (hD : rBytes.r (· < W.heap.size) W [.slice aD (j + 1) cD] ((b.drop k).take (j + 1))) => ref11_bytes [⟨(b.drop k).take (j + 1), 0, 0⟩] (some ⟨g, 0, none⟩) 1 1 W (tok_lone (x := ⟨(b.drop k).take (j + 1), 0, 0⟩) h (tok_mk (x := ⟨(b.drop k).take (j + 1), 0, 0⟩) hD (by simp) (by simp))) (by simp) (fun t ht => by
                simp at ht; subst ht
                simp [rightB, runB]; omega))
              have hcost : (tokensB [⟨(b.drop k).take (j + 1), 0, 0⟩]).length = rsz (j + 1) := by
                rw [cost_cons, cost_run _ (by omega) (by omega), hDl]; rfl
              have hcs : rsz (j + 1) ≤ 200 := by unfold rsz; have := varB_le' (2 * (j + 1) - 2); omega
              have HCost := hid hcost
              have HMj1 := hid (HMrs.out j)
              have hMOj := HMrl.out j
              generalize (Wc b 1000000 (k + (j + 1))).1 = F at *
              generalize rsz (j + 1) = cs at *
              generalize tokensB [⟨(b.drop k).take (j + 1), 0, 0⟩] = TB at *
              generalize (b.drop k).take (j + 1) = DD at *
              generalize mr b 1000000 k j = mj at *
              have ei : 0 ≤ (k : Int) + ((j : Int) + 1) ∧ (k : Int) + ((j : Int) + 1) < (N : Int) := by have := HN.out; omega
              have en : ((k : Int) + ((j : Int) + 1)).toNat = k + (j + 1) := by omega
              have HW1 : Hid (IntKind.i64.wrap ((k : Int) + ((j : Int) + 1)) = (k : Int) + ((j : Int) + 1)) := hid (wrap_small _ (by omega) (by omega))
              have HW2 : Hid (IntKind.i64.wrap ((TB.length : Int) + (F : Int)) = ((cs + F : Nat) : Int)) := hid (by rw [wrap_small _ (by omega) (by omega)]; omega)
              have l2 := World.block_lt_of_cell? _ _ c3
              have hD2 : wr.drew.cell? ⟨w.heap.size + 1, k + (j + 1), none⟩ = some (.int .i64 (F : Int)) := c3
              have l3 : w.heap.size + 1 < wr.drew.heap.size := l2
              clear hcost hbj hD
              go_wp2_with fail
              refine wp_region_held_drew (S := fun w' => w'.cell? ⟨w.heap.size + 1, k + (j + 1), none⟩ = some (.int .i64 (F : Int))) (by kernel_rfl) hD2 (fun hHeld => ?_)
              refine wpAnyH_take (i := 0) (oi := _) (v := ?_) rfl (by decide +kernel) (by decide +kernel) (by decide +kernel) (fun _ _ _ h => h) (Or.inl ⟨by rfl, ?_⟩) (by assumption) ?_
              rotate_left
              · (intro w hSw; (try dsimp only at hSw); go_simp <;> with_reducible rfl)
              (try simp only [Act.put, List.setIfInBounds_toArray, List.set_cons_zero, List.set_cons_succ])
              refine wpAnyH_take (i := 1) (oi := _) (v := ?_) rfl (by decide +kernel) (by decide +kernel) (by decide +kernel) (fun _ _ _ h => h) (Or.inl ⟨by rfl, ?_⟩) (by assumption) ?_
              rotate_left
              · (intro w hSw; (try dsimp only at hSw); go_simp <;> with_reducible rfl)
              (try simp only [Act.put, List.setIfInBounds_toArray, List.set_cons_zero, List.set_cons_succ])
              refine wpAnyH_take (i := 2) (oi := _) (v := ?_) rfl (by decide +kernel) (by decide +kernel) (by decide +kernel) (fun _ _ _ h => h) (Or.inl ⟨by rfl, ?_⟩) (by assumption) ?_
              rotate_left
              · (intro w hSw; (try dsimp only at hSw); go_simp <;> with_reducible rfl)
              (try simp only [Act.put, List.setIfInBounds_toArray, List.set_cons_zero, List.set_cons_succ])
              refine wpAnyH_take (i := 3) (oi := _) (v := ?_) rfl (by decide +kernel) (by decide +kernel) (by decide +kernel) (fun _ _ _ h => h) (Or.inl ⟨by rfl, ?_⟩) (by assumption) ?_
              rotate_left
              · (intro w hSw; (try dsimp only at hSw); go_simp <;> with_reducible rfl)
              (try simp only [Act.put, List.setIfInBounds_toArray, List.set_cons_zero, List.set_cons_succ])
              refine wpAnyH_take (i := 4) (oi := _) (v := ?_) rfl (by decide +kernel) (by decide +kernel) (by decide +kernel) (fun _ _ _ h => h) (Or.inl ⟨by rfl, ?_⟩) (by assumption) ?_
              rotate_left
              · (intro w hSw; (try dsimp only at hSw); go_simp <;> with_reducible rfl)
              (try simp only [Act.put, List.setIfInBounds_toArray, List.set_cons_zero, List.set_cons_succ])
              refine wpAnyH_take (i := 5) (oi := _) (v := ?_) rfl (by decide +kernel) (by decide +kernel) (by decide +kernel) (fun _ _ _ h => h) (Or.inl ⟨by rfl, ?_⟩) (by assumption) ?_
              rotate_left
              · (intro w hSw; (try dsimp only at hSw); go_simp <;> with_reducible rfl)
              (try simp only [Act.put, List.setIfInBounds_toArray, List.set_cons_zero, List.set_cons_succ])
              (try rw [HW1.out])
              refine wpAnyH_take (i := 6) (oi := _) (v := ?_) rfl (by decide +kernel) (by decide +kernel) (by decide +kernel) (fun _ _ _ h => h) (Or.inl ⟨by rfl, ?_⟩) (by assumption) ?_
              rotate_left
              · (intro w hSw; (try dsimp only at hSw); go_simp <;> with_reducible rfl)
              (try simp only [Act.put, List.setIfInBounds_toArray, List.set_cons_zero, List.set_cons_succ])
              refine wpAnyH_take (i := 7) (oi := _) (v := ?_) rfl (by decide +kernel) (by decide +kernel) (by decide +kernel) (fun _ _ _ h => h) (Or.inl ⟨by rfl, ?_⟩) (by assumption) ?_
              rotate_left
              · (intro w hSw; (try dsimp only at hSw); go_simp <;> with_reducible rfl)
              (try simp only [Act.put, List.setIfInBounds_toArray, List.set_cons_zero, List.set_cons_succ])
              refine wpAnyH_take (i := 11) (oi := _) (v := ?_) rfl (by decide +kernel) (by decide +kernel) (by decide +kernel) (fun _ _ _ h => h) (Or.inl ⟨by rfl, ?_⟩) (by assumption) ?_
              rotate_left
              · (intro w hSw; (try dsimp only at hSw); go_simp <;> with_reducible rfl)
              (try simp only [Act.put, List.setIfInBounds_toArray, List.set_cons_zero, List.set_cons_succ])
              refine wpAnyH_take (i := 12) (oi := _) (v := ?_) rfl (by decide +kernel) (by decide +kernel) (by decide +kernel) (fun _ _ _ h => h) (Or.inl ⟨by rfl, ?_⟩) (by assumption) ?_
              rotate_left
              · (intro w hSw; (try dsimp only at hSw); go_simp <;> with_reducible rfl)
              (try simp only [Act.put, List.setIfInBounds_toArray, List.set_cons_zero, List.set_cons_succ])
              refine wpAnyH_take (i := 13) (oi := _) (v := ?_) rfl (by decide +kernel) (by decide +kernel) (by decide +kernel) (fun _ _ _ h => h) (Or.inl ⟨by rfl, ?_⟩) (by assumption) ?_
              rotate_left
              · (intro w hSw; (try dsimp only at hSw); go_simp <;> with_reducible rfl)
              (try simp only [Act.put, List.setIfInBounds_toArray, List.set_cons_zero, List.set_cons_succ])
              refine wpAnyH_take (i := 14) (oi := _) (v := ?_) rfl (by decide +kernel) (by decide +kernel) (by decide +kernel) (fun _ _ _ h => h) (Or.inl ⟨by rfl, ?_⟩) (by assumption) ?_
              rotate_left
              · (intro w hSw; (try dsimp only at hSw); go_simp <;> with_reducible rfl)
              (try simp only [Act.put, List.setIfInBounds_toArray, List.set_cons_zero, List.set_cons_succ])
              (try rw [HW1.out])
              refine wpAnyH_take (i := 15) (oi := _) (v := ?_) rfl (by decide +kernel) (by decide +kernel) (by decide +kernel) (fun _ _ _ h => h) (Or.inl ⟨by rfl, ?_⟩) (by assumption) ?_
              rotate_left
              · (intro w hSw; (try dsimp only at hSw); go_simp <;> with_reducible rfl)
              (try simp only [Act.put, List.setIfInBounds_toArray, List.set_cons_zero, List.set_cons_succ])
              refine wpAnyH_take (i := 16) (oi := _) (v := ?_) rfl (by decide +kernel) (by decide +kernel) (by decide +kernel) (fun _ _ _ h => h) (Or.inl ⟨by rfl, ?_⟩) (by assumption) ?_
              rotate_left
              · (intro w hSw; (try dsimp only at hSw); go_simp <;> with_reducible rfl)
              (try simp only [Act.put, List.setIfInBounds_toArray, List.set_cons_zero, List.set_cons_succ])
              refine wpAnyH_ready (rs := [8]) (by decide +kernel) (by simp) ?_
              refine AllReadyH.cons (o := _) rfl (fun K hK => ?_) AllReadyH.nil
              go_simp
              refine hK.out _ _ ?_ (fun hHeld => ?_)
              · ((try dsimp only); first | assumption | (go_keep; done))
              clear hK K
              (try simp only [Act.put, List.setIfInBounds_toArray, List.set_cons_zero, List.set_cons_succ])
              refine wpAnyH_ready (rs := [9]) (by decide +kernel) (by simp) ?_
              refine AllReadyH.cons (o := _) rfl (fun K hK => ?_) AllReadyH.nil
              (go_simp; go_at_call 8; refine (HBy.out (wr.drew.alloc (.cells #[.slice aD (j + 1) cD, .int .i64 0, .int .i64 0] 33)) wr.drew.heap.size (by (repeat (first | assumption | exact Blk.newAt _ _ _ (by first | (simp; done) | (simp; omega)) | refine Blk.alloc ?_ _ | refine Blk.drew ?_ | refine Blk.drewN ?_ _ | refine Blk.far ?_ (by first | (simp; done) | (simp; omega)) _))) (rBytes.mono (rBytes.keep HD.out fun q hq => Below.heap_alloc wr.drew _ q (by have hq' : q < w.heap.size := hq; show q < wr.heap.size; omega)) fun q hq => by have hq' : q < w.heap.size := hq; simp; omega)).mono ?_; rintro e w4 ⟨v4, rfl, hv4, hb4⟩; obtain ⟨a4, c4, hw4, _⟩ := sl_form hv4; simp only [List.cons.injEq, and_true] at hw4; subst hw4; have f2 := (hb4.cell (p := ⟨w.heap.size + 1, k + (j + 1), none⟩) (by simp; omega)).trans (by assumption); have HB4 := hid hb4; clear hv4 hb4)
              refine hK.out _ _ ?_ (fun hHeld => ?_)
              · ((try dsimp only); first | assumption | (go_keep; done))
              clear hK K
              (try simp only [Act.put, List.setIfInBounds_toArray, List.set_cons_zero, List.set_cons_succ])
              refine wpAnyH_take (i := 10) (oi := _) (v := ?_) rfl (by decide +kernel) (by decide +kernel) (by decide +kernel) (fun _ _ _ h => h) (Or.inl ⟨by rfl, ?_⟩) (by assumption) ?_
              rotate_left
              · (intro w hSw; (try dsimp only at hSw); go_simp <;> with_reducible rfl)
              (try simp only [Act.put, List.setIfInBounds_toArray, List.set_cons_zero, List.set_cons_succ])
              refine wpAnyH_take (i := 17) (oi := _) (v := ?_) rfl (by decide +kernel) (by decide +kernel) (by decide +kernel) (fun _ _ _ h => h) (Or.inl ⟨by rfl, ?_⟩) (by assumption) ?_
              rotate_left
              · (intro w hSw; (try dsimp only at hSw); go_simp <;> with_reducible rfl)
              (try simp only [Act.put, List.setIfInBounds_toArray, List.set_cons_zero, List.set_cons_succ])
              (try rw [HW2.out])
              refine wpAnyH_take (i := 18) (oi := _) (v := ?_) rfl (by decide +kernel) (by decide +kernel) (by decide +kernel) (fun _ _ _ h => h) (Or.inl ⟨by rfl, ?_⟩) (by assumption) ?_
              rotate_left
              · (intro w hSw; (try dsimp only at hSw); go_simp <;> with_reducible rfl)
              (try simp only [Act.put, List.setIfInBounds_toArray, List.set_cons_zero, List.set_cons_succ])
              (try simp only [List.getElem_toArray, List.getElem_cons_zero, List.getElem_cons_succ, Act.put, List.setIfInBounds_toArray, List.set_cons_zero, List.set_cons_succ])
              refine wpAnyH_take (i := 19) (oi := _) (v := ?_) rfl (by decide +kernel) (by decide +kernel) (by decide +kernel) (fun _ _ _ h => h) (Or.inl ⟨by rfl, ?_⟩) (by assumption) ?_
              rotate_left
              · (intro w hSw; (try dsimp only at hSw); go_simp <;> with_reducible rfl)
              (try simp only [Act.put, List.setIfInBounds_toArray, List.set_cons_zero, List.set_cons_succ])
              (try simp only [List.getElem_toArray, List.getElem_cons_zero, List.getElem_cons_succ, Act.put, List.setIfInBounds_toArray, List.set_cons_zero, List.set_cons_succ])
              refine wpAnyH_done (by kernel_rfl) ?_ _
              have HBe := hid (HBj.out.trans ((below_then HB4.out (show Below wr.heap.size wr (wr.drew.alloc (.cells #[.slice aD (j + 1) cD, .int .i64 0, .int .i64 0] 33)) from by (repeat (first | exact Below.refl _ _ | assumption | (refine below_alloc ?_ _) | (refine Below.setCell ?_ (by first | omega | (simp; done) | (simp; omega)) _) | (refine Below.drew ?_) | (refine below_drewN ?_ _) | (refine below_then (by assumption) ?_))))).mono HBj.out.size))
              go_wp2_with fail
              go_roundw
              case rel =>
                refine ⟨j + 1, by omega, by go_num, ?_, HBe.out⟩
                rw [HMj1.out]
                congr 1
                split <;> omega
              case measure => simp [intOf]; omega
            · have i2 : decide ((k : Int) + ((j : Int) + 1) ≤ (b.length : Int)) = false := decide_eq_false (by omega)
              obtain rfl : j = b.length - k := by omega
              rw [HMre.out]
              have HFn := hid (HF3.out.later hbj)
              have HRn := hid (HR3.out.later hbj)
              have z0 : wr.cell? ⟨w.heap.size, k, none⟩ = some (.int .i64 (fromN (Wf b 1000000) (k + 1) k : Int)) := (HFn.out.cell k).trans (intA_get _ _ _ hbs)
              have z1 := HFn.out.free k
              generalize fromN (Wf b 1000000) (k + 1) k = zz at *
              have hset := HFn.out.set k (.int .i64 ((Wf b 1000000 k).1 : Int))
              rw [intA_set _ _ _ _ hbs, HSet2.out] at hset
              have HQ := hid hset
              have HBz := hid ((HB3.out.trans (hbj.mono HB3.out.size)).setCell (p := ⟨w.heap.size, k, none⟩) (Nat.le_refl _) (.int .i64 ((Wf b 1000000 k).1 : Int)))
              have HRz := hid (HRn.out.far (p := ⟨w.heap.size, k, none⟩) (by dsimp only; omega) (.int .i64 ((Wf b 1000000 k).1 : Int)))
              generalize (Wf b 1000000 k).1 = ff at *
              clear hset hbj
              go_wp2_with fail
              go_roundw
              case rel =>
                refine ⟨k, by omega, ?_, HBz.out, HQ.out, HRz.out⟩
                first | done | rfl | go_num | (trace_state; simp) | skip
              case measure => (simp [intOf]; try omega)
    · obtain rfl : q = 0 := by omega
      have z0 : wr.cell? ⟨w.heap.size, 0, none⟩ = some (.int .i64 ((Wf b 1000000 0).1 : Int)) := (hS.free.cell 0).trans ((intA_get _ (b.length + 1) 0 (by omega)).trans (by unfold fromN; rw [if_pos (Nat.zero_le _)]))
      have HB := hid hS.below
      obtain ⟨ff, hff⟩ : ∃ ff, (Wf b 1000000 0).1 = ff := ⟨_, rfl⟩
      rw [hff] at z0
      have HFF := hid hff
      clear hS hff
      go_wp2_with fail
      go_ret
      exact ⟨by rw [HFF.out]; rfl, HB.out⟩
end Go.Proofs.Ytlkpnpbodbokkaa
namespace Go.Proofs.Ytlkpnpbodbokkaa
open Go.RowKit Go.Bs
set_option linter.unusedVariables false
set_option linter.unusedSimpArgs false

set_option maxRecDepth 100000 in
set_option maxHeartbeats 3200000 in
theorem least_size (b : List UInt8) (hb : b.length ≤ 60) (a : Option Addr) (n c : Nat) (w : World) (hl : rBytes.r (· < w.heap.size) w [.slice a n c] b) :
    Calls Try.prog 7 #[.slice a n c] w fun r w' => r = .returned (.int .i64 ((Wf b 1099511627776 0).1 : Int)) ∧ Below w.heap.size w w' := by
  have HW := hid (press_ways b hb a n c w hl)
  obtain ⟨rfl, hm, _, _⟩ := sl_len hl
  obtain ⟨N, hN⟩ : ∃ N, N = b.length + 1 := ⟨_, rfl⟩
  have d0 : decide ((1024 : Int) < (b.length : Int)) = false := decide_eq_false (by omega)
  have hN0 : (0 : Int) < (N : Int) := by omega
  rw [← hN] at HW
  have hN2 : 0 < N := by omega
  clear hl hN
  go_enter Try.func7, Try.ntmps7
  go_wp2_with fail
  refine HW.out.mono ?_
  rintro r w1 ⟨⟨g, rfl, hg, hblk⟩, hb1⟩
  have c0 : w1.cell? ⟨g, 0, none⟩ = some (.int .i64 ((Wf b 1099511627776 0).1 : Int)) := (hblk.cell 0).trans (wayA_get _ N 0 0 hN2 (by decide))
  have HB := hid hb1
  clear hblk hb1
  go_wp2_with fail
  go_ret
  exact ⟨rfl, HB.out⟩

set_option maxRecDepth 100000 in
set_option maxHeartbeats 3200000 in
theorem press_first (b : List UInt8) (hb : b.length ≤ 60) (p : Nat) (hp : p < b.length) (gl : Nat) (a : Option Addr) (n c : Nat) (w : World) (hl : rBytes.r (· < w.heap.size) w [.slice a n c] b) (hA : Blk w gl 45 (wayA (Wf b 1099511627776) (b.length + 1))) :
    Calls Try.prog 18 #[.slice a n c, .int .i64 (p : Int), .slice (some ⟨gl, 0, none⟩) (b.length + 1) (b.length + 1)] w fun r w' => r = .returned (.tuple #[.int .i64 ((Wc b 1099511627776 p).2.1 : Int), .int .i64 ((Wc b 1099511627776 p).2.2 : Int)]) ∧ Below w.heap.size w w' := by
  obtain ⟨rfl, hm, _, _⟩ := sl_len hl
  obtain ⟨N, hN⟩ : ∃ N, N = b.length + 1 := ⟨_, rfl⟩
  have HN := hid hN
  have HL := hid hl
  have HA := hid hA
  have hgl := hA.lt
  have hNb : b.length < N := by omega
  rw [← hN]
  clear hl hA hN
  go_enter Try.func18, Try.ntmps18
  go_wp2_with fail
  have HW1 : Hid (Below w.heap.size w (((w.alloc (.cells #[.int .i64 (p : Int)] 3)).alloc (.cells #[.slice (some ⟨gl, 0, none⟩) N N] 42)).alloc (.cells #[.int .i64 1099511627776, .int .i64 0, .int .i64 0] 45))) := hid (by (repeat (first | exact Below.refl _ _ | assumption | (refine below_alloc ?_ _) | (refine Below.setCell ?_ (by first | omega | (simp; done) | (simp; omega)) _) | (refine Below.drew ?_) | (refine below_drewN ?_ _) | (refine below_then (by assumption) ?_))))
  have HA1 : Hid (Blk (((w.alloc (.cells #[.int .i64 (p : Int)] 3)).alloc (.cells #[.slice (some ⟨gl, 0, none⟩) N N] 42)).alloc (.cells #[.int .i64 1099511627776, .int .i64 0, .int .i64 0] 45)) w.heap.size 3 #[.int .i64 (p : Int)]) := hid (by (repeat (first | assumption | exact Blk.newAt _ _ _ (by first | (simp; done) | (simp; omega)) | refine Blk.alloc ?_ _ | refine Blk.drew ?_ | refine Blk.drewN ?_ _ | refine Blk.far ?_ (by first | (simp; done) | (simp; omega)) _)))
  have HF1 : Hid (Blk (((w.alloc (.cells #[.int .i64 (p : Int)] 3)).alloc (.cells #[.slice (some ⟨gl, 0, none⟩) N N] 42)).alloc (.cells #[.int .i64 1099511627776, .int .i64 0, .int .i64 0] 45)) (w.heap.size + 1) 42 #[.slice (some ⟨gl, 0, none⟩) N N]) := hid (by (repeat (first | assumption | exact Blk.newAt _ _ _ (by first | (simp; done) | (simp; omega)) | refine Blk.alloc ?_ _ | refine Blk.drew ?_ | refine Blk.drewN ?_ _ | refine Blk.far ?_ (by first | (simp; done) | (simp; omega)) _)))
  have HB1 : Hid (Blk (((w.alloc (.cells #[.int .i64 (p : Int)] 3)).alloc (.cells #[.slice (some ⟨gl, 0, none⟩) N N] 42)).alloc (.cells #[.int .i64 1099511627776, .int .i64 0, .int .i64 0] 45)) (w.heap.size + 1 + 1) 45 (w3C (1099511627776, 0, 0))) := hid (by
    have : (w3C (1099511627776, 0, 0)) = #[.int .i64 1099511627776, .int .i64 0, .int .i64 0] := rfl
    rw [this]; (repeat (first | assumption | exact Blk.newAt _ _ _ (by first | (simp; done) | (simp; omega)) | refine Blk.alloc ?_ _ | refine Blk.drew ?_ | refine Blk.drewN ?_ _ | refine Blk.far ?_ (by first | (simp; done) | (simp; omega)) _)))
  generalize ((w.alloc (.cells #[.int .i64 (p : Int)] 3)).alloc (.cells #[.slice (some ⟨gl, 0, none⟩) N N] 42)).alloc (.cells #[.int .i64 1099511627776, .int .i64 0, .int .i64 0] 45) = W1 at *
  have hb1z := HB1.out.lt
  have HRb := hid (rBytes.keep HL.out fun q hq => HW1.out.block q hq)
  have HAl := hid (HA.out.later HW1.out)
  have HCop := hid (copies_c b a b.length c p (by omega) (by omega) 35 #[.pointer (some ⟨w.heap.size + 1 + 1, 0, none⟩), .pointer (some ⟨w.heap.size + 1, 0, none⟩), .pointer (some ⟨w.heap.size, 0, none⟩)] (fun xs W => by go_simp)
    (fun L W => Blk W (w.heap.size + 1 + 1) 45 (w3C (wbs (1099511627776, 0, 0) (cList b 1099511627776 p L))) ∧ Tch (· = w.heap.size + 1 + 1) W1 W)
    (fun L W hIW => rBytes.mono (rBytes.keep HRb.out fun q hq => hIW.2.block q (by have := hq; omega) (by have := hq; omega)) fun q hq => by have := hIW.2.size; omega)
    (fun L W W' hIW hb' => ⟨hIW.1.later hb', hIW.2.trans (Tch.of_later (F := (· = w.heap.size + 1 + 1)) hb') fun _ _ h => h⟩)
    (fun L o m W hIW hc => by
      have hml := mlen_le b p o
      have h4 := hc.2.2.2
      have ho := hc.2.1
      dsimp only at h4 ho
      have hre : reach p ≤ 65536 := by unfold reach; omega
      have hw3 := (HAl.out.tch hIW.2 (by omega)).cell ((p + m) * 3)
      have hg3 : (wayA (Wf b 1099511627776) (b.length + 1))[(p + m) * 3]? = some (w3C (Wf b 1099511627776 (p + m)))[0]! := wayA_get (Wf b 1099511627776) (b.length + 1) (p + m) 0 (by omega) (by decide)
      have h4' := hc.2.2.1
      dsimp only at h4'
      rw [hg3] at hw3
      refine (first1_c (w.heap.size + 1 + 1) (w.heap.size + 1) w.heap.size gl N N p o m (Wf b 1099511627776 (p + m)).1 (wbs (1099511627776, 0, 0) (cList b 1099511627776 p L)) (by have := (wbs_le (1099511627776, 0, 0) (cList b 1099511627776 p L)).1; dsimp only at this; omega) (by have := Wf_le61 b 1099511627776 (p + m) hb; omega) hc.1 (by omega) h4' (by omega) (by omega) (by have := HN.out; omega) (by omega) (by omega) (by omega) W hIW.1
        ((HF1.out.tch hIW.2 (by omega)).cell 0) ((HA1.out.tch hIW.2 (by omega)).cell 0) hw3).mono ?_
      rintro r W' ⟨rfl, hblk, htch⟩
      exact ⟨rfl, by rw [cList_snoc]; exact hblk, hIW.2.trans htch fun _ _ h => h⟩)
    W1 ⟨HB1.out, Tch.refl _ _⟩)
  refine HCop.out.mono ?_
  rintro r W2 ⟨rfl, hC2, hT2⟩
  rw [← (W_step b 1099511627776 p hp).1] at hC2
  have HBf := hid (HW1.out.trans (hT2.to_below (by have := HW1.out.size; omega) (fun q _ h => by omega)))
  obtain ⟨⟨c0, c1, c2⟩, hCe⟩ : ∃ C, Wc b 1099511627776 p = C := ⟨_, rfl⟩
  rw [hCe] at hC2
  have HCe := hid hCe
  clear hCe HCop
  have x1 : W2.cell? ⟨w.heap.size + 1 + 1, 1, none⟩ = some (.int .i64 (c1 : Int)) := hC2.cell 1
  have x2 : W2.cell? ⟨w.heap.size + 1 + 1, 2, none⟩ = some (.int .i64 (c2 : Int)) := hC2.cell 2
  have X1 := fun z : Later W2 => z.cell x1
  have X2 := fun z : Later W2 => z.cell x2
  go_wp2_with fail
  refine wp_region_later (by kernel_rfl) (by kernel_rfl) ?_
  repeat (go_big_quiet_step (fail))
  refine wpQuiet_nil ?_
  rintro W5 ⟨⟨W5', hb5⟩, rfl⟩
  have HBg := hid (HBf.out.trans (hb5.mono HBf.out.size))
  go_wp2_with fail
  go_ret2
  exact ⟨by rw [HCe.out]; rfl, HBg.out⟩

theorem press_total (xs : List Tok) (a : Option Addr) (n c : Nat) (w : World) (hl : rToks.r (· < w.heap.size) w [.slice a n c] xs) (hx : xs.length ≤ 10000000) (hR : ∀ t ∈ xs, rightB t = true) :
    Calls Try.prog 20 #[.slice a n c] w fun r w' => r = .returned (.int .i64 ((tokensB xs).length : Int)) ∧ Below w.heap.size w w' := by
  have HT := hid (token_bytes xs a n c w hl hx hR)
  clear hl hR
  go_enter Try.func20, Try.ntmps20
  go_wp2_with fail
  refine HT.out.mono ?_
  rintro r w1 ⟨v, rfl, hv, hb1⟩
  obtain ⟨a1, c1, hv1, _⟩ := sl_form hv
  simp only [List.cons.injEq, and_true] at hv1
  subst hv1
  have HB := hid hb1
  clear hv hb1
  go_wp2_with fail
  go_ret
  exact ⟨rfl, HB.out⟩

set_option maxRecDepth 100000 in
set_option maxHeartbeats 3200000 in
theorem press_gain (b : List UInt8) (hb : b.length ≤ 60) (a : Option Addr) (n c : Nat) (w : World) (hl : rBytes.r (· < w.heap.size) w [.slice a n c] b) :
    Calls Try.prog 9 #[.slice a n c] w fun r w' => r = .returned (.int .i64 (((tokensB (toksR b)).length : Int) - ((Wf b 1099511627776 0).1 : Int))) ∧ Below w.heap.size w w' := by
  have HT := hid (press_tokens w b a n c hl (by omega))
  have HP := hid (fun (W : World) (v : Value) (a n c) h => press_total (toksR b) a n c W h (toks_len2 (by omega)) (toks_right (by omega)))
  have HS := hid (fun (W : World) (hW : Below w.heap.size w W) => least_size b hb a n c W (lift hl hW))
  obtain ⟨rfl, hm, _, _⟩ := sl_len hl
  have d0 : decide ((1024 : Int) < (b.length : Int)) = false := decide_eq_false (by omega)
  have hsm := toksB_small (b := b) (by omega)
  have h61 := Wf_le61 b 1099511627776 0 hb
  unfold TokPost at HT
  generalize (Wf b 1099511627776 0).1 = F at *
  generalize (tokensB (toksR b)).length = L at *
  clear hl
  go_enter Try.func9, Try.ntmps9
  go_wp2_with fail
  refine HT.out.mono ?_
  rintro r w1 ⟨v, rfl, hv, hb1⟩
  obtain ⟨a1, c1, hv1, _⟩ := sl_form hv
  simp only [List.cons.injEq, and_true] at hv1
  subst hv1
  have HV := hid (rToks.mono hv fun q hq => hq.2)
  have HB := hid hb1
  clear hv hb1
  go_wp2_with fail
  refine (HP.out w1 .nilIface _ _ _ HV.out).mono ?_
  rintro r w2 ⟨rfl, hb2⟩
  have HB2 := hid (HB.out.trans (hb2.mono HB.out.size))
  clear hb2
  go_wp2_with fail
  refine (HS.out w2 HB2.out).mono ?_
  rintro r w3 ⟨rfl, hb3⟩
  have HB3 := hid (HB2.out.trans (hb3.mono HB2.out.size))
  clear hb3
  go_wp2_with fail
  go_ret
  exact ⟨rfl, HB3.out⟩
end Go.Proofs.Ytlkpnpbodbokkaa
namespace Go.Proofs.Ytlkpnpbodbokkaa
open Go.RowKit Go.Bs
set_option linter.unusedVariables false
set_option linter.unusedSimpArgs false

abbrev I40 : Nat := 1099511627776
theorem Wf_is (b : List UInt8) (p : Nat) (hb : b.length ≤ 60) (hp : p < b.length) :
    (∃ o m, Cop b p (o, m) ∧ Wf b I40 p = (csz o m + (Wf b I40 (p + m)).1, o, m)) ∨
    (∃ n, 1 ≤ n ∧ p + n ≤ b.length ∧ Wf b I40 p = (rsz n + (Wc b I40 (p + n)).1, 0, n) ∧ (p + n = b.length ∨ (p + n < b.length ∧ ∃ o m, Cop b (p + n) (o, m) ∧ Wc b I40 (p + n) = (csz o m + (Wf b I40 (p + n + m)).1, o, m)))) := by
  have hsm := Wf_le61 b I40 p hb
  have hin : Wf b I40 p = Wc b I40 p ∨ Wf b I40 p ∈ rList b I40 p (b.length - p) := by
    rw [(W_step b I40 p hp).2]; exact wbs_in _ _
  rcases hin with e | e
  · left
    rcases Wc_is b I40 p hb hp with h | ⟨o, m, hc, h⟩
    · exfalso; rw [e, h] at hsm; have hi : I40 = 1099511627776 := rfl; dsimp only at hsm; omega
    · exact ⟨o, m, hc, by rw [e, h]⟩
  · right
    obtain ⟨n, hn, e⟩ := List.mem_map.1 e
    rw [List.mem_range] at hn
    refine ⟨n + 1, by omega, by omega, e.symm, ?_⟩
    by_cases hq : p + (n + 1) < b.length
    · right
      refine ⟨hq, ?_⟩
      rcases Wc_is b I40 (p + (n + 1)) hb hq with h | h
      · exfalso; rw [← e, h] at hsm; have hi : I40 = 1099511627776 := rfl; dsimp only at hsm; omega
      · exact h
    · left; omega
/-- What has been put: tokens up to a place. -/
def Put (b : List UInt8) (p : Nat) (O : List Tok) : Prop := (∀ rest, Path b false p rest → Path b false 0 (O ++ rest)) ∧ (tokensB O).length + (Wf b I40 p).1 = (Wf b I40 0).1 ∧ O.length ≤ p ∧ p ≤ b.length
theorem tokensB_snoc (O : List Tok) (t : Tok) : (tokensB (O ++ [t])).length = (tokensB O).length + (tokB t).length := by
  unfold tokensB; simp
theorem Put.copy {b : List UInt8} {p o m : Nat} {O : List Tok} (h : Put b p O) (hc : Cop b p (o, m)) (hw : Wf b I40 p = (csz o m + (Wf b I40 (p + m)).1, o, m)) : Put b (p + m) (O ++ [⟨[], (o : Int), (m : Int)⟩]) := by
  obtain ⟨h1, h2, h3, h4⟩ := h
  have hml := mlen_le b p o
  have a4 := hc.2.2.2
  have a3 := hc.2.2.1
  dsimp only at a4 a3
  have hpb : p < b.length := by omega
  refine ⟨fun rest hr => ?_, ?_, by simp; omega, by omega⟩
  · rw [List.append_assoc]; exact h1 _ (Path.copy hc hr)
  · rw [tokensB_snoc, cost_copy o m hc.1]
    rw [hw] at h2
    dsimp only at h2
    omega
theorem Put.runEnd {b : List UInt8} {p n : Nat} {O : List Tok} (hb : b.length ≤ 60) (h : Put b p O) (hn : 1 ≤ n) (hp : p + n = b.length) (hw : Wf b I40 p = (rsz n + (Wc b I40 (p + n)).1, 0, n)) : Put b b.length (O ++ [⟨(b.drop p).take n, 0, 0⟩]) := by
  obtain ⟨h1, h2, h3, h4⟩ := h
  have hl : ((b.drop p).take n).length = n := by rw [List.length_take, List.length_drop]; omega
  refine ⟨fun rest hr => ?_, ?_, by simp; omega, Nat.le_refl _⟩
  · rw [path_end hr, List.append_nil]
    have := h1 [⟨(b.drop p).take (p + n - p), 0, 0⟩] (Path.run (by omega) (by omega) (by rw [hp]; exact Path.nil))
    rw [show p + n - p = n by omega] at this
    exact this
  · rw [tokensB_snoc, cost_run _ (by omega) (by omega), hl]
    rw [hw, hp, (W_end b I40 b.length (Nat.le_refl _)).2] at h2
    rw [(W_end b I40 b.length (Nat.le_refl _)).1]
    dsimp only at h2 ⊢
    omega
theorem Put.runCopy {b : List UInt8} {p n o m : Nat} {O : List Tok} (hb : b.length ≤ 60) (h : Put b p O) (hn : 1 ≤ n) (hp : p + n < b.length) (hw : Wf b I40 p = (rsz n + (Wc b I40 (p + n)).1, 0, n)) (hc : Cop b (p + n) (o, m)) (hc2 : Wc b I40 (p + n) = (csz o m + (Wf b I40 (p + n + m)).1, o, m)) :
    Put b (p + n + m) (O ++ [⟨(b.drop p).take n, 0, 0⟩] ++ [⟨[], (o : Int), (m : Int)⟩]) := by
  obtain ⟨h1, h2, h3, h4⟩ := h
  have hml := mlen_le b (p + n) o
  have a4 := hc.2.2.2
  have a3 := hc.2.2.1
  dsimp only at a4 a3
  have hl : ((b.drop p).take n).length = n := by rw [List.length_take, List.length_drop]; omega
  refine ⟨fun rest hr => ?_, ?_, by simp; omega, by omega⟩
  · rw [List.append_assoc, List.append_assoc]
    have := h1 (⟨(b.drop p).take (p + n - p), 0, 0⟩ :: ⟨[], (o : Int), (m : Int)⟩ :: rest) (Path.run (by omega) (by omega) (Path.copy hc hr))
    rw [show p + n - p = n by omega] at this
    exact this
  · rw [tokensB_snoc, tokensB_snoc, cost_copy o m hc.1, cost_run _ (by omega) (by omega), hl]
    rw [hw, hc2] at h2
    dsimp only at h2
    omega

set_option maxRecDepth 100000 in
set_option maxHeartbeats 6400000 in
theorem press_least (b : List UInt8) (hb : b.length ≤ 60) (a : Option Addr) (n c : Nat) (w : World) (hl : rBytes.r (· < w.heap.size) w [.slice a n c] b) :
    Calls Try.prog 6 #[.slice a n c] w fun r w' => (∃ v O, r = .returned (.tuple #[v, .int .i64 0]) ∧ rToks.r (fun q => w.heap.size ≤ q ∧ q < w'.heap.size) w' [v] O ∧ Put b b.length O) ∧ Below w.heap.size w w' := by
  have HW := hid (press_ways b hb a n c w hl)
  obtain ⟨rfl, hm, _, _⟩ := sl_len hl
  obtain ⟨i0, hi0, hz0, hz1, hz2⟩ := info_parts info8
  obtain ⟨j0, hj0, hy0, hy1, hy2⟩ := info_parts infoTok
  obtain ⟨N, hN⟩ : ∃ N, N = b.length + 1 := ⟨_, rfl⟩
  have d0 : decide ((1024 : Int) < (b.length : Int)) = false := decide_eq_false (by omega)
  have HL := hid hl
  have HN := hid hN
  have hNb : b.length < N := by omega
  rw [← hN] at HW
  clear hl hN
  go_enter Try.func6, Try.ntmps6
  go_wp2_with fail
  refine HW.out.mono ?_
  rintro r w1 ⟨⟨g, rfl, hg, hblk⟩, hb1⟩
  have HB1 := hid hb1
  have HT := hid hblk
  have hgl := hblk.lt
  have hb1z := hb1.size
  clear hblk hb1
  go_wp2_with fail
  go_loopw [5, 6] (fun v pv wr => ∃ (p : Nat) (O : List Tok), pv = .int .i64 p ∧ Hid (Put b p O) ∧ Hid (OwnEls w1.heap.size rTok w1.heap.size 33 3 wr v O) ∧ Below w1.heap.size w1 wr) (fun _ pv _ => b.length - (intOf pv).toNat)
  case atStart => exact ⟨0, [], rfl, hid ⟨fun rest h => h, by simp [tokensB], Nat.le_refl _, Nat.zero_le _⟩, hid OwnEls.nil, Below.refl _ _⟩
  case round =>
    obtain ⟨p, O, rfl, hput, hown, hb2⟩ := hrel
    obtain ⟨cells, hcl⟩ := hown.out
    obtain ⟨av, cv, rfl⟩ := own_form hcl.1
    have hOp := hput.out.2.2.1
    have hpb := hput.out.2.2.2
    have hbs := hb2.size
    have HCL := hid hcl
    have HB2 := hid hb2
    clear hcl hown hb2
    by_cases hlt : p < b.length
    · have i1 : (p : Int) < (b.length : Int) := by omega
      have i2 : (p : Int) < (N : Int) := by omega
      have HTr := hid (HT.out.below HB2.out hgl)
      obtain ⟨⟨d0', d1, d2⟩, hDe⟩ : ∃ D, Wf b I40 p = D := ⟨_, rfl⟩
      have q0 : wr.cell? ⟨g, p * 3, none⟩ = some (.int .i64 (d0' : Int)) := by
        have h := (HTr.out.cell (p * 3)).trans (wayA_get _ N p 0 (by omega) (by decide))
        rw [hDe] at h; exact h
      have q1 : wr.cell? ⟨g, p * 3 + 1, none⟩ = some (.int .i64 (d1 : Int)) := by
        have h := (HTr.out.cell (p * 3 + 1)).trans (wayA_get _ N p 1 (by omega) (by decide))
        rw [hDe] at h; exact h
      have q2 : wr.cell? ⟨g, p * 3 + 2, none⟩ = some (.int .i64 (d2 : Int)) := by
        have h := (HTr.out.cell (p * 3 + 2)).trans (wayA_get _ N p 2 (by omega) (by decide))
        rw [hDe] at h; exact h
      rcases Wf_is b p hb hlt with ⟨o, m, hc, hw⟩ | ⟨n, hn1, hn2, hw, hrest⟩
      · have hP := hid (hput.out.copy hc hw)
        have hml := mlen_le b p o
        have a1 := hc.1
        have a2 := hc.2.1
        have a3 := hc.2.2.1
        have a4 := hc.2.2.2
        dsimp only at a1 a2 a3 a4
        have hre : reach p ≤ 65536 := by unfold reach; omega
        have hrp : reach p ≤ p := by unfold reach; omega
        rw [hDe] at hw
        simp only [Prod.mk.injEq] at hw
        obtain ⟨rfl, rfl, rfl⟩ := hw
        have d3 : decide ((0 : Int) < (d1 : Int)) = true := decide_eq_true (by omega)
        have d3' : decide (0 < d1) = true := decide_eq_true (by omega)
        have n1 : (wr.alloc (.cells #[.int .i64 ((csz d1 d2 + (Wf b I40 (p + d2)).1 : Nat) : Int), .int .i64 (d1 : Int), .int .i64 (d2 : Int)] 45)).cell? ⟨wr.heap.size, 1, none⟩ = some (.int .i64 (d1 : Int)) := by simp
        have n2 : (wr.alloc (.cells #[.int .i64 ((csz d1 d2 + (Wf b I40 (p + d2)).1 : Nat) : Int), .int .i64 (d1 : Int), .int .i64 (d2 : Int)] 45)).cell? ⟨wr.heap.size, 2, none⟩ = some (.int .i64 (d2 : Int)) := by simp
        have HC7 := hid (HCL.out.below ((Below.refl wr.heap.size wr).alloc (Nat.le_refl _) (.cells #[.int .i64 ((csz d1 d2 + (Wf b I40 (p + d2)).1 : Nat) : Int), .int .i64 (d1 : Int), .int .i64 (d2 : Int)] 45)))
        have HB7 := hid (HB2.out.alloc hbs (.cells #[.int .i64 ((csz d1 d2 + (Wf b I40 (p + d2)).1 : Nat) : Int), .int .i64 (d1 : Int), .int .i64 (d2 : Int)] 45))
        generalize csz d1 d2 + (Wf b I40 (p + d2)).1 = dd at *
        obtain ⟨W7, hW7⟩ : ∃ W7, wr.alloc (.cells #[.int .i64 (dd : Int), .int .i64 (d1 : Int), .int .i64 (d2 : Int)] 45) = W7 := ⟨_, rfl⟩
        rw [hW7] at n1 n2 HC7 HB7
        have hW7z := HB7.out.size
        have hwr7 : wr.heap.size < W7.heap.size := by rw [← hW7]; simp
        clear hDe hput hc
        go_wp2_with (at_builtin; go_loud (refine wpList_append_src rfl _ _ _ rfl w1.heap.size 33 j0 (.agg #[.slice none 0 0, .int .i64 0, .int .i64 0]) 3 40 Try.underlying25 hj0 hy0 hy1 hy2 rfl (by decide) (.slice av O.length cv) O.length cells.flatten rfl (own_below HC7.out.1 (by (repeat (first | exact Below.refl _ _ | assumption | (refine below_alloc ?_ _) | (refine Below.setCell ?_ (by first | omega | (simp; done) | (simp; omega)) _) | (refine Below.drew ?_) | (refine below_drewN ?_ _) | (refine below_then (by assumption) ?_))))) (some ⟨W7.heap.size, 0, none⟩) 1 1 [.slice none 0 0, .int .i64 (d1 : Int), .int .i64 (d2 : Int)] rfl (src_new1 W7 33 _ rfl rfl rfl) (by intro u hu; simp at hu; rcases hu with rfl | rfl | rfl <;> rfl) (by simp only [maxLen]; omega) (by omega) (by simp; omega) ?_; intro v8 w8 hown8 hgrow8 hat8; obtain ⟨a8, c8, rfl⟩ := own_form hown8; have m2 : w8.cell? ⟨wr.heap.size, 2, none⟩ = some (.int .i64 (d2 : Int)) := (World.cell?_of_block (a := ⟨wr.heap.size, 2, none⟩) ((hgrow8.block wr.heap.size (by simp; omega) (fun e => by have := (HCL.out.1.lt _ e.symm).2; omega)).trans (Below.heap_alloc W7 _ _ (by omega)))).trans n2; have HG8 := hid hgrow8; have HO8 := hid hown8; have HA8 := hid hat8; clear hgrow8 hown8 hat8))
        have hx : rTok.r (fun q => w1.heap.size ≤ q ∧ q < (W7.alloc (.cells #[.slice none 0 0, .int .i64 (d1 : Int), .int .i64 (d2 : Int)] 33)).heap.size ∧ (Value.slice av O.length cv).ownBlock ≠ some q) (W7.alloc (.cells #[.slice none 0 0, .int .i64 (d1 : Int), .int .i64 (d2 : Int)] 33)) [.slice none 0 0, .int .i64 (d1 : Int), .int .i64 (d2 : Int)] ⟨[], d1, d2⟩ :=
          tok_mk (x := ⟨[], d1, d2⟩) (rSl_mk rfl (Nat.le_refl _) (Nat.zero_le _) (.inl rfl)) (by simp; omega) (by simp; omega)
        have hpu := OwnEls.push (HC7.out.below (by (repeat (first | exact Below.refl _ _ | assumption | (refine below_alloc ?_ _) | (refine Below.setCell ?_ (by first | omega | (simp; done) | (simp; omega)) _) | (refine Below.drew ?_) | (refine below_drewN ?_ _) | (refine below_then (by assumption) ?_))))) rfl hx HO8.out HG8.out HA8.out HG8.out.size
        have hb8 : Below w1.heap.size w1 w8 := Below.grown (by have := HB7.out; (repeat (first | exact Below.refl _ _ | assumption | (refine below_alloc ?_ _) | (refine Below.setCell ?_ (by first | omega | (simp; done) | (simp; omega)) _) | (refine Below.drew ?_) | (refine below_drewN ?_ _) | (refine below_then (by assumption) ?_)))) HG8.out (by simp; omega) (fun g e => (HC7.out.1.lt g e).1)
        have HPU := hid hpu
        clear hpu hx
        go_wp2_with fail
        go_roundw
        case rel => exact ⟨p + d2, O ++ [⟨[], (d1 : Int), (d2 : Int)⟩], by go_num, hP, HPU, hb8⟩
        case measure => simp [intOf]; omega
      · have hl' : ((b.drop p).take n).length = n := by rw [List.length_take, List.length_drop]; omega
        obtain ⟨A', c', hcut, hpart⟩ := cut_bytes HL.out (lo := p) (hi := p + n) (by omega) hn2
        rw [Nat.add_sub_cancel_left] at hpart
        rw [Nat.add_sub_cancel_left, Int.natCast_add] at hcut
        have HPe := hid (fun (h : p + n = b.length) => hput.out.runEnd hb hn1 h hw)
        have HPc := hid (fun o m (h : p + n < b.length) (h1 : Cop b (p + n) (o, m)) h2 => hput.out.runCopy (o := o) (m := m) hb hn1 h hw h1 h2)
        obtain ⟨D, hD⟩ : ∃ D, (b.drop p).take n = D := ⟨_, rfl⟩
        rw [hD] at hl' hpart HPe HPc
        have HDl := hid hl'
        have HONE := hid (byteCells_one D)
        have HS := hid (fun (W : World) (hW : Below w.heap.size w W) => (hl' ▸ src_bytes (lift hpart hW) : Src W A' n 1 (byteCells D)))
        have HFST := hid (fun (W : World) (hW : Below w1.heap.size w1 W) (h : p + n < b.length) => press_first b hb (p + n) h g a b.length c W (lift HL.out (HB1.out.trans (hW.mono hb1z))) (by rw [← HN.out]; exact HT.out.below hW hgl))
        rw [hDe] at hw
        simp only [Prod.mk.injEq] at hw
        obtain ⟨e1, e2, e3⟩ := hw
        rw [e1] at q0
        rw [e2] at q1
        rw [e3] at q2
        replace q1 : wr.cell? ⟨g, p * 3 + 1, none⟩ = some (.int .i64 0) := q1
        clear hD hl' hpart hDe hput e1 e2 e3
        have n1 : (wr.alloc (.cells #[.int .i64 ((rsz n + (Wc b I40 (p + n)).1 : Nat) : Int), .int .i64 0, .int .i64 (n : Int)] 45)).cell? ⟨wr.heap.size, 1, none⟩ = some (.int .i64 0) := by simp
        have n2 : (wr.alloc (.cells #[.int .i64 ((rsz n + (Wc b I40 (p + n)).1 : Nat) : Int), .int .i64 0, .int .i64 (n : Int)] 45)).cell? ⟨wr.heap.size, 2, none⟩ = some (.int .i64 (n : Int)) := by simp
        have HC7 := hid (HCL.out.below ((Below.refl wr.heap.size wr).alloc (Nat.le_refl _) (.cells #[.int .i64 ((rsz n + (Wc b I40 (p + n)).1 : Nat) : Int), .int .i64 0, .int .i64 (n : Int)] 45)))
        have HB7 := hid (HB2.out.alloc hbs (.cells #[.int .i64 ((rsz n + (Wc b I40 (p + n)).1 : Nat) : Int), .int .i64 0, .int .i64 (n : Int)] 45))
        generalize rsz n + (Wc b I40 (p + n)).1 = dd at q0 n1 n2 HC7 HB7
        obtain ⟨W7, hW7⟩ : ∃ W7, wr.alloc (.cells #[.int .i64 (dd : Int), .int .i64 0, .int .i64 (n : Int)] 45) = W7 := ⟨_, rfl⟩
        rw [hW7] at n1 n2 HC7 HB7
        have hW7z := HB7.out.size
        have hwr7 : wr.heap.size < W7.heap.size := by rw [← hW7]; simp
        have HBW7 := hid (HB1.out.trans (HB7.out.mono hb1z))
        rcases hrest with hq | ⟨hq, o, m, hc2, hw2⟩
        · have d4 : decide ((p : Int) + (n : Int) < (b.length : Int)) = false := decide_eq_false (by omega)
          have i4 : ¬ ((p : Int) + (n : Int) < (b.length : Int)) := by omega
          go_wp2_with (first | (at_builtin; (refine wpList_append_src rfl _ _ _ rfl W7.heap.size 5 i0 (.int .u8 0) 1 1 Try.underlying22 hi0 hz0 hz1 hz2 rfl (by decide) (.slice (some ⟨W7.heap.size, 0, none⟩) 0 0) 0 [] rfl (own_empty _ (Nat.le_refl _) rfl) A' n c' (byteCells D) rfl (HS.out _ (HBW7.out.alloc HBW7.out.size _)) HONE.out (by simp only [maxLen]; omega) (by omega) (by simp) ?_; intro v8 w8 hown8 hgrow8 hat8; rw [Nat.zero_add, List.nil_append] at hown8; obtain ⟨a8, c8, rfl⟩ := own_form hown8; have k8 : Below W7.heap.size W7 w8 := Below.grown ((Below.refl W7.heap.size W7).alloc (Nat.le_refl _) _) hgrow8 (by simp) (fun g e => by { have e' : some W7.heap.size = some g := e; injection e' with e'; omega }); have s8 := k8.size; have HG8 := hid hgrow8; have HO8 := hid hown8; have HA8 := hid hat8; have HK8 := hid k8; clear hown8 hgrow8 hat8 k8)) | (at_builtin; go_loud (refine wpList_append_src rfl _ _ _ rfl w1.heap.size 33 j0 (.agg #[.slice none 0 0, .int .i64 0, .int .i64 0]) 3 40 Try.underlying25 hj0 hy0 hy1 hy2 rfl (by decide) (.slice av O.length cv) O.length cells.flatten rfl (own_below (own_below HC7.out.1 HK8.out) (by (repeat (first | exact Below.refl _ _ | assumption | (refine below_alloc ?_ _) | (refine Below.setCell ?_ (by first | omega | (simp; done) | (simp; omega)) _) | (refine Below.drew ?_) | (refine below_drewN ?_ _) | (refine below_then (by assumption) ?_))))) (some ⟨w8.heap.size, 0, none⟩) 1 1 [.slice a8 n c8, .int .i64 0, .int .i64 0] rfl (src_new1 w8 33 _ rfl rfl rfl) (by intro u hu; simp at hu; rcases hu with rfl | rfl | rfl <;> rfl) (by simp only [maxLen]; omega) (by omega) (by simp; omega) ?_; intro v9 w9 hown9 hgrow9 hat9; obtain ⟨a9, c9, rfl⟩ := own_form hown9; have m2 : w9.cell? ⟨wr.heap.size, 2, none⟩ = some (.int .i64 (n : Int)) := (World.cell?_of_block (a := ⟨wr.heap.size, 2, none⟩) ((hgrow9.block wr.heap.size (by simp; omega) (fun e => by have := (HCL.out.1.lt _ e.symm).2; omega)).trans ((Below.heap_alloc w8 _ _ (by omega)).trans (HK8.out.block _ (by omega))))).trans n2; have HG9 := hid hgrow9; have HO9 := hid hown9; have HA9 := hid hat9; clear hgrow9 hown9 hat9)))
          have hA8 := own_bytes2 (l := D) (HDl.out.symm) HO8.out
          have hx : rTok.r (fun q => w1.heap.size ≤ q ∧ q < (w8.alloc (.cells #[.slice a8 n c8, .int .i64 0, .int .i64 0] 33)).heap.size ∧ (Value.slice av O.length cv).ownBlock ≠ some q) (w8.alloc (.cells #[.slice a8 n c8, .int .i64 0, .int .i64 0] 33)) [.slice a8 n c8, .int .i64 0, .int .i64 0] ⟨D, 0, 0⟩ :=
            tok_mk (x := ⟨D, 0, 0⟩) (rBytes.mono (rBytes.keep hA8 fun q hq => Below.heap_alloc w8 _ q hq.2) fun q hq => ⟨by omega, by simp; omega, fun e => by have := (HCL.out.1.lt q e).2; omega⟩) (by simp) (by simp)
          have hpu := OwnEls.push (HC7.out.below (HK8.out.alloc HK8.out.size (.cells #[.slice a8 n c8, .int .i64 0, .int .i64 0] 33))) rfl hx HO9.out HG9.out HA9.out HG9.out.size
          have hb9 : Below w1.heap.size w1 w9 := Below.grown ((HB7.out.trans (HK8.out.mono HB7.out.size)).alloc (by omega) (.cells #[.slice a8 n c8, .int .i64 0, .int .i64 0] 33)) HG9.out (by simp; omega) (fun g e => (HC7.out.1.lt g e).1)
          have HPU := hid hpu
          have HB9 := hid hb9
          clear hpu hx hA8 hb9
          go_wp2_with fail
          go_roundw
          case rel => exact ⟨p + n, O ++ [⟨D, 0, 0⟩], by go_num, hid (hq ▸ HPe.out hq), HPU, HB9.out⟩
          case measure => simp [intOf]; omega
        · have d4 : decide ((p : Int) + (n : Int) < (b.length : Int)) = true := decide_eq_true (by omega)
          have i4 : (p : Int) + (n : Int) < (b.length : Int) := by omega
          go_wp2_with (first | (at_builtin; (refine wpList_append_src rfl _ _ _ rfl W7.heap.size 5 i0 (.int .u8 0) 1 1 Try.underlying22 hi0 hz0 hz1 hz2 rfl (by decide) (.slice (some ⟨W7.heap.size, 0, none⟩) 0 0) 0 [] rfl (own_empty _ (Nat.le_refl _) rfl) A' n c' (byteCells D) rfl (HS.out _ (HBW7.out.alloc HBW7.out.size _)) HONE.out (by simp only [maxLen]; omega) (by omega) (by simp) ?_; intro v8 w8 hown8 hgrow8 hat8; rw [Nat.zero_add, List.nil_append] at hown8; obtain ⟨a8, c8, rfl⟩ := own_form hown8; have k8 : Below W7.heap.size W7 w8 := Below.grown ((Below.refl W7.heap.size W7).alloc (Nat.le_refl _) _) hgrow8 (by simp) (fun g e => by { have e' : some W7.heap.size = some g := e; injection e' with e'; omega }); have s8 := k8.size; have HG8 := hid hgrow8; have HO8 := hid hown8; have HA8 := hid hat8; have HK8 := hid k8; clear hown8 hgrow8 hat8 k8)) | (at_builtin; go_loud (refine wpList_append_src rfl _ _ _ rfl w1.heap.size 33 j0 (.agg #[.slice none 0 0, .int .i64 0, .int .i64 0]) 3 40 Try.underlying25 hj0 hy0 hy1 hy2 rfl (by decide) (.slice av O.length cv) O.length cells.flatten rfl (own_below (own_below HC7.out.1 HK8.out) (by (repeat (first | exact Below.refl _ _ | assumption | (refine below_alloc ?_ _) | (refine Below.setCell ?_ (by first | omega | (simp; done) | (simp; omega)) _) | (refine Below.drew ?_) | (refine below_drewN ?_ _) | (refine below_then (by assumption) ?_))))) (some ⟨w8.heap.size, 0, none⟩) 1 1 [.slice a8 n c8, .int .i64 0, .int .i64 0] rfl (src_new1 w8 33 _ rfl rfl rfl) (by intro u hu; simp at hu; rcases hu with rfl | rfl | rfl <;> rfl) (by simp only [maxLen]; omega) (by omega) (by simp; omega) ?_; intro v9 w9 hown9 hgrow9 hat9; obtain ⟨a9, c9, rfl⟩ := own_form hown9; have m2 : w9.cell? ⟨wr.heap.size, 2, none⟩ = some (.int .i64 (n : Int)) := (World.cell?_of_block (a := ⟨wr.heap.size, 2, none⟩) ((hgrow9.block wr.heap.size (by simp; omega) (fun e => by have := (HCL.out.1.lt _ e.symm).2; omega)).trans ((Below.heap_alloc w8 _ _ (by omega)).trans (HK8.out.block _ (by omega))))).trans n2; have HG9 := hid hgrow9; have HO9 := hid hown9; have HA9 := hid hat9; clear hgrow9 hown9 hat9)))
          have hA8 := own_bytes2 (l := D) (HDl.out.symm) HO8.out
          have hx : rTok.r (fun q => w1.heap.size ≤ q ∧ q < (w8.alloc (.cells #[.slice a8 n c8, .int .i64 0, .int .i64 0] 33)).heap.size ∧ (Value.slice av O.length cv).ownBlock ≠ some q) (w8.alloc (.cells #[.slice a8 n c8, .int .i64 0, .int .i64 0] 33)) [.slice a8 n c8, .int .i64 0, .int .i64 0] ⟨D, 0, 0⟩ :=
            tok_mk (x := ⟨D, 0, 0⟩) (rBytes.mono (rBytes.keep hA8 fun q hq => Below.heap_alloc w8 _ q hq.2) fun q hq => ⟨by omega, by simp; omega, fun e => by have := (HCL.out.1.lt q e).2; omega⟩) (by simp) (by simp)
          have hpu := OwnEls.push (HC7.out.below (HK8.out.alloc HK8.out.size (.cells #[.slice a8 n c8, .int .i64 0, .int .i64 0] 33))) rfl hx HO9.out HG9.out HA9.out HG9.out.size
          have hb9 : Below w1.heap.size w1 w9 := Below.grown ((HB7.out.trans (HK8.out.mono HB7.out.size)).alloc (by omega) (.cells #[.slice a8 n c8, .int .i64 0, .int .i64 0] 33)) HG9.out (by simp; omega) (fun g e => (HC7.out.1.lt g e).1)
          have HPU := hid hpu
          have HB9 := hid hb9
          clear hpu hx hA8 hb9
          have HF9 := HFST.out w9 HB9.out hq
          rw [← HN.out, hw2, Int.natCast_add] at HF9
          have HF := hid HF9
          have hP := hid (HPc.out o m hq hc2 hw2)
          have hml := mlen_le b (p + n) o
          have a1 := hc2.1
          have a2 := hc2.2.1
          have a3 := hc2.2.2.1
          have a4 := hc2.2.2.2
          dsimp only at a1 a2 a3 a4
          have hre : reach (p + n) ≤ 65536 := by unfold reach; omega
          have hrp : reach (p + n) ≤ p + n := by unfold reach; omega
          have hs9 := HB9.out.size
          clear HF9 hc2 hw2
          go_wp2_with (first | (go_at_call 18; refine HF.out.mono ?_; rintro r10 w10 ⟨rfl, hb10⟩; have HB10 := hid hb10; have hs10 := hb10.size; obtain ⟨cells9, hc9⟩ := HPU.out.below hb10; have HC10 := hid hc9; have e9 := hc9.1; rw [show (O ++ [(⟨D, 0, 0⟩ : Tok)]).length = O.length + 1 by simp] at e9; have HE9 := hid e9; clear hc9 hb10 e9) | (at_builtin; go_loud (refine wpList_append_src rfl _ _ _ rfl w1.heap.size 33 j0 (.agg #[.slice none 0 0, .int .i64 0, .int .i64 0]) 3 40 Try.underlying25 hj0 hy0 hy1 hy2 rfl (by decide) (.slice a9 (O.length + 1) c9) (O.length + 1) cells9.flatten rfl (own_below HE9.out (by (repeat (first | exact Below.refl _ _ | assumption | (refine below_alloc ?_ _) | (refine Below.setCell ?_ (by first | omega | (simp; done) | (simp; omega)) _) | (refine Below.drew ?_) | (refine below_drewN ?_ _) | (refine below_then (by assumption) ?_))))) (some ⟨w10.heap.size, 0, none⟩) 1 1 [.slice none 0 0, .int .i64 (o : Int), .int .i64 (m : Int)] rfl (src_new1 w10 33 _ rfl rfl rfl) (by intro u hu; simp at hu; rcases hu with rfl | rfl | rfl <;> rfl) (by simp only [maxLen]; omega) (by omega) (by simp; omega) ?_; intro v11 w11 hown11 hgrow11 hat11; obtain ⟨a11, c11, rfl⟩ := own_form hown11; have HG11 := hid hgrow11; have HO11 := hid hown11; have HA11 := hid hat11; clear hgrow11 hown11 hat11)))
          have hx : rTok.r (fun q => w1.heap.size ≤ q ∧ q < (w10.alloc (.cells #[.slice none 0 0, .int .i64 (o : Int), .int .i64 (m : Int)] 33)).heap.size ∧ (Value.slice a9 (O.length + 1) c9).ownBlock ≠ some q) (w10.alloc (.cells #[.slice none 0 0, .int .i64 (o : Int), .int .i64 (m : Int)] 33)) [.slice none 0 0, .int .i64 (o : Int), .int .i64 (m : Int)] ⟨[], o, m⟩ :=
            tok_mk (x := ⟨[], o, m⟩) (rSl_mk rfl (Nat.le_refl _) (Nat.zero_le _) (.inl rfl)) (by simp; omega) (by simp; omega)
          have h11 : w11.ownsRow w1.heap.size 33 3 (.slice a11 (O.length + 1 + 1) c11) ((O ++ [(⟨D, 0, 0⟩ : Tok)]).length + 1) (cells9.flatten ++ [.slice none 0 0, .int .i64 (o : Int), .int .i64 (m : Int)]) := by
            rw [List.length_append]; exact HO11.out
          have hpu := OwnEls.push (HC10.out.below ((Below.refl w10.heap.size w10).alloc (Nat.le_refl _) _)) (by simp) hx h11 HG11.out HA11.out HG11.out.size
          have hb11 : Below w1.heap.size w1 w11 := Below.grown ((HB9.out.trans (HB10.out.mono HB9.out.size)).alloc (by omega) _) HG11.out (by simp; omega) (fun g e => (HC10.out.1.lt g e).1)
          have HPV := hid hpu
          clear hpu hx h11
          go_wp2_with fail
          go_roundw
          case rel => exact ⟨p + n + m, O ++ [⟨D, 0, 0⟩] ++ [⟨[], (o : Int), (m : Int)⟩], by go_num, hP, HPV, hb11⟩
          case measure => simp [intOf]; omega
    · obtain rfl : p = b.length := by omega
      have hV := OwnEls.slice (Nat.le_refl _) ⟨_, HCL.out⟩
      have i1 : ¬ ((b.length : Int) < (b.length : Int)) := by omega
      have HV : Hid (rToks.r (fun q => w.heap.size ≤ q ∧ q < wr.heap.size) wr [.slice av O.length cv] O) := hid (rToks.mono hV fun q hq => ⟨by omega, hq.2⟩)
      have HBf := hid (HB1.out.trans (HB2.out.mono hb1z))
      clear hV
      go_wp2_with fail
      go_ret2
      exact ⟨⟨_, rfl, O, HV.out, hput.out⟩, HBf.out⟩
end Go.Proofs.Ytlkpnpbodbokkaa
namespace Go.Proofs.Ytlkpnpbodbokkaa
open Go.RowKit Go.Bs Go.Maps
set_option linter.unusedVariables false
set_option linter.unusedSimpArgs false

/-- What the plain side says of the least tokens. -/
structure LeastSaid (b : List UInt8) (O : List Tok) (L E : Nat) : Prop where
  len : O.length ≤ 60
  cost : (tokensB O).length = L
  least : L ≤ E
  short : b.length = 0 ∨ L ≤ b.length + 2
  right : ∀ (i : Nat) (t : Tok), O[i]? = some t → rightB t = true
  apart : ∀ (i : Nat) (t u : Tok), O[i]? = some t → O[i + 1]? = some u → (runB u && runB t) = false
  make : exT (b.length : Int) 0 [] O = (b, 0, 0)
theorem least_said {b : List UInt8} {O : List Tok} (hb : b.length ≤ 60) (h : Put b b.length O) : LeastSaid b O (Wf b 1099511627776 0).1 (tokensB (toksR b)).length := by
  obtain ⟨h1, h2, h3, h4⟩ := h
  have hp : Path b false 0 O := by have := h1 [] Path.nil; rwa [List.append_nil] at this
  rw [(W_end b I40 b.length (Nat.le_refl _)).1] at h2
  refine ⟨by omega, h2, (good_least hb (good_toksR b) (Nat.zero_le _)).1, ?_, fun i t ht => path_right (by omega) hp t (List.mem_of_getElem? ht), path_apart hp, ?_⟩
  · rcases Nat.eq_zero_or_pos b.length with h0 | h0
    · exact .inl h0
    · right
      have := Wf_le b 1099511627776 0 h0
      rw [rsz_small _ (by omega) (by omega)] at this
      omega
  · have := path_make (by omega) hp (Nat.zero_le _) 0
    rwa [List.take_zero] at this

set_option maxRecDepth 100000 in
set_option maxHeartbeats 6400000 in
theorem pressLeast_c (b : List UInt8) (a : Option Addr) (n c : Nat) (w : World) (hl : rBytes.r (· < w.heap.size) w [.slice a n c] b) :
    Calls Try.prog 3 #[.slice a n c] w fun r w' => r = .returned (.bool true) ∧ Below w.heap.size w w' := by
  obtain ⟨rfl, hm, _, _⟩ := sl_len hl
  by_cases h60 : b.length ≤ 60
  · have d1 : decide ((60 : Int) < (b.length : Int)) = false := decide_eq_false (by omega)
    have hlen : b.length ≤ 1048576 := by omega
    have HL := hid hl
    have HSAID := hid (fun O (h : Put b b.length O) => least_said h60 h)
    have hls := ref15_least b h60 a _ c w hl
    rw [(W_same b 1000000 1099511627776 h60 (by decide) (by decide) b.length 0 (by omega)).1] at hls
    have HLS := hid hls
    have HPL := hid (fun (W : World) (hW : Below w.heap.size w W) => press_least b h60 a _ c W (lift HL.out hW))
    have HSZ := hid (fun (W : World) (hW : Below w.heap.size w W) => least_size b h60 a _ c W (lift HL.out hW))
    have HGN := hid (fun (W : World) (hW : Below w.heap.size w W) => press_gain b h60 a _ c W (lift HL.out hW))
    have HRB := hid (fun (W : World) (hW : Below w.heap.size w W) => ref15_bytes W b a _ c (lift HL.out hW) hlen)
    have hsm := toksB_small hlen
    have hl61 := Wf_le61 b 1099511627776 0 h60
    generalize tokensB (toksR b) = E at *
    generalize (Wf b 1099511627776 0).1 = L at *
    clear hl hls
    go_enter Try.func3, Try.ntmps3
    go_wp2_with fail
    refine HLS.out.mono ?_
    rintro r w1 ⟨rfl, hb1⟩
    go_wp2_with fail
    refine (HPL.out _ hb1).mono ?_
    rintro r w2 ⟨⟨v2, O, rfl, hr2, hput⟩, hb2⟩
    obtain ⟨a2, c2, hv2, hr2', _⟩ := sl_form hr2
    simp only [List.cons.injEq, and_true] at hv2
    subst hv2
    have HO := hid (rToks.mono hr2' (S' := (· < w2.heap.size)) fun q hq => hq.2)
    have hsd := HSAID.out O hput
    have hOl := hsd.len
    have hcost := hsd.cost
    have hleast := hsd.least
    have hshort := hsd.short
    have HSD := hid hsd
    have HRT := hid (fun (W : World) (hW : Below w2.heap.size w2 W) => ref11_bytes O a2 _ c2 W (lift HO.out hW) (by omega) (fun t ht => by obtain ⟨i, hi, rfl⟩ := List.getElem_of_mem ht; exact HSD.out.right i _ (List.getElem?_eq_getElem hi)))
    have hbw2 := below_then hb2 hb1
    clear hr2 hr2' hput hsd
    go_wp2_with fail
    refine (HSZ.out _ hbw2).mono ?_
    rintro r w3 ⟨rfl, hb3⟩
    have hbw3 := below_then hb3 hbw2
    go_wp2_with fail
    refine (HRT.out _ hb3).mono ?_
    rintro r w4 ⟨v4, rfl, hr4, hb4⟩
    have hbw4 := below_then hb4 hbw3
    have hb24 := below_then hb4 hb3
    obtain ⟨a4, c4, hv4, _, _⟩ := sl_form hr4
    simp only [List.cons.injEq, and_true] at hv4
    subst hv4
    rw [hcost]
    clear hr4
    go_wp2_with fail
    refine (HGN.out _ hbw4).mono ?_
    rintro r w5 ⟨rfl, hb5⟩
    have hbw5 := below_then hb5 hbw4
    have hb25 := below_then hb5 hb24
    go_wp2_with fail
    refine (HRB.out _ hbw5).mono ?_
    rintro r w6 ⟨v6, rfl, hr6, hb6⟩
    have hbw6 := below_then hb6 hbw5
    have hb26 := below_then hb6 hb25
    obtain ⟨a6, c6, hv6, _, _⟩ := sl_form hr6
    simp only [List.cons.injEq, and_true] at hv6
    subst hv6
    clear hr6
    have HB26 := hid hb26
    have HBW6 := hid hbw6
    have hw26 := hb26.size
    have hww6 := hbw6.size
    have e9 : ((E.length : Int) - (L : Int) == (E.length : Int) - (L : Int)) = true := by simp
    clear hb1 hb2 hb3 hb4 hb5 hb6 hbw2 hbw3 hbw4 hbw5 hbw6 hb24 hb25 hb26 HPL HSZ HGN HLS HRT
    go_wp2_with fail
    go_loopw [6] (fun iv wr => ∃ i : Nat, i ≤ O.length ∧ iv = .int .i64 (i : Int) ∧ Below w6.heap.size w6 wr) (fun iv _ => O.length - (intOf iv).toNat)
    case atStart => exact ⟨0, Nat.zero_le _, rfl, Below.refl _ _⟩
    case round =>
      obtain ⟨i, hi, rfl, hbr⟩ := hrel
      have HBR := hid hbr
      have hb2r := HB26.out.trans (hbr.mono hw26)
      have HOr := hid (lift HO.out hb2r)
      have HBWr := hid (HBW6.out.trans (hbr.mono hww6))
      have hwrz := hbr.size
      clear hbr hb2r
      by_cases hlt : i < O.length
      · have i1 : (i : Int) < (O.length : Int) := by omega
        obtain ⟨g, o, hA, hg, at_, ct, x0, x1, x2, z1, z2, zl⟩ := tok_at HOr.out hlt
        subst hA
        have hri := ref11_right O[i] at_ ct wr (by have := (sl_len zl).2.1; omega) z1 z2
        rw [HSD.out.right i _ (List.getElem?_eq_getElem hlt)] at hri
        have HRI := hid hri
        have HRU := hid (fun (W : World) => ref11_run O[i] at_ ct W (by have := (sl_len zl).2.1; omega) z1 z2)
        rcases Nat.eq_zero_or_pos i with h0 | h0
        · have d3 : decide ((0 : Int) < (i : Int)) = false := decide_eq_false (by omega)
          have d3' : decide (0 < i) = false := decide_eq_false (by omega)
          clear hri zl z1 z2
          generalize O[i] = U at *
          clear h0
          go_wp2_with fail
          refine HRI.out.mono ?_
          rintro r w7 ⟨rfl, hb7⟩
          have HB7 := hid (HBR.out.trans (hb7.mono hwrz))
          go_wp2_with fail
          go_roundw
          case rel => exact ⟨i + 1, by omega, by go_num, HB7.out⟩
          case measure => (simp [intOf]; try omega)
        · obtain ⟨k, rfl⟩ : ∃ k, i = k + 1 := ⟨i - 1, by omega⟩
          have hap := HSD.out.apart k _ _ (List.getElem?_eq_getElem (by omega)) (List.getElem?_eq_getElem hlt)
          obtain ⟨g', o', hA', hg', at2, ct2, y0, y1, y2, t1, t2, tl⟩ := tok_at HOr.out (i := k) (by omega)
          simp only [Option.some.injEq, Addr.mk.injEq, and_true] at hA'
          obtain ⟨rfl, rfl⟩ := hA'
          have HRV := hid (fun (W : World) => ref11_run O[k] at2 ct2 W (by have := (sl_len tl).2.1; omega) t1 t2)
          clear hri zl z1 z2 tl t1 t2
          generalize O[k + 1] = U at *
          generalize O[k] = T at *
          go_wp2_with fail
          refine HRI.out.mono ?_
          rintro r w7 ⟨rfl, hb7⟩
          have X0 := (hb7.cell (p := ⟨g, o + (k + 1) * 3, none⟩) hg).trans x0
          have X1 := (hb7.cell (p := ⟨g, o + (k + 1) * 3 + 1, none⟩) hg).trans x1
          have X2 := (hb7.cell (p := ⟨g, o + (k + 1) * 3 + 2, none⟩) hg).trans x2
          have Y0 := (hb7.cell (p := ⟨g, o + k * 3, none⟩) hg).trans y0
          have Y1 := (hb7.cell (p := ⟨g, o + k * 3 + 1, none⟩) hg).trans y1
          have Y2 := (hb7.cell (p := ⟨g, o + k * 3 + 2, none⟩) hg).trans y2
          have hg7 : g < w7.heap.size := Nat.lt_of_lt_of_le hg hb7.size
          have HB7 := hid (HBR.out.trans (hb7.mono hwrz))
          have hs7 := HB7.out.size
          clear x0 x1 x2 y0 y1 y2 hb7
          have hru := HRU.out w7
          by_cases hrun : runB U = true
          · rw [hrun] at hru hap
            rw [Bool.true_and] at hap
            have HRu := hid hru
            clear hru
            go_wp2_with fail
            refine HRu.out.mono ?_
            rintro r w8 ⟨rfl, hb8⟩
            have Z0 := (hb8.cell (p := ⟨g, o + k * 3, none⟩) hg7).trans Y0
            have Z1 := (hb8.cell (p := ⟨g, o + k * 3 + 1, none⟩) hg7).trans Y1
            have Z2 := (hb8.cell (p := ⟨g, o + k * 3 + 2, none⟩) hg7).trans Y2
            have HB8 := hid (HB7.out.trans (hb8.mono hs7))
            have hs8 := HB8.out.size
            have hrv := HRV.out w8
            rw [hap] at hrv
            have HRv := hid hrv
            clear hrv X0 X1 X2 Y0 Y1 Y2 hb8
            go_wp2_with fail
            refine HRv.out.mono ?_
            rintro r w9 ⟨rfl, hb9⟩
            have HB9 := hid (HB8.out.trans (hb9.mono hs8))
            clear Z0 Z1 Z2 hb9
            go_wp2_with fail
            go_roundw
            case rel => exact ⟨k + 1 + 1, by omega, by go_num, HB9.out⟩
            case measure => (simp [intOf]; try omega)
          · rw [eq_false_of_ne_true hrun] at hru
            have HRu := hid hru
            clear hru
            go_wp2_with fail
            refine HRu.out.mono ?_
            rintro r w8 ⟨rfl, hb8⟩
            have HB8 := hid (HB7.out.trans (hb8.mono hs7))
            clear hb8 X0 X1 X2 Y0 Y1 Y2
            go_wp2_with fail
            go_roundw
            case rel => exact ⟨k + 1 + 1, by omega, by go_num, HB8.out⟩
            case measure => (simp [intOf]; try omega)
      · obtain rfl : i = O.length := by omega
        have i1 : ¬ ((O.length : Int) < (O.length : Int)) := by omega
        have hex := ref12_tokens wr O a2 _ c2 HOr.out (b.length : Int) (by omega)
        rw [HSD.out.make] at hex
        have HEX := hid hex
        clear hex
        go_wp2_with fail
        refine HEX.out.mono ?_
        rintro r w7 ⟨v7, rfl, hr7, hb7⟩
        obtain ⟨a7, c7, hv7, hr7', _⟩ := sl_form hr7
        simp only [List.cons.injEq, and_true] at hv7
        subst hv7
        have HB7 := hid hb7
        have HV7 := hid (rBytes.mono hr7' (S' := (· < w7.heap.size)) fun q hq => hq.2)
        have hbw7 := below_then hb7 HBWr.out
        have HBW7 := hid hbw7
        have hww7 := hbw7.size
        have HSM := hid (fun (W : World) (hW : Below w7.heap.size w7 W) => (same_bytes b b a7 a _ c7 _ c W (lift HV7.out hW) (lift HL.out (HBW7.out.trans (hW.mono hww7)))))
        simp only [decide_true] at HSM
        clear hr7 hr7' hb7 hbw7
        go_wp2_with fail
        refine (HSM.out _ (by (repeat (first | exact Below.refl _ _ | assumption | (refine below_alloc ?_ _) | (refine Below.setCell ?_ (by first | omega | (simp; done) | (simp; omega)) _) | (refine Below.drew ?_) | (refine below_drewN ?_ _) | (refine below_then (by assumption) ?_))))).mono ?_
        rintro r w8 ⟨rfl, rfl⟩
        go_wp2_with fail
        refine (HRB.out _ (HBW7.out.alloc hww7 _)).mono ?_
        rintro r w9 ⟨v9, rfl, hr9, hb9⟩
        obtain ⟨a9, c9, hv9, _, _⟩ := sl_form hr9
        simp only [List.cons.injEq, and_true] at hv9
        subst hv9
        have hbw9 := below_then hb9 (HBW7.out.alloc hww7 _)
        have HBW9 := hid hbw9
        have i5 : (L : Int) ≤ (E.length : Int) := by omega
        have d5 : decide ((L : Int) ≤ (E.length : Int)) = true := decide_eq_true i5
        clear hr9 hb9 hbw9
        rcases Nat.eq_zero_or_pos b.length with h0 | h0
        · have e0 : ((b.length : Int) == 0) = true := beq_iff_eq.2 (by omega)
          go_wp2_with fail
          refine (live15 _).mono ?_
          rintro r w10 ⟨rfl, hb10⟩
          have hbe := below_then hb10 HBW9.out
          go_wp2_with fail
          go_ret
          exact ⟨rfl, hbe⟩
        · have e0 : ((b.length : Int) == 0) = false := beq_eq_false_iff_ne.2 (by omega)
          have i6 : (L : Int) ≤ (b.length : Int) + 2 := by omega
          have d6 : decide ((L : Int) ≤ (b.length : Int) + 2) = true := decide_eq_true i6
          go_wp2_with fail
          refine (live15 _).mono ?_
          rintro r w10 ⟨rfl, hb10⟩
          have hbe := below_then hb10 HBW9.out
          go_wp2_with fail
          go_ret
          exact ⟨rfl, hbe⟩
  · have d1 : decide ((60 : Int) < (b.length : Int)) = true := decide_eq_true (by omega)
    go_enter Try.func3, Try.ntmps3
    go_wp2_with fail
    refine (live15 _).mono ?_
    rintro r w9 ⟨rfl, hb9⟩
    go_wp2
    go_ret
    exact ⟨rfl, hb9⟩

set_option maxRecDepth 100000 in
theorem pressLeast_walk {H : Type} (enc : TypeId × Value → H) (W : World) (base : Nat) (v0 : Value) (d0 : DataW H) (p0 : List MemPlace)
    (k0 : DataW.Trod enc Try.prog W 0 (fun _ => true) true 22 v0 d0 p0) (o0 : Value.okWide Try.prog W .any base 22 v0) :
    Calls Try.prog 3 #[v0] W fun e w' => e = .returned (.bool true) ∧ Below W.heap.size W w' := by
  obtain ⟨fuel, hf⟩ := k0
  obtain ⟨a, len, cap, rfl⟩ := Go.WideShapes.okWide_slice Try.underlying22 o0
  obtain ⟨b, hb⟩ := o_bytes enc W fuel _ _ hf
  exact pressLeast_c b a len cap W hb
end Go.Proofs.Ytlkpnpbodbokkaa
