/- Needed by pushNone_walk, part 2: texts put together by shake.py; no condition. -/
import Derived.Test.YtfddhafbhceoaaaGreatWA1
import Derived.StillTailTactics
import Derived.StillTail
import Derived.RegionTactic
import Derived.OrdersHeld
import Derived.Deep.RegionHeld
namespace Go.Proofs.YtfddhafbhceoaaaGreat
open Go.RowKit Go.Bs Go.Maps Go.Shelf
set_option linter.unusedVariables false
set_option linter.unusedSimpArgs false

def plcF (b : List UInt8) (k m : Nat) : Nat → List (Fin m)
  | 0 => []
  | j + 1 => if h : j < m then (if keyAt b j = some k then ⟨j, h⟩ :: plcF b k m j else plcF b k m j) else plcF b k m j
theorem plcF_none (b : List UInt8) (k m : Nat) : ∀ j, lastP b k j = 0 → plcF b k m j = []
  | 0, _ => rfl
  | j + 1, h => by
    simp only [lastP] at h
    split at h
    · omega
    · rename_i hk
      have ih := plcF_none b k m j h
      simp only [plcF]
      split
      · first | exact ih | (rw [if_neg hk]; exact ih)
      · exact ih
theorem plcF_some (b : List UInt8) (k m : Nat) : ∀ (j i : Nat) (hi : i < m), lastP b k j = i + 1 → plcF b k m j = ⟨i, hi⟩ :: plcF b k m i
  | 0, i, hi, h => by simp [lastP] at h
  | j + 1, i, hi, h => by
    simp only [lastP] at h
    split at h
    · rename_i hk
      obtain rfl : j = i := by omega
      simp only [plcF]
      rw [dif_pos hi, if_pos hk]
    · rename_i hk
      have ih := plcF_some b k m j i hi h
      simp only [plcF]
      split
      · first | exact ih | (rw [if_neg hk]; exact ih)
      · exact ih
def near (p : Nat) (q : Fin p) : Bool := decide (p - q.val ≤ 65536)
def placesOf (b : List UInt8) (p : Nat) : List (Fin p) := match keyAt b p with | none => [] | some k => (plcF b k p p).takeWhile (near p)
theorem lastP_next (b : List UInt8) (k j i : Nat) (h : lastP b k j = i + 1) : keyAt b i = some k ∧ i < j := by
  have h1 := lastP_key b k j (by omega)
  have h2 := lastP_le b k j
  rw [h] at h1 h2
  exact ⟨by simpa using h1, by omega⟩
theorem prevN_next {b : List UInt8} {k i : Nat} (h : keyAt b i = some k) : prevN b i = lastP b k i := by unfold prevN; rw [h]

theorem own_row_at {w : World} {base : Nat} {e : TypeId} {v : Value} {n : Nat} {xs : List Value} (h : w.ownsRow base e 1 v n xs) {i : Nat} {u : Value} (hi : xs[i]? = some u) (hn : n = xs.length) : ∃ gp c, v = .slice (some ⟨gp, 0, none⟩) n c ∧ w.cell? ⟨gp, i, none⟩ = some u ∧ gp < w.heap.size := by
  have hlt := (List.getElem?_eq_some_iff.1 hi).1
  rcases h.2 with ⟨_, h0⟩ | ⟨g, cap, cur, h1, h2, h3, h4, h5, h6, h7⟩
  · omega
  · refine ⟨g, cap, h1, ?_, (Array.getElem?_eq_some_iff.1 h3).1⟩
    rw [Blk.cell h3 i]
    have e1 : cur[i]? = (cur.toList.take (n * 1))[i]? := by
      rw [List.getElem?_take, if_pos (by omega)]; simp
    rw [e1, h7]; exact hi
theorem prevs_at {b : List UInt8} {n i : Nat} (h : i < n) : (prevs b n)[i]? = some (.int .i64 (prevN b i : Int)) := by simp [prevs, h]

/-- What the iterator reads lies as it lay. -/
def KpC (Q : Nat → Prop) (w w' : World) : Prop := ∀ q, Q q → w'.heap[q]? = w.heap[q]?
theorem KpC.trans {Q : Nat → Prop} {w w' w'' : World} (h : KpC Q w w') (k : KpC Q w' w'') : KpC Q w w'' := fun q hq => (k q hq).trans (h q hq)
theorem drew_grown (w : World) (n : Nat) : w.grownBy (w.drewN n) none := ⟨rfl, rfl, rfl, Nat.le_refl _, fun _ _ _ => rfl⟩

set_option maxRecDepth 100000 in
set_option maxHeartbeats 3200000 in
theorem places_stops (w : World) {g mb base : Nat} {b : List UInt8} {p : Nat} {ab : Option Addr} {cb : Nat} {ap : Option Addr} {cp : Nat} {bc ba n : Nat} (h : ChAt w g mb base b p ab cb ap cp) (hc : Blk w bc 385 #[.pointer (some ⟨g, 0, none⟩)]) (ha : Blk w ba 3 #[.int .i64 (p : Int)]) :
    SeqStopsK Fence.wide n Tryz.prog 386 #[.pointer (some ⟨bc, 0, none⟩), .pointer (some ⟨ba, 0, none⟩)] (fun x : Fin p => #[.int .i64 (x.val : Int)]) (KpC fun q => q = g ∨ q = mb ∨ (Value.slice ap p cp).ownBlock = some q ∨ q = bc ∨ q = ba)
      (fun xs => xs = placesOf b p) (fun pre => pre <+: placesOf b p) (placesOf b p).length w := by
  intro l J Jx W hW hJ hJx hY h0
  have hlen := h.len
  have hle := h.le
  have hK0 : KpC (fun q => q = g ∨ q = mb ∨ (Value.slice ap p cp).ownBlock = some q ∨ q = bc ∨ q = ba) w W := fun q hq => by
    rcases hq with rfl | rfl | hq | rfl | rfl
    · exact hW.block _ h.blk.lt
    · obtain ⟨D, hD, _⟩ := h.map; exact hW.block _ hD.lt
    · exact hW.block _ (h.prev.lt _ hq).2
    · exact hW.block _ hc.lt
    · exact hW.block _ ha.lt
  have hkey := fun (nq : Nat) => chain_key b p ab b.length cb (W.drewN nq) (rBytes.mono (rBytes.keep h.bytes fun q hq => hW.block q hq.1) fun q hq => Nat.lt_of_lt_of_le hq.1 hW.size) hlen (by omega)
  have hg0 := h.blk; have hmap := h.map; have hprev := h.prev
  have HG0 := hid hg0; have HMAP := hid hmap; have HPREV := hid hprev; have HC := hid hc; have HAA := hid ha
  have HY := hid hY; have HJ := hid hJ; have HJX := hid hJx
  have HWs := hid hW
  have HKEY := hid hkey
  clear h hg0 hmap hprev hc ha hY hJ hJx hW hkey
  have c1 : W.cell? ⟨bc, 0, none⟩ = some (.pointer (some ⟨g, 0, none⟩)) := (Blk.later HC.out HWs.out).cell 0
  have c2 : W.cell? ⟨ba, 0, none⟩ = some (.int .i64 (p : Int)) := (Blk.later HAA.out HWs.out).cell 0
  have c3 : W.cell? ⟨g, 0, none⟩ = some (.slice ab b.length cb) := (Blk.later HG0.out HWs.out).cell 0
  have c4 : W.cell? ⟨g, 1, none⟩ = some (.map (some mb)) := (Blk.later HG0.out HWs.out).cell 1
  refine callsIn_of_wp Tryz.func386 rfl trivial ?_ rfl
  simp only [Tryz.ntmps386, List.size_toArray, List.length_cons, List.length_nil, Nat.reduceAdd, Nat.reduceSub, Array.replicate_succ, Array.replicate_zero, List.push_toArray, List.append_toArray, List.nil_append, List.cons_append]
  have hfw : ∀ f, Fence.wide.fn f = True := fun _ => rfl
  gi_wp2
  refine wpIn_region_rdrawn (by kernel_rfl) (by kernel_rfl) (by kernel_rfl) ?_
  repeat (gi_big_quiet_step ((refine ⟨wide_d, callsIn_wide.2 ((HKEY.out _).mono fun e w' ⟨he, hw⟩ => ⟨he, _, hw.symm⟩)⟩)))
  refine wpQuietIn_nil ?_
  intro _ hw'
  obtain ⟨nq, rfl⟩ := hw'
  have h1 : Hid (J [] (W.drewN nq)) := hid (HJ.out [] W _ none h0 (drew_grown W nq) (fun r e => by cases e))
  have hkv : Hid (keyV b p = match keyAt b p with | some k => ((k : Int), true) | none => (0, false)) := hid rfl
  have hpo : Hid (placesOf b p = match keyAt b p with | none => [] | some k => (plcF b k p p).takeWhile (near p)) := hid rfl
  cases hk : keyAt b p with
  | none =>
    have hv : keyV b p = (0, false) := by rw [hkv.out, hk]
    have hp0 : Hid (placesOf b p = []) := hid (by rw [hpo.out, hk])
    rw [hv]
    clear hv hk hkv hpo
    gi_wp2
    refine bodyPost_ret (results_none rfl _ _ _) rfl ?_
    exact ⟨⟨_, rfl⟩, .inl ⟨[], hp0.out.symm, h1.out⟩⟩
  | some k =>
    have hv : keyV b p = ((k : Int), true) := by rw [hkv.out, hk]
    have hp0 : Hid (placesOf b p = (plcF b k p p).takeWhile (near p)) := hid (by rw [hpo.out, hk])
    have hW := hid (u32_wf (keyAt_lt hk))
    have hklt := hid (keyAt_lt hk)
    rw [hv]
    clear hv hk hkv hpo
    obtain ⟨D, hD, hL⟩ := HMAP.out
    have hD2 := hid (map_keep (w' := W.drewN nq) hD (HWs.out.block _ hD.lt))
    have HL := hid hL
    clear hD hL
    gi_wp2_with (gi_at_lookup; go_loud (refine wpListIn_lookup_own_int _ rfl _ _ 393 rfl 142 3 .i64 lawU32 Tryz.underlying393 Tryz.underlying3 (zeroInt _) mb p D rfl hD2.out _ _ rfl (keyOf_int_mk Tryz.underlying142 hW.out) ?_; intro c hat hwc; have hc : c = (lastP b k p : Int) := (by have := HL.out k hklt.out; rw [hat] at this; simpa using this); subst hc; clear hat hwc))
    gi_loopw [6] (fun kk wr => ∃ (pre : List (Fin p)) (j : Nat), j ≤ p ∧ kk = .int .i64 (lastP b k j : Int) ∧ Hid (placesOf b p = pre ++ (plcF b k p j).takeWhile (near p)) ∧ Hid (J pre wr) ∧ Hid (KpC (fun q => q = g ∨ q = mb ∨ (Value.slice ap p cp).ownBlock = some q ∨ q = bc ∨ q = ba) w wr)) (fun kk _ => (intOf kk).toNat)
    case atStart => exact ⟨[], p, Nat.le_refl _, rfl, hid (by rw [hp0.out]; rfl), h1, hid (KpC.trans hK0 fun q hq => rfl)⟩
    case round =>
      obtain ⟨pre, j, hj, rfl, hx, hJs, hKs⟩ := hrel
      have hle2 := lastP_le b k j
      cases hlj : lastP b k j with
      | zero =>
        have hend : Hid (placesOf b p = pre) := hid (by rw [hx.out, plcF_none b k p j hlj]; simp)
        clear hlj
        gi_wp2
        go_end0
        exact ⟨⟨_, rfl⟩, .inl ⟨pre, hend.out.symm, hJs.out⟩⟩
      | succ i =>
        obtain ⟨hki, hij⟩ := lastP_next b k j i hlj
        have hip : i < p := by omega
        have hstep : (plcF b k p j).takeWhile (near p) = if near p ⟨i, hip⟩ then ⟨i, hip⟩ :: (plcF b k p i).takeWhile (near p) else [] := by
          rw [plcF_some b k p j i hip hlj, List.takeWhile_cons]
        have hpn := prevN_next hki
        have HS := hid hstep; have HPN := hid hpn
        clear hlj hki hstep hpn
        have B1 := (hKs.out bc (.inr (.inr (.inr (.inl rfl))))).trans HC.out
        have B2 := (hKs.out ba (.inr (.inr (.inr (.inr rfl))))).trans HAA.out
        have r1 : wr.cell? ⟨bc, 0, none⟩ = some (.pointer (some ⟨g, 0, none⟩)) := Blk.cell B1 0
        have r2 : wr.cell? ⟨ba, 0, none⟩ = some (.int .i64 (p : Int)) := Blk.cell B2 0
        clear B1 B2
        have t0 : (0 : Int) < ((i + 1 : Nat) : Int) := by omega
        by_cases hnr : p - i ≤ 65536
        · have hn2 : near p ⟨i, hip⟩ = true := by simp [near, hnr]
          have hx2 : Hid (placesOf b p = pre ++ ⟨i, hip⟩ :: (plcF b k p i).takeWhile (near p)) := hid (by rw [hx.out, HS.out, hn2, if_pos rfl])
          obtain ⟨fn, tmps, assign, body, hy, hR⟩ := HY.out pre ⟨i, hip⟩ wr hJs.out (by rw [hx2.out]; simp)
          have d1 : decide ((65536 : Int) < (p : Int) - (i : Int)) = false := by simp; omega
          have d2 : decide ((i : Int) < (p : Int)) = true := by simp; omega
          have d2' : decide (i < p) = true := by simp; omega
          dsimp only at hy
          have HR := hid hR; clear hR hn2
          gi_wp2
          refine ⟨wide_d, ?_⟩
          refine HR.out.mono ?_
          rintro e W3 (⟨rfl, hJ3, hk3⟩ | ⟨rfl, hJx3⟩)
          · have hK3 := KpC.trans hKs.out hk3
            have HJ3 := hid hJ3; have HK3 := hid hK3
            clear hJ3 hk3 hK3
            have B1 := (HK3.out bc (.inr (.inr (.inr (.inl rfl))))).trans HC.out
            have B3 := (HK3.out g (.inl rfl)).trans HG0.out
            obtain ⟨gp, cp2, hvp, hcp, hgp⟩ := own_row_at HPREV.out (prevs_at (b := b) hip) (prevs_length b p).symm
            simp only [Value.slice.injEq, true_and] at hvp
            obtain ⟨rfl, rfl⟩ := hvp
            have q1 : W3.cell? ⟨bc, 0, none⟩ = some (.pointer (some ⟨g, 0, none⟩)) := Blk.cell B1 0
            have q3 : W3.cell? ⟨g, 2, none⟩ = some (.slice (some ⟨gp, 0, none⟩) p cp) := Blk.cell B3 2
            have q4 : W3.cell? ⟨gp, i, none⟩ = some (.int .i64 (prevN b i : Int)) := (World.cell?_of_block (a := ⟨gp, i, none⟩) (HK3.out gp (.inr (.inr (.inl rfl))))).trans hcp
            rw [HPN.out] at q4
            have i1 : (i : Int) < (p : Int) := by omega
            have i2 : (0 : Int) ≤ (i : Int) := by omega
            clear hcp B1 B3
            gi_wp2
            go_roundw
            case rel => exact ⟨pre ++ [⟨i, hip⟩], i, by omega, rfl, hid (by rw [hx2.out]; simp), HJ3, HK3⟩
            case measure =>
              have := lastP_le b k i
              simp [intOf]; omega
          · have HJX3 := hid hJx3; clear hJx3
            gi_wp2
            refine bodyPost_ret (results_none rfl _ _ _) rfl ?_
            exact ⟨⟨_, rfl⟩, .inr ⟨pre ++ [⟨i, hip⟩], ⟨(plcF b k p i).takeWhile (near p), by rw [hx2.out]; simp⟩, HJX3.out⟩⟩
        · have hn2 : near p ⟨i, hip⟩ = false := by simp [near]; omega
          have hend : Hid (placesOf b p = pre) := hid (by rw [hx.out, HS.out, hn2]; simp)
          have d1 : decide ((65536 : Int) < (p : Int) - (i : Int)) = true := by simp; omega
          clear hn2
          gi_wp2
          refine bodyPost_ret (results_none rfl _ _ _) rfl ?_
          exact ⟨⟨_, rfl⟩, .inl ⟨pre, hend.out.symm, hJs.out⟩⟩
open Go.RowKit Go.Bs

def stepB (b : List UInt8) (p : Nat) (s : Nat × Nat) (q : Fin p) : Nat × Nat := if s.2 < mlen b p (p - q.val) then (p - q.val, mlen b p (p - q.val)) else s
def bestL (b : List UInt8) (p : Nat) (l : List (Fin p)) : Nat × Nat := l.foldl (stepB b p) (0, 0)
theorem bestL_snoc (b : List UInt8) (p : Nat) (l : List (Fin p)) (q : Fin p) : bestL b p (l ++ [q]) = stepB b p (bestL b p l) q := by simp [bestL]
def takenR (s : Nat × Nat) : Nat × Nat := (if s.2 < 4 then 0 else s.1, if s.2 < 4 then 0 else s.2)

theorem plcF_mem (b : List UInt8) (k m : Nat) : ∀ j, j ≤ m → ∀ q : Fin m, q ∈ plcF b k m j ↔ q.val < j ∧ keyAt b q.val = some k
  | 0, _, q => by simp [plcF]
  | j + 1, hj, q => by
    have ih := plcF_mem b k m j (by omega) q
    simp only [plcF]
    rw [dif_pos (by omega)]
    by_cases hk : keyAt b j = some k
    · rw [if_pos hk, List.mem_cons, ih]
      constructor
      · rintro (rfl | ⟨h1, h2⟩)
        · exact ⟨by simp, hk⟩
        · exact ⟨by omega, h2⟩
      · rintro ⟨h1, h2⟩
        by_cases e : q.val = j
        · exact .inl (Fin.ext e)
        · exact .inr ⟨by omega, h2⟩
    · rw [if_neg hk, ih]
      constructor
      · rintro ⟨h1, h2⟩; exact ⟨by omega, h2⟩
      · rintro ⟨h1, h2⟩
        refine ⟨?_, h2⟩
        by_cases e : q.val = j
        · rw [e] at h2; exact absurd h2 hk
        · omega
theorem plcF_desc (b : List UInt8) (k m : Nat) : ∀ j, j ≤ m → (plcF b k m j).Pairwise (fun x y => y.val < x.val)
  | 0, _ => by simp [plcF]
  | j + 1, hj => by
    have ih := plcF_desc b k m j (by omega)
    simp only [plcF]
    rw [dif_pos (by omega)]
    split
    · refine List.pairwise_cons.2 ⟨fun q hq => ?_, ih⟩
      exact ((plcF_mem b k m j (by omega) q).1 hq).1
    · exact ih
theorem desc_take {p : Nat} : ∀ {l : List (Fin p)}, l.Pairwise (fun x y => y.val < x.val) → ∀ q, q ∈ l → near p q = true → q ∈ l.takeWhile (near p)
  | [], _, q, h, _ => by cases h
  | x :: l, hd, q, h, hn => by
    obtain ⟨h1, h2⟩ := List.pairwise_cons.1 hd
    have hx : near p x = true := by
      rcases List.mem_cons.1 h with rfl | h
      · exact hn
      · have := h1 q h
        simp only [near, decide_eq_true_eq] at hn ⊢
        omega
    rw [List.takeWhile_cons, if_pos hx]
    rcases List.mem_cons.1 h with rfl | h
    · exact List.mem_cons_self ..
    · exact List.mem_cons_of_mem _ (desc_take h2 q h hn)
theorem takeWhile_near {α : Type} {f : α → Bool} : ∀ {l : List α} {q : α}, q ∈ l.takeWhile f → f q = true
  | [], q, h => by simp at h
  | x :: l, q, h => by
    rw [List.takeWhile_cons] at h
    split at h
    · rename_i hx
      rcases List.mem_cons.1 h with e | h
      · rw [e]; exact hx
      · exact takeWhile_near h
    · cases h
theorem placesOf_desc (b : List UInt8) (p : Nat) : (placesOf b p).Pairwise (fun x y => y.val < x.val) := by
  unfold placesOf
  split
  · exact List.Pairwise.nil
  · exact (plcF_desc b _ p p (Nat.le_refl _)).sublist (List.takeWhile_sublist _)
theorem placesOf_mem {b : List UInt8} {p : Nat} (q : Fin p) : q ∈ placesOf b p ↔ (∃ k, keyAt b p = some k ∧ keyAt b q.val = some k) ∧ p - q.val ≤ 65536 := by
  unfold placesOf
  cases hk : keyAt b p with
  | none => simp
  | some k =>
    simp only [Option.some.injEq, exists_eq_left']
    constructor
    · intro h
      have h1 := (plcF_mem b k p p (Nat.le_refl _) q).1 ((List.takeWhile_sublist _).subset h)
      have h2 : near p q = true := takeWhile_near h
      exact ⟨h1.2, by simpa [near] using h2⟩
    · rintro ⟨h1, h2⟩
      exact desc_take (plcF_desc b k p p (Nat.le_refl _)) q ((plcF_mem b k p p (Nat.le_refl _) q).2 ⟨q.isLt, h1⟩) (by simp [near, h2])

/-- The same key is four bytes alike. -/
theorem mlen_of_key {b : List UInt8} {p k : Nat} {q : Fin p} (h1 : keyAt b p = some k) (h2 : keyAt b q.val = some k) : 4 ≤ mlen b p (p - q.val) := by
  have hq := q.isLt
  have hp : p + 4 ≤ b.length := by
    rcases Nat.lt_or_ge b.length (p + 4) with h | h
    · rw [keyV_none h] at h1; cases h1
    · exact h
  rw [keyV_some hp] at h1
  rw [keyV_some (show q.val + 4 ≤ b.length by omega)] at h2
  simp only [Option.some.injEq] at h1 h2
  have a0 := b[p].toNat_lt; have a1 := b[p + 1].toNat_lt; have a2 := b[p + 2].toNat_lt; have a3 := b[p + 3].toNat_lt
  have c0 := b[q.val].toNat_lt; have c1 := b[q.val + 1].toNat_lt; have c2 := b[q.val + 2].toNat_lt; have c3 := b[q.val + 3].toNat_lt
  have e0 : b[p] = b[q.val] := UInt8.toNat_inj.1 (by omega)
  have e1 : b[p + 1] = b[q.val + 1] := UInt8.toNat_inj.1 (by omega)
  have e2 : b[p + 2] = b[q.val + 2] := UInt8.toNat_inj.1 (by omega)
  have e3 : b[p + 3] = b[q.val + 3] := UInt8.toNat_inj.1 (by omega)
  refine mlen_ge (by omega) (by omega) (by omega) fun j hj => ⟨by omega, ?_⟩
  rw [show p + j - (p - q.val) = q.val + j by omega]
  rw [List.getElem?_eq_getElem (show p + j < b.length by omega), List.getElem?_eq_getElem (show q.val + j < b.length by omega)]
  have hj4 : j = 0 ∨ j = 1 ∨ j = 2 ∨ j = 3 := by omega
  rcases hj4 with rfl | rfl | rfl | rfl
  · exact congrArg some e0
  · exact congrArg some e1
  · exact congrArg some e2
  · exact congrArg some e3
theorem key_of_mlen {b : List UInt8} {p o : Nat} (h : 4 ≤ mlen b p o) : ∃ k, keyAt b p = some k ∧ keyAt b (p - o) = some k := by
  obtain ⟨h1, h2, h3, _⟩ := mlen_same (show 3 < mlen b p o by omega)
  have hs := fun j (hj : j < 4) => (mlen_same (show j < mlen b p o by omega)).2.2.2
  have e : ∀ j, j < 4 → b[p + j]? = b[p - o + j]? := fun j hj => by
    have := hs j hj
    rwa [show p + j - o = p - o + j by omega] at this
  refine ⟨_, keyV_some (by omega), ?_⟩
  have := keyV_some (b := b) (p := p) (by omega)
  rw [← this]
  unfold keyAt
  have g0 := e 0 (by omega)
  simp only [Nat.add_zero] at g0
  rw [g0, e 1 (by omega), e 2 (by omega), e 3 (by omega)]

/-- What has been found among the first places. -/
structure Found (b : List UInt8) (p : Nat) (pre : List (Fin p)) (s : Nat × Nat) : Prop where
  all : ∀ q ∈ pre, mlen b p (p - q.val) ≤ s.2
  is : pre = [] ∧ s = (0, 0) ∨ ∃ q0 ∈ pre, s.1 = p - q0.val ∧ s.2 = mlen b p (p - q0.val) ∧ ∀ q ∈ pre, q0.val < q.val → mlen b p (p - q.val) < s.2
theorem found_all {b : List UInt8} {p : Nat} : ∀ (r pre : List (Fin p)) (s : Nat × Nat), (pre ++ r).Pairwise (fun x y => y.val < x.val) → (∀ q ∈ pre ++ r, 4 ≤ mlen b p (p - q.val)) → Found b p pre s → Found b p (pre ++ r) (r.foldl (stepB b p) s)
  | [], pre, s, _, _, h => by simpa using h
  | q :: r, pre, s, hd, hm, h => by
    have e : pre ++ q :: r = (pre ++ [q]) ++ r := by simp
    rw [e] at hd hm ⊢
    rw [List.foldl_cons]
    refine found_all r (pre ++ [q]) _ hd hm ?_
    have hlt : ∀ x ∈ pre, q.val < x.val := fun x hx => by
      have := (List.pairwise_append.1 hd).1
      exact (List.pairwise_append.1 this).2.2 x hx q (by simp)
    have h4 := hm q (by simp)
    unfold stepB
    by_cases hs : s.2 < mlen b p (p - q.val)
    · rw [if_pos hs]
      refine ⟨fun x hx => ?_, .inr ⟨q, by simp, rfl, rfl, fun x hx hlt' => ?_⟩⟩
      · rcases List.mem_append.1 hx with hx | hx
        · have := h.all x hx
          show _ ≤ mlen b p (p - q.val)
          omega
        · simp at hx; subst hx; exact Nat.le_refl _
      · rcases List.mem_append.1 hx with hx | hx
        · have := h.all x hx
          show _ < mlen b p (p - q.val)
          omega
        · simp at hx; subst hx; omega
    · rw [if_neg hs]
      rcases h.is with ⟨rfl, rfl⟩ | ⟨q0, hq0, h1, h2, h3⟩
      · simp only at hs; omega
      · refine ⟨fun x hx => ?_, .inr ⟨q0, by simp [hq0], h1, h2, fun x hx hlt' => ?_⟩⟩
        · rcases List.mem_append.1 hx with hx | hx
          · exact h.all x hx
          · simp at hx; subst hx; omega
        · rcases List.mem_append.1 hx with hx | hx
          · exact h3 x hx hlt'
          · simp at hx; subst hx; have := hlt q0 hq0; omega
theorem found_pre {b : List UInt8} {p : Nat} {pre : List (Fin p)} (h : pre <+: placesOf b p) : Found b p pre (bestL b p pre) := by
  have := found_all (b := b) pre [] (0, 0) (by
    simp only [List.nil_append]
    exact (placesOf_desc b p).sublist h.sublist) (fun q hq => by
      simp only [List.nil_append] at hq
      obtain ⟨⟨k, h1, h2⟩, _⟩ := (placesOf_mem q).1 (h.subset hq)
      exact mlen_of_key h1 h2) ⟨fun q hq => (by cases hq), .inl ⟨rfl, rfl⟩⟩
  simpa [bestL] using this
/-- A place that has no such key is no match. -/
theorem few {b : List UInt8} {p j : Nat} (h1 : 1 ≤ j) (h2 : j ≤ reach p) (h : ∀ q : Fin p, q ∈ placesOf b p → q.val ≠ p - j) : mlen b p j < 4 := by
  rcases Nat.lt_or_ge (mlen b p j) 4 with h' | h'
  · exact h'
  · exfalso
    unfold reach at h2
    obtain ⟨k, g1, g2⟩ := key_of_mlen h'
    exact h ⟨p - j, by omega⟩ ((placesOf_mem _).2 ⟨⟨k, g1, g2⟩, by simp only; omega⟩) rfl
theorem best_done (b : List UInt8) (p : Nat) : takenR (bestL b p (placesOf b p)) = bestR b p := by
  have hf := found_pre (List.prefix_refl (placesOf b p))
  rcases hf.is with ⟨h1, h2⟩ | ⟨q0, hq0, h1, h2, h3⟩
  · have hn : bestR b p = (0, 0) := bestR_none fun j j1 j2 => few j1 j2 fun q hq => (by rw [h1] at hq; cases hq)
    rw [hn, h2]; rfl
  · obtain ⟨⟨k, g1, g2⟩, g3⟩ := (placesOf_mem q0).1 hq0
    have h4 := mlen_of_key g1 g2
    have hq := q0.isLt
    have : bestR b p = (p - q0.val, mlen b p (p - q0.val)) := by
      refine bestR_is (by omega) (by unfold reach; omega) h4 rfl (fun j j1 j2 => ?_) (fun j j1 j2 => ?_)
      · by_cases hx : ∃ q : Fin p, q ∈ placesOf b p ∧ q.val = p - j
        · obtain ⟨q, hq1, hq2⟩ := hx
          have := hf.all q hq1
          rw [h2, hq2, show p - (p - j) = j by unfold reach at j2; omega] at this
          exact this
        · have := few (b := b) j1 j2 fun q hq1 hq2 => hx ⟨q, hq1, hq2⟩
          omega
      · by_cases hx : ∃ q : Fin p, q ∈ placesOf b p ∧ q.val = p - j
        · obtain ⟨q, hq1, hq2⟩ := hx
          have := h3 q hq1 (by omega)
          rw [h2, hq2, show p - (p - j) = j by omega] at this
          exact this
        · have := few (b := b) j1 (by unfold reach; omega) fun q hq1 hq2 => hx ⟨q, hq1, hq2⟩
          omega
    rw [this]
    unfold takenR
    rw [h2, h1, if_neg (by omega), if_neg (by omega)]
theorem best_stop {b : List UInt8} {p : Nat} {pre : List (Fin p)} (h : pre <+: placesOf b p) (hp : p < b.length) (he : p + (bestL b p pre).2 = b.length) : takenR (bestL b p pre) = bestR b p := by
  have hf := found_pre h
  rcases hf.is with ⟨h1, h2⟩ | ⟨q0, hq0, h1, h2, h3⟩
  · rw [h2] at he; simp only at he; omega
  · obtain ⟨⟨k, g1, g2⟩, g3⟩ := (placesOf_mem q0).1 (h.subset hq0)
    have h4 := mlen_of_key g1 g2
    have hq := q0.isLt
    have : bestR b p = (p - q0.val, mlen b p (p - q0.val)) := by
      refine bestR_is (by omega) (by unfold reach; omega) h4 rfl (fun j j1 j2 => ?_) (fun j j1 j2 => ?_)
      · have := mlen_le b p j
        rw [← h2]; omega
      · by_cases hx : ∃ q : Fin p, q ∈ placesOf b p ∧ q.val = p - j
        · obtain ⟨q, hq1, hq2⟩ := hx
          have hin : q ∈ pre := by
            obtain ⟨r, hr⟩ := h
            rw [← hr] at hq1
            rcases List.mem_append.1 hq1 with h' | h'
            · exact h'
            · have hd := placesOf_desc b p
              rw [← hr] at hd
              have := (List.pairwise_append.1 hd).2.2 q0 hq0 q h'
              omega
          have := h3 q hin (by omega)
          rw [h2, hq2, show p - (p - j) = j by omega] at this
          exact this
        · have := few (b := b) j1 (by unfold reach; omega) fun q hq1 hq2 => hx ⟨q, hq1, hq2⟩
          omega
    rw [this]
    unfold takenR
    rw [h2, h1, if_neg (by omega), if_neg (by omega)]
theorem bestL_bound (b : List UInt8) (p : Nat) (pre : List (Fin p)) : (bestL b p pre).1 ≤ p ∧ (bestL b p pre).2 ≤ b.length - p := by
  unfold bestL
  have : ∀ (l : List (Fin p)) (s : Nat × Nat), s.1 ≤ p ∧ s.2 ≤ b.length - p → (l.foldl (stepB b p) s).1 ≤ p ∧ (l.foldl (stepB b p) s).2 ≤ b.length - p := by
    intro l
    induction l with
    | nil => intro s h; exact h
    | cons q l ih =>
      intro s h
      rw [List.foldl_cons]
      refine ih _ ?_
      unfold stepB
      split
      · exact ⟨by simp only; omega, mlen_le b p _⟩
      · exact h
  exact this pre (0, 0) ⟨Nat.zero_le _, Nat.zero_le _⟩
attribute [local go_sem] Oper.semAt_some

/-- Block gs is a seeker of the bytes b. -/
structure SkAt (w : World) (gs g mb base lo hi : Nat) (b : List UInt8) (n : Nat) (sa : Option Addr) (sc : Nat) (ab : Option Addr) (cb : Nat) (ap : Option Addr) (cp : Nat) : Prop where
  blk : ∃ t : Int, Blk w gs 388 #[.slice sa b.length sc, .pointer (some ⟨g, 0, none⟩), .int .i64 t]
  bytes : rBytes.r (fun q => (lo ≤ q ∧ q < hi) ∧ q ≠ gs ∧ q ≠ g ∧ q ≠ mb ∧ (Value.slice ap n cp).ownBlock ≠ some q) w [.slice sa b.length sc] b
  ch : ChAt w g mb base b n ab cb ap cp
  bytes2 : rBytes.r (fun q => (lo ≤ q ∧ q < hi) ∧ q ≠ gs ∧ q ≠ g ∧ q ≠ mb ∧ (Value.slice ap n cp).ownBlock ≠ some q) w [.slice ab b.length cb] b
  ne1 : gs ≠ g
  ne2 : gs ≠ mb
  ne3 : (Value.slice ap n cp).ownBlock ≠ some gs
  top : hi ≤ w.heap.size
/-- What a Best leaves. -/
def SkStep (w : World) (gs g mb base lo hi : Nat) (b : List UInt8) (n n' : Nat) (sa : Option Addr) (sc : Nat) (ab : Option Addr) (cb : Nat) (ap : Option Addr) (cp : Nat) (w' : World) : Prop :=
  ∃ ap' cp', SkAt w' gs g mb base lo hi b n' sa sc ab cb ap' cp' ∧ Tch (fun q => q = gs ∨ q = g ∨ q = mb ∨ (Value.slice ap n cp).ownBlock = some q) w w' ∧ ((Value.slice ap' n' cp').ownBlock = (Value.slice ap n cp).ownBlock ∨ ∃ q, (Value.slice ap' n' cp').ownBlock = some q ∧ w.heap.size ≤ q)
def BestPost (w : World) (gs g mb base lo hi : Nat) (b : List UInt8) (n p : Nat) (sa : Option Addr) (sc : Nat) (ab : Option Addr) (cb : Nat) (ap : Option Addr) (cp : Nat) (r : Ending) (w' : World) : Prop :=
  r = .returned (.tuple #[.int .i64 ((bestR b p).1 : Int), .int .i64 ((bestR b p).2 : Int)]) ∧ SkStep w gs g mb base lo hi b n p sa sc ab cb ap cp w'

theorem ChAt.later {w w' : World} {g mb base : Nat} {b : List UInt8} {n : Nat} {ab : Option Addr} {cb : Nat} {ap : Option Addr} {cp : Nat} (h : ChAt w g mb base b n ab cb ap cp) (hb : Below w.heap.size w w') : ChAt w' g mb base b n ab cb ap cp := by
  have hs := hb.size
  obtain ⟨D, hD, hL⟩ := h.map
  exact ⟨h.blk.later hb, rBytes.mono (rBytes.keep h.bytes fun q hq => hb.block q hq.1) fun q hq => ⟨by omega, hq.2⟩, ⟨D, map_keep hD (hb.block _ hD.lt), hL⟩, own_keep h.prev fun q hq => hb.block q (h.prev.lt q hq).2, h.ne1, h.ne2, h.ne3, h.lo, h.le, h.len⟩
theorem SkAt.later {w w' : World} {gs g mb base lo hi : Nat} {b : List UInt8} {n : Nat} {sa : Option Addr} {sc : Nat} {ab : Option Addr} {cb : Nat} {ap : Option Addr} {cp : Nat} (h : SkAt w gs g mb base lo hi b n sa sc ab cb ap cp) (hb : Below w.heap.size w w') : SkAt w' gs g mb base lo hi b n sa sc ab cb ap cp := by
  have hs := hb.size
  obtain ⟨t, ht⟩ := h.blk
  exact ⟨⟨t, ht.later hb⟩, rBytes.keep h.bytes fun q hq => hb.block q (Nat.lt_of_lt_of_le hq.1.2 h.top), h.ch.later hb, rBytes.keep h.bytes2 fun q hq => hb.block q (Nat.lt_of_lt_of_le hq.1.2 h.top), h.ne1, h.ne2, h.ne3, Nat.le_trans h.top hs⟩
theorem sk_ch {w W0 w1 : World} {gs g mb base lo hi : Nat} {b : List UInt8} {n p : Nat} {sa : Option Addr} {sc : Nat} {ab : Option Addr} {cb : Nat} {ap : Option Addr} {cp : Nat} {a1 : Option Addr} {c1 : Nat} (h : SkAt w gs g mb base lo hi b n sa sc ab cb ap cp) (hb : Below w.heap.size w W0)
    (h1 : ChAt w1 g mb base b p ab cb a1 c1) (h2 : Tch (fun q => q = g ∨ q = mb ∨ (Value.slice ap n cp).ownBlock = some q) W0 w1) (h3 : (Value.slice a1 p c1).ownBlock = (Value.slice ap n cp).ownBlock ∨ ∃ q, (Value.slice a1 p c1).ownBlock = some q ∧ W0.heap.size ≤ q) :
    SkAt w1 gs g mb base lo hi b p sa sc ab cb a1 c1 ∧ Tch (fun q => q = gs ∨ q = g ∨ q = mb ∨ (Value.slice ap n cp).ownBlock = some q) w w1 ∧ ((Value.slice a1 p c1).ownBlock = (Value.slice ap n cp).ownBlock ∨ ∃ q, (Value.slice a1 p c1).ownBlock = some q ∧ w.heap.size ≤ q) := by
  have hs := hb.size
  have hs2 := h2.size
  obtain ⟨t, ht⟩ := h.blk
  have hn : ∀ q, q < w.heap.size → (Value.slice ap n cp).ownBlock ≠ some q → (Value.slice a1 p c1).ownBlock ≠ some q := fun q hq hne e => by
    rcases h3 with h3 | ⟨q', hq', hlt⟩
    · rw [h3] at e; exact hne e
    · rw [hq'] at e; have := Option.some.inj e; omega
  have keep : ∀ q, q < w.heap.size → q ≠ g → q ≠ mb → (Value.slice ap n cp).ownBlock ≠ some q → w1.heap[q]? = w.heap[q]? := fun q hq k1 k2 k3 =>
    (h2.block q (by omega) (fun e => by rcases e with e | e | e <;> contradiction)).trans (hb.block q hq)
  refine ⟨⟨⟨t, (keep gs ht.lt h.ne1 h.ne2 h.ne3).trans ht⟩, ?_, h1, ?_, h.ne1, h.ne2, hn gs ht.lt h.ne3, by have := h.top; omega⟩, ⟨h2.os.trans hb.os, h2.tape.trans hb.tape, h2.output.trans hb.output, by omega, fun q hq hf => keep q hq (fun e => hf (.inr (.inl e))) (fun e => hf (.inr (.inr (.inl e)))) (fun e => hf (.inr (.inr (.inr e))))⟩, ?_⟩
  · exact rBytes.mono (rBytes.keep h.bytes fun q hq => keep q (Nat.lt_of_lt_of_le hq.1.2 h.top) hq.2.2.1 hq.2.2.2.1 hq.2.2.2.2) fun q hq => ⟨hq.1, hq.2.1, hq.2.2.1, hq.2.2.2.1, hn q (Nat.lt_of_lt_of_le hq.1.2 h.top) hq.2.2.2.2⟩
  · exact rBytes.mono (rBytes.keep h.bytes2 fun q hq => keep q (Nat.lt_of_lt_of_le hq.1.2 h.top) hq.2.2.1 hq.2.2.2.1 hq.2.2.2.2) fun q hq => ⟨hq.1, hq.2.1, hq.2.2.1, hq.2.2.2.1, hn q (Nat.lt_of_lt_of_le hq.1.2 h.top) hq.2.2.2.2⟩
  · rcases h3 with h3 | ⟨q', hq', hlt⟩
    · exact .inl h3
    · exact .inr ⟨q', hq', by omega⟩

theorem SkAt.tch {F : Nat → Prop} {w w' : World} {gs g mb base lo hi : Nat} {b : List UInt8} {n : Nat} {sa : Option Addr} {sc : Nat} {ab : Option Addr} {cb : Nat} {ap : Option Addr} {cp : Nat} (h : SkAt w gs g mb base lo hi b n sa sc ab cb ap cp) (hT : Tch F w w') (h1 : ¬ F g) (h2 : ¬ F mb) (h3 : ∀ q, (Value.slice ap n cp).ownBlock = some q → ¬ F q) (h4 : ∀ q, lo ≤ q → q < hi → q ≠ gs → ¬ F q)
    (hb : ∃ t : Int, Blk w' gs 388 #[.slice sa b.length sc, .pointer (some ⟨g, 0, none⟩), .int .i64 t]) : SkAt w' gs g mb base lo hi b n sa sc ab cb ap cp := by
  have hs := hT.size
  have ht := h.top
  obtain ⟨D, hD, hL⟩ := h.ch.map
  exact ⟨hb, rBytes.keep h.bytes fun q hq => hT.block q (by omega) (h4 q hq.1.1 hq.1.2 hq.2.1), ⟨h.ch.blk.tch hT h1, rBytes.mono (rBytes.keep h.bytes2 fun q hq => hT.block q (by omega) (h4 q hq.1.1 hq.1.2 hq.2.1)) fun q hq => ⟨by omega, hq.2.2⟩, ⟨D, map_keep hD (hT.block _ hD.lt h2), hL⟩,
    own_keep h.ch.prev fun q hq => hT.block q (h.ch.prev.lt q hq).2 (h3 q hq), h.ch.ne1, h.ch.ne2, h.ch.ne3, h.ch.lo, h.ch.le, h.ch.len⟩, rBytes.keep h.bytes2 fun q hq => hT.block q (by omega) (h4 q hq.1.1 hq.1.2 hq.2.1), h.ne1, h.ne2, h.ne3, by omega⟩
theorem SkAt.turned {w w' : World} {gs g mb base lo hi : Nat} {b : List UInt8} {n : Nat} {sa : Option Addr} {sc : Nat} {ab : Option Addr} {cb : Nat} {ap : Option Addr} {cp : Nat} (h : SkAt w gs g mb base lo hi b n sa sc ab cb ap cp) (hT : Tch (fun q => q = gs) w w')
    (hb : ∃ t : Int, Blk w' gs 388 #[.slice sa b.length sc, .pointer (some ⟨g, 0, none⟩), .int .i64 t]) : SkAt w' gs g mb base lo hi b n sa sc ab cb ap cp :=
  h.tch hT (Ne.symm h.ne1) (Ne.symm h.ne2) (fun q hq e => h.ne3 (e ▸ hq)) (fun q _ _ h e => h e) hb

theorem chain_places (w : World) (g p : Nat) : Calls Tryz.prog 380 #[.pointer (some ⟨g, 0, none⟩), .int .i64 (p : Int)] w fun r w' =>
    r = .returned (.func (.func 386) #[] #[.pointer (some ⟨w.heap.size, 0, none⟩), .pointer (some ⟨w.heap.size + 1, 0, none⟩)]) ∧ w' = (w.alloc (.cells #[.pointer (some ⟨g, 0, none⟩)] 385)).alloc (.cells #[.int .i64 (p : Int)] 3) := by
  go_enter Tryz.func380, Tryz.ntmps380
  go_wp2
  go_ret
  exact ⟨rfl, rfl⟩

set_option maxRecDepth 100000 in
set_option maxHeartbeats 3200000 in
theorem seek_best (w : World) {gs g mb base lo hi : Nat} {b : List UInt8} {n p : Nat} {sa : Option Addr} {sc : Nat} {ab : Option Addr} {cb : Nat} {ap : Option Addr} {cp : Nat} (h : SkAt w gs g mb base lo hi b n sa sc ab cb ap cp) (hn : n ≤ p) (hp : p < b.length) :
    Calls Tryz.prog 374 #[.pointer (some ⟨gs, 0, none⟩), .int .i64 (p : Int)] w (BestPost w gs g mb base lo hi b n p sa sc ab cb ap cp) := by
  obtain ⟨t0, hblk⟩ := h.blk
  have hlen := h.ch.len
  have hgs := hblk.lt
  have c0 : w.cell? ⟨gs, 0, none⟩ = some (.slice sa b.length sc) := hblk.cell 0
  have c1 : w.cell? ⟨gs, 1, none⟩ = some (.pointer (some ⟨g, 0, none⟩)) := hblk.cell 1
  have e1 : min (p : Int) (b.length : Int) = (p : Int) := by omega
  have hpl : (p : Int) < (b.length : Int) := by omega
  have hfw : ∀ f, Fence.wide.fn f = True := fun _ => rfl
  have H := hid h; have HB := hid hblk
  clear h hblk
  refine (callsIn_wide (n := 5)).1 ?_
  refine callsIn_of_wp_marks Tryz.func374 rfl trivial ?_ rfl
  simp only [Tryz.ntmps374, List.size_toArray, List.length_cons, List.length_nil, Nat.reduceAdd, Nat.reduceSub, Array.replicate_succ, Array.replicate_zero, List.push_toArray, List.append_toArray, List.nil_append, List.cons_append]
  have hmx : Tryz.prog.follows .mixedOrders = true := by kernel_rfl
  refine wpIn_wide.2 ?_
  go_wp2
  refine wp_region_still_drew 11 (by kernel_rfl) (by kernel_rfl) ?_
  simp only [List.take_succ_cons, List.take_zero, List.drop_succ_cons, List.drop_zero]
  repeat still_step
  refine wpStill_nil ?_
  go_wp2_with fail
  refine (chain_addTo _ (H.out.ch.later (by (repeat (first | exact Below.refl _ _ | assumption | (refine below_alloc ?_ _) | (refine Below.setCell ?_ (by first | omega | (simp; done) | (simp; omega)) _) | (refine Below.drew ?_) | (refine below_drewN ?_ _) | (refine below_then (by assumption) ?_))))) p hn (by omega)).mono ?_
  rintro r w1 ⟨rfl, a1, c1', hch, htch, hown⟩
  obtain ⟨hsk, htw, howw⟩ := sk_ch H.out (by (repeat (first | exact Below.refl _ _ | assumption | (refine below_alloc ?_ _) | (refine Below.setCell ?_ (by first | omega | (simp; done) | (simp; omega)) _) | (refine Below.drew ?_) | (refine below_drewN ?_ _) | (refine below_then (by assumption) ?_)))) hch htch hown
  have z1 : w.heap.size + 1 < w1.heap.size := by have := htch.size; simp at this; omega
  have P0 : Blk w1 w.heap.size 379 #[.pointer (some ⟨gs, 0, none⟩)] := Blk.tch (by (repeat (first | assumption | exact Blk.newAt _ _ _ (by first | (simp; done) | (simp; omega)) | refine Blk.alloc ?_ _ | refine Blk.drew ?_ | refine Blk.drewN ?_ _ | refine Blk.far ?_ (by first | (simp; done) | (simp; omega)) _))) htch (fun e => by
    have h1 := H.out.ch.blk.lt
    obtain ⟨D, hD, _⟩ := H.out.ch.map
    have h2 := hD.lt
    rcases e with e | e | e
    · omega
    · omega
    · have := (H.out.ch.prev.lt _ e).2; omega)
  have P1 : Blk w1 (w.heap.size + 1) 3 #[.int .i64 (p : Int)] := Blk.tch (by (repeat (first | assumption | exact Blk.newAt _ _ _ (by first | (simp; done) | (simp; omega)) | refine Blk.alloc ?_ _ | refine Blk.drew ?_ | refine Blk.drewN ?_ _ | refine Blk.far ?_ (by first | (simp; done) | (simp; omega)) _))) htch (fun e => by
    have h1 := H.out.ch.blk.lt
    obtain ⟨D, hD, _⟩ := H.out.ch.map
    have h2 := hD.lt
    rcases e with e | e | e
    · omega
    · omega
    · have := (H.out.ch.prev.lt _ e).2; omega)
  have HSK := hid hsk; have HTW := hid htw; have HOW := hid howw; have HP0 := hid P0; have HP1 := hid P1
  clear hsk htw howw P0 P1 hch htch hown c0 c1
  go_wp2_with fail
  refine wp_world (fun W => Below w1.heap.size w1 W ∧ W.heap.size = w1.heap.size + 2 ∧ Blk W w1.heap.size 3 #[.int .i64 0] ∧ Blk W (w1.heap.size + 1) 3 #[.int .i64 0]) ⟨by (repeat (first | exact Below.refl _ _ | assumption | (refine below_alloc ?_ _) | (refine Below.setCell ?_ (by first | omega | (simp; done) | (simp; omega)) _) | (refine Below.drew ?_) | (refine below_drewN ?_ _) | (refine below_then (by assumption) ?_))), by simp, by (repeat (first | assumption | exact Blk.newAt _ _ _ (by first | (simp; done) | (simp; omega)) | refine Blk.alloc ?_ _ | refine Blk.drew ?_ | refine Blk.drewN ?_ _ | refine Blk.far ?_ (by first | (simp; done) | (simp; omega)) _)), by (repeat (first | assumption | exact Blk.newAt _ _ _ (by first | (simp; done) | (simp; omega)) | refine Blk.alloc ?_ _ | refine Blk.drew ?_ | refine Blk.drewN ?_ _ | refine Blk.far ?_ (by first | (simp; done) | (simp; omega)) _))⟩ ?_
  intro W ⟨hbW, hzW, Q0, Q1⟩
  have HZW := hid hzW; clear hzW
  have HSW := hid (HSK.out.later hbW)
  have HPW0 := hid (HP0.out.later hbW)
  have HPW1 := hid (HP1.out.later hbW)
  obtain ⟨t1, hb1⟩ := HSW.out.blk
  have c1 : W.cell? ⟨gs, 1, none⟩ = some (.pointer (some ⟨g, 0, none⟩)) := hb1.cell 1
  have c2 : W.cell? ⟨w.heap.size, 0, none⟩ = some (.pointer (some ⟨gs, 0, none⟩)) := HPW0.out.cell 0
  have c3 : W.cell? ⟨w.heap.size + 1, 0, none⟩ = some (.int .i64 (p : Int)) := HPW1.out.cell 0
  have HQ0 := hid Q0; have HQ1 := hid Q1
  clear hb1 Q0 Q1
  refine wp_region_still_drew 5 (by kernel_rfl) (by kernel_rfl) ?_
  simp only [List.take_succ_cons, List.take_zero, List.drop_succ_cons, List.drop_zero]
  repeat still_step
  refine wpStill_nil ?_
  go_wp2_with fail
  refine (chain_places _ g p).mono ?_
  rintro r w5 ⟨rfl, hw5⟩
  have hb5 : Below W.heap.size W w5 := by rw [hw5]; (repeat (first | exact Below.refl _ _ | assumption | (refine below_alloc ?_ _) | (refine Below.setCell ?_ (by first | omega | (simp; done) | (simp; omega)) _) | (refine Below.drew ?_) | (refine below_drewN ?_ _) | (refine below_then (by assumption) ?_)))
  have BC : Blk w5 W.heap.size 385 #[.pointer (some ⟨g, 0, none⟩)] := by rw [hw5]; exact Blk.alloc (Blk.newAt _ _ _ (by simp)) _
  have BA : Blk w5 (W.heap.size + 1) 3 #[.int .i64 (p : Int)] := by rw [hw5]; exact Blk.newAt _ _ _ (by simp)
  have hz5 : w5.heap.size = W.heap.size + 2 := by rw [hw5]; simp
  have HS5 := hid (HSW.out.later hb5)
  have HB5 := hid hb5; have HBC := hid BC; have HBA := hid BA
  clear hw5 hb5 BC BA
  go_wp2_with fail
  have hgs1 := HSK.out.blk.choose_spec.lt
  have hg1 := HSK.out.ch.blk.lt
  have htop := HSK.out.top
  have hm1 : mb < w1.heap.size := by obtain ⟨D, hD, _⟩ := HSK.out.ch.map; exact hD.lt
  have hz5' : w5.heap.size = w1.heap.size + 4 := by have := HZW.out; omega
  have HZ5 := hid hz5'; clear hz5 hz5'
  have hlt5 : w1.heap.size + 1 < w5.heap.size := by have := HZ5.out; omega
  have BO : Blk w5 w1.heap.size 3 #[.int .i64 0] := HQ0.out.later HB5.out
  have BN : Blk w5 (w1.heap.size + 1) 3 #[.int .i64 0] := HQ1.out.later HB5.out
  have P0 : Blk w5 w.heap.size 379 #[.pointer (some ⟨gs, 0, none⟩)] := HPW0.out.later HB5.out
  have P1 : Blk w5 (w.heap.size + 1) 3 #[.int .i64 (p : Int)] := HPW1.out.later HB5.out
  have hby := rBytes.keep HSK.out.bytes (w' := w5) fun q hq => (HB5.out.block q (by have := HZW.out; have := HSK.out.top; omega)).trans (hbW.block q (Nat.lt_of_lt_of_le hq.1.2 HSK.out.top))
  have HBY := hid hby; have HBO := hid BO; have HBN := hid BN; have HPP0 := hid P0; have HPP1 := hid P1
  clear BO BN P0 P1 hby c1 c2 c3
  have hgsz : gs < w.heap.size := hgs
  refine (wpIn_wide (n := 5)).1 ?_
  refine wpIn_rangeFunc_ownG rfl (by decide) (gf := 386) (lb := #[.pointer (some ⟨W.heap.size, 0, none⟩), .pointer (some ⟨W.heap.size + 1, 0, none⟩)]) rfl trivial (enters_of Tryz.func386 (by kernel_rfl) rfl)
    (places_stops w5 HS5.out.ch HBC.out HBA.out) (fun h k => h.trans k) ?hKb (Below.refl _ _) (fun _ => rfl)
    (fun pre V => (∃ t : Int, Blk V gs 388 #[.slice sa b.length sc, .pointer (some ⟨g, 0, none⟩), .int .i64 t]) ∧ Blk V w1.heap.size 3 #[.int .i64 ((bestL b p pre).1 : Int)] ∧ Blk V (w1.heap.size + 1) 3 #[.int .i64 ((bestL b p pre).2 : Int)] ∧ Tch (fun q => q = gs ∨ q = w1.heap.size ∨ q = w1.heap.size + 1) w5 V)
    (fun c pre V => c = .exit 0 ∧ p + (bestL b p pre).2 = b.length ∧ (∃ t : Int, Blk V gs 388 #[.slice sa b.length sc, .pointer (some ⟨g, 0, none⟩), .int .i64 t]) ∧ Blk V w1.heap.size 3 #[.int .i64 ((bestL b p pre).1 : Int)] ∧ Blk V (w1.heap.size + 1) 3 #[.int .i64 ((bestL b p pre).2 : Int)] ∧ Tch (fun q => q = gs ∨ q = w1.heap.size ∨ q = w1.heap.size + 1) w5 V)
    ?hI ?hIx ?h0
    (fun x => { tmps := #[.pointer (some ⟨gs, 0, none⟩), .int .i64 (p : Int), .pointer (some ⟨w.heap.size, 0, none⟩), .pointer (some ⟨w.heap.size + 1, 0, none⟩), .int .i64 0, .int .i64 0, .pointer (some ⟨w1.heap.size, 0, none⟩), .pointer (some ⟨w1.heap.size + 1, 0, none⟩), .int .i64 (x.val : Int), undef,
      .pointer (some ⟨gs, 0, none⟩), .bool false, .pointer (some ⟨gs, 0, none⟩), .pointer (some ⟨gs, 0, none⟩), .pointer (some ⟨gs, 1, none⟩), .pointer (some ⟨g, 0, none⟩), .int .i64 (p : Int), .pointer (some ⟨gs, 0, none⟩), .pointer (some ⟨gs, 0, none⟩), .pointer (some ⟨gs, 0, none⟩), .slice sa b.length sc, .int .i64 (b.length : Int), .int .i64 (p : Int), .int .i64 ((p : Int) - (n : Int)),
      .pointer (some ⟨gs, 0, none⟩), .pointer (some ⟨gs, 0, none⟩), .pointer (some ⟨gs, 1, none⟩), .pointer (some ⟨g, 0, none⟩), .int .i64 (p : Int), .func (.func 386) #[] #[.pointer (some ⟨W.heap.size, 0, none⟩), .pointer (some ⟨W.heap.size + 1, 0, none⟩)], .int .i64 (x.val : Int),
      undef, undef, undef, undef, undef, undef, undef, undef, undef, undef, undef, undef, undef, undef, undef, undef, undef, undef, undef, undef, undef, undef, undef, undef, undef, undef, undef, undef, undef, undef, undef, undef, undef, undef, undef, undef, undef], defers := [] }) ?assign ?body ?done ?stop
  case hKb =>
    intro V l o o' hl ho _ _ q hq
    refine World.putObj_heap_other ?_
    have := HZ5.out
    have hz := HZW.out
    have hs := HB5.out.size
    rcases hq with e | e | e | e | e
    · omega
    · omega
    · have := (HSK.out.ch.prev.lt _ e).2; omega
    · omega
    · omega
  case hI =>
    rintro pre X Y row ⟨⟨t, h1⟩, h2, h3, h4⟩ hg' hr
    have hne : ∀ q, q < w5.heap.size → Y.heap[q]? = X.heap[q]? := fun q hq => hg'.block q (Nat.lt_of_lt_of_le hq h4.size) (fun e => by have := (hr q e.symm).1; omega)
    exact ⟨⟨t, (hne gs (by omega)).trans h1⟩, (hne _ (by omega)).trans h2, (hne _ hlt5).trans h3, ⟨hg'.os.trans h4.os, hg'.tape.trans h4.tape, hg'.output.trans h4.output, Nat.le_trans h4.size hg'.size, fun q hq hf => (hne q hq).trans (h4.block q hq hf)⟩⟩
  case hIx =>
    rintro c pre X Y row ⟨hc, hl, ⟨t, h1⟩, h2, h3, h4⟩ hg' hr
    have hne : ∀ q, q < w5.heap.size → Y.heap[q]? = X.heap[q]? := fun q hq => hg'.block q (Nat.lt_of_lt_of_le hq h4.size) (fun e => by have := (hr q e.symm).1; omega)
    exact ⟨hc, hl, ⟨t, (hne gs (by omega)).trans h1⟩, (hne _ (by omega)).trans h2, (hne _ hlt5).trans h3, ⟨hg'.os.trans h4.os, hg'.tape.trans h4.tape, hg'.output.trans h4.output, Nat.le_trans h4.size hg'.size, fun q hq hf => (hne q hq).trans (h4.block q hq hf)⟩⟩
  case h0 => exact ⟨HS5.out.blk, HBO.out, HBN.out, Tch.refl _ _⟩
  case assign =>
    intro l x V K hK
    gi_wp2
    exact hK
  case body =>
    rintro l pre x V ⟨⟨t, hbg⟩, hbo, hbn, htc⟩ hN
    have hxp := x.isLt
    have nF : ∀ q, q < w5.heap.size → q ≠ gs → q ≠ w1.heap.size → q ≠ w1.heap.size + 1 → ¬ (q = gs ∨ q = w1.heap.size ∨ q = w1.heap.size + 1) := fun q _ h1 h2 h3 e => by rcases e with e | e | e <;> contradiction
    have V0 : Blk V w.heap.size 379 #[.pointer (some ⟨gs, 0, none⟩)] := HPP0.out.tch htc (nF _ (by omega) (by omega) (by omega) (by omega))
    have V1 : Blk V (w.heap.size + 1) 3 #[.int .i64 (p : Int)] := HPP1.out.tch htc (nF _ (by omega) (by omega) (by omega) (by omega))
    have k0 : V.cell? ⟨w.heap.size, 0, none⟩ = some (.pointer (some ⟨gs, 0, none⟩)) := V0.cell 0
    have k2 : V.cell? ⟨gs, 2, none⟩ = some (.int .i64 t) := hbg.cell 2
    have k3 := hbg.free 2
    have HBG := hid hbg; have HBO2 := hid hbo; have HBN2 := hid hbn; have HTC := hid htc; have HV0 := hid V0; have HV1 := hid V1
    clear hbg hbo hbn htc V0 V1
    have hV5 : w5.heap.size ≤ V.heap.size := HTC.out.size
    gi_wp2
    refine wpIn_world (fun U => Tch (fun q => q = gs) V U ∧ ∃ t' : Int, Blk U gs 388 #[.slice sa b.length sc, .pointer (some ⟨g, 0, none⟩), .int .i64 t']) ⟨Tch.setCell (F := fun q => q = gs) (Tch.refl _ _) (fun _ => rfl) _, _, HBG.out.set 2 _⟩ ?_
    intro U ⟨hU, t', hUg⟩
    have U0 := HV0.out.tch hU (by omega)
    have U1 := HV1.out.tch hU (by omega)
    have UO := HBO2.out.tch hU (by omega)
    have UN := HBN2.out.tch hU (by omega)
    have HM := hid (fun s : Later U => seek_match b (p : Int) ((p : Int) - (x.val : Int)) (by omega) (by omega) sa b.length sc s.at_ (rBytes.mono (rBytes.keep HBY.out fun q hq => (s.below.block q (by have := hU.size; omega)).trans ((hU.block q (by omega) hq.2.1).trans (HTC.out.block q (by omega) (nF q (by omega) hq.2.1 (by omega) (by omega))))) fun q hq => by have := hU.size; have := s.below.size; omega) hlen (by omega) (by omega))
    have et : ((p : Int) - (x.val : Int)).toNat = p - x.val := by omega
    rw [Int.toNat_natCast, et] at HM
    have i1 : (0 : Int) ≤ (p : Int) - (x.val : Int) := by omega
    have C0 := fun s : Later U => s.cell (show U.cell? ⟨w.heap.size, 0, none⟩ = some (.pointer (some ⟨gs, 0, none⟩)) from U0.cell 0)
    have C1 := fun s : Later U => s.cell (show U.cell? ⟨w.heap.size + 1, 0, none⟩ = some (.int .i64 (p : Int)) from U1.cell 0)
    have C2 := fun s : Later U => s.cell (show U.cell? ⟨gs, 0, none⟩ = some (.slice sa b.length sc) from hUg.cell 0)
    have hsn := bestL_snoc b p pre x
    have hsnb := bestL_bound b p (pre ++ [x])
    have hml := mlen_le b p (p - x.val)
    generalize hbl : bestL b p (pre ++ [x]) = s2 at *
    generalize hbl0 : bestL b p pre = s1 at *
    generalize hmm : mlen b p (p - x.val) = m at *
    have HSN := hid hsn; have HBL := hid hbl; have HBL0 := hid hbl0; have HMM := hid hmm
    have HUt := hid hU; have HUG := hid hUg; have HUO := hid UO; have HUN := hid UN; have HU0 := hid U0; have HU1 := hid U1
    clear hsn hbl hbl0 hmm et hU hUg UO UN U0 U1
    have hfr : ∀ f, (Fence.wide.inRound l).fn f = True := fun _ => rfl
    clear k0 k2 k3
    refine wpIn_region_rlater (by kernel_rfl) (by kernel_rfl) (by kernel_rfl) ?_
    repeat (gi_big_quiet_step (((exact laterIn_of (HM.out _)))))
    refine wpQuietIn_nil ?_
    rintro Y ⟨⟨Y', hY⟩, rfl⟩
    have Y0 := HU0.out.later hY
    have Y1 := HU1.out.later hY
    have YO := HUO.out.later hY
    have YN := HUN.out.later hY
    have YG := HUG.out.later hY
    have y1 : Y.cell? ⟨w.heap.size + 1, 0, none⟩ = some (.int .i64 (p : Int)) := Y1.cell 0
    have yo : Y.cell? ⟨w1.heap.size, 0, none⟩ = some (.int .i64 (s1.1 : Int)) := YO.cell 0
    have yn : Y.cell? ⟨w1.heap.size + 1, 0, none⟩ = some (.int .i64 (s1.2 : Int)) := YN.cell 0
    have fo := YO.free 0
    have fn := YN.free 0
    have HY0 := hid Y0; have HY1 := hid Y1; have HYO := hid YO; have HYN := hid YN; have HYG := hid YG
    have HYb := hid hY
    clear Y0 Y1 YO YN YG hY C0 C1 C2
    have hzz : w1.heap.size ≠ gs := by omega
    have hzz2 : w1.heap.size + 1 ≠ gs := by omega
    by_cases hgt : s1.2 < m
    · have b0 : decide ((s1.2 : Int) < (m : Int)) = true := by simp; omega
      have b0' : decide (s1.2 < m) = true := by simp; omega
      have hs2 : s2 = (p - x.val, m) := by
        rw [HSN.out]; unfold stepB; rw [HMM.out, if_pos hgt]
      have v1 : Hid ((s2.1 : Int) = (p : Int) - (x.val : Int)) := hid (by rw [hs2]; simp only; omega)
      have v2 : Hid ((s2.2 : Int) = (m : Int)) := hid (by rw [hs2])
      have HS2 := hid hs2; clear hs2 hgt
      gi_wp2
      refine wpIn_world (fun Z => Tch (fun q => q = gs ∨ q = w1.heap.size ∨ q = w1.heap.size + 1) V Z ∧ Blk Z gs 388 #[.slice sa b.length sc, .pointer (some ⟨g, 0, none⟩), .int .i64 t'] ∧ Blk Z w1.heap.size 3 #[.int .i64 (s2.1 : Int)] ∧ Blk Z (w1.heap.size + 1) 3 #[.int .i64 (s2.2 : Int)] ∧ Blk Z w.heap.size 379 #[.pointer (some ⟨gs, 0, none⟩)] ∧ Blk Z (w.heap.size + 1) 3 #[.int .i64 (p : Int)])
        ⟨(((HUt.out.mono (G := (fun q => q = gs ∨ q = w1.heap.size ∨ q = w1.heap.size + 1)) (fun q _ e => .inl e)).trans (Tch.of_later (F := (fun q => q = gs ∨ q = w1.heap.size ∨ q = w1.heap.size + 1)) HYb.out) fun _ _ h => h).setCell (fun _ => .inr (.inl rfl)) _).setCell (fun _ => .inr (.inr rfl)) _, (HYG.out.far (by dsimp only; omega) _).far (by dsimp only; omega) _, by rw [v1.out]; exact (HYO.out.set 0 _).far (by simp) _, by rw [v2.out]; exact (HYN.out.far (by simp) _).set 0 _, (HY0.out.far (by dsimp only; omega) _).far (by dsimp only; omega) _, (HY1.out.far (by dsimp only; omega) _).far (by dsimp only; omega) _⟩ ?_
      intro Z ⟨zt, zg, zo, zn, z0, z1⟩
      have D0 := fun s : Later Z => s.cell (show Z.cell? ⟨w.heap.size, 0, none⟩ = some (.pointer (some ⟨gs, 0, none⟩)) from z0.cell 0)
      have D1 := fun s : Later Z => s.cell (show Z.cell? ⟨w.heap.size + 1, 0, none⟩ = some (.int .i64 (p : Int)) from z1.cell 0)
      have D2 := fun s : Later Z => s.cell (show Z.cell? ⟨gs, 0, none⟩ = some (.slice sa b.length sc) from zg.cell 0)
      have D3 := fun s : Later Z => s.cell (show Z.cell? ⟨w1.heap.size + 1, 0, none⟩ = some (.int .i64 (s2.2 : Int)) from zn.cell 0)
      have HZT := hid zt; have HZG := hid zg; have HZO := hid zo; have HZN := hid zn
      clear zt zg zo zn z0 z1
      have i5 : (p : Int) + (s2.2 : Int) ≤ 2097152 := by omega
      by_cases heq : p + s2.2 = b.length
      · have b1 : ((p : Int) + (s2.2 : Int) == (b.length : Int)) = true := by simp; omega
        have HEQ := hid heq; clear heq
        refine wpIn_region_rlater (by kernel_rfl) (by kernel_rfl) (by kernel_rfl) ?_
        repeat (gi_big_quiet_step (fail))
        refine wpQuietIn_nil ?_
        rintro W6 ⟨⟨Z6, hZ6⟩, rfl⟩
        have ht6 := HZT.out.trans (Tch.of_later (F := fun q => q = gs ∨ q = w1.heap.size ∨ q = w1.heap.size + 1) hZ6) fun _ _ h => h
        have HT6 := hid ht6; clear ht6
        have HZ6 := hid hZ6; clear hZ6
        clear D0 D1 D2 D3
        gi_wp2
        exact ⟨keepsFrom_tch HT6.out fun q hq => by rcases hq with e | e | e <;> omega, rfl, by rw [HBL.out]; exact HEQ.out, ⟨t', HZG.out.later HZ6.out⟩, by rw [HBL.out]; exact HZO.out.later HZ6.out, by rw [HBL.out]; exact HZN.out.later HZ6.out, HTC.out.trans HT6.out fun _ _ h => h⟩
      · have b1 : ((p : Int) + (s2.2 : Int) == (b.length : Int)) = false := by simp; omega
        clear heq
        refine wpIn_region_rlater (by kernel_rfl) (by kernel_rfl) (by kernel_rfl) ?_
        repeat (gi_big_quiet_step (fail))
        refine wpQuietIn_nil ?_
        rintro W6 ⟨⟨Z6, hZ6⟩, rfl⟩
        have ht6 := HZT.out.trans (Tch.of_later (F := fun q => q = gs ∨ q = w1.heap.size ∨ q = w1.heap.size + 1) hZ6) fun _ _ h => h
        have HT6 := hid ht6; clear ht6
        have HZ6 := hid hZ6; clear hZ6
        clear D0 D1 D2 D3
        gi_wp2
        refine ⟨keepsFrom_tch HT6.out fun q hq => by rcases hq with e | e | e <;> omega, ?_, ⟨t', HZG.out.later HZ6.out⟩, by rw [HBL.out]; exact HZO.out.later HZ6.out, by rw [HBL.out]; exact HZN.out.later HZ6.out, HTC.out.trans HT6.out fun _ _ h => h⟩
        intro q hq
        have hg5 := HS5.out.ch
        have n1 := HSK.out.ne1
        have n2 := HSK.out.ne2
        have hzw := HZW.out
        have hz5 := HZ5.out
        rcases hq with e | e | e | e | e
        · exact HT6.out.block q (by omega) (nF q (by omega) (by omega) (by omega) (by omega))
        · exact HT6.out.block q (by omega) (nF q (by omega) (by omega) (by omega) (by omega))
        · have h6 := (HSK.out.ch.prev.lt _ e).2
          exact HT6.out.block q (by omega) (nF q (by omega) (fun e' => HSK.out.ne3 (e' ▸ e)) (by omega) (by omega))
        · exact HT6.out.block q (by omega) (nF q (by omega) (by omega) (by omega) (by omega))
        · exact HT6.out.block q (by omega) (nF q (by omega) (by omega) (by omega) (by omega))
    · have b0 : decide ((s1.2 : Int) < (m : Int)) = false := by simp; omega
      have b0' : decide (s1.2 < m) = false := by simp; omega
      have hs2 : s2 = s1 := by
        rw [HSN.out]; unfold stepB; rw [HMM.out, if_neg hgt]
      have HS2 := hid hs2; clear hs2 hgt
      gi_wp2
      refine wpIn_world (fun Z => Tch (fun q => q = gs ∨ q = w1.heap.size ∨ q = w1.heap.size + 1) V Z ∧ Blk Z gs 388 #[.slice sa b.length sc, .pointer (some ⟨g, 0, none⟩), .int .i64 t'] ∧ Blk Z w1.heap.size 3 #[.int .i64 (s2.1 : Int)] ∧ Blk Z (w1.heap.size + 1) 3 #[.int .i64 (s2.2 : Int)] ∧ Blk Z w.heap.size 379 #[.pointer (some ⟨gs, 0, none⟩)] ∧ Blk Z (w.heap.size + 1) 3 #[.int .i64 (p : Int)])
        ⟨((HUt.out.mono (G := (fun q => q = gs ∨ q = w1.heap.size ∨ q = w1.heap.size + 1)) (fun q _ e => .inl e)).trans (Tch.of_later (F := (fun q => q = gs ∨ q = w1.heap.size ∨ q = w1.heap.size + 1)) HYb.out) fun _ _ h => h), HYG.out, by rw [HS2.out]; exact HYO.out, by rw [HS2.out]; exact HYN.out, HY0.out, HY1.out⟩ ?_
      intro Z ⟨zt, zg, zo, zn, z0, z1⟩
      have D0 := fun s : Later Z => s.cell (show Z.cell? ⟨w.heap.size, 0, none⟩ = some (.pointer (some ⟨gs, 0, none⟩)) from z0.cell 0)
      have D1 := fun s : Later Z => s.cell (show Z.cell? ⟨w.heap.size + 1, 0, none⟩ = some (.int .i64 (p : Int)) from z1.cell 0)
      have D2 := fun s : Later Z => s.cell (show Z.cell? ⟨gs, 0, none⟩ = some (.slice sa b.length sc) from zg.cell 0)
      have D3 := fun s : Later Z => s.cell (show Z.cell? ⟨w1.heap.size + 1, 0, none⟩ = some (.int .i64 (s2.2 : Int)) from zn.cell 0)
      have HZT := hid zt; have HZG := hid zg; have HZO := hid zo; have HZN := hid zn
      clear zt zg zo zn z0 z1
      have i5 : (p : Int) + (s2.2 : Int) ≤ 2097152 := by omega
      by_cases heq : p + s2.2 = b.length
      · have b1 : ((p : Int) + (s2.2 : Int) == (b.length : Int)) = true := by simp; omega
        have HEQ := hid heq; clear heq
        refine wpIn_region_rlater (by kernel_rfl) (by kernel_rfl) (by kernel_rfl) ?_
        repeat (gi_big_quiet_step (fail))
        refine wpQuietIn_nil ?_
        rintro W6 ⟨⟨Z6, hZ6⟩, rfl⟩
        have ht6 := HZT.out.trans (Tch.of_later (F := fun q => q = gs ∨ q = w1.heap.size ∨ q = w1.heap.size + 1) hZ6) fun _ _ h => h
        have HT6 := hid ht6; clear ht6
        have HZ6 := hid hZ6; clear hZ6
        clear D0 D1 D2 D3
        gi_wp2
        exact ⟨keepsFrom_tch HT6.out fun q hq => by rcases hq with e | e | e <;> omega, rfl, by rw [HBL.out]; exact HEQ.out, ⟨t', HZG.out.later HZ6.out⟩, by rw [HBL.out]; exact HZO.out.later HZ6.out, by rw [HBL.out]; exact HZN.out.later HZ6.out, HTC.out.trans HT6.out fun _ _ h => h⟩
      · have b1 : ((p : Int) + (s2.2 : Int) == (b.length : Int)) = false := by simp; omega
        clear heq
        refine wpIn_region_rlater (by kernel_rfl) (by kernel_rfl) (by kernel_rfl) ?_
        repeat (gi_big_quiet_step (fail))
        refine wpQuietIn_nil ?_
        rintro W6 ⟨⟨Z6, hZ6⟩, rfl⟩
        have ht6 := HZT.out.trans (Tch.of_later (F := fun q => q = gs ∨ q = w1.heap.size ∨ q = w1.heap.size + 1) hZ6) fun _ _ h => h
        have HT6 := hid ht6; clear ht6
        have HZ6 := hid hZ6; clear hZ6
        clear D0 D1 D2 D3
        gi_wp2
        refine ⟨keepsFrom_tch HT6.out fun q hq => by rcases hq with e | e | e <;> omega, ?_, ⟨t', HZG.out.later HZ6.out⟩, by rw [HBL.out]; exact HZO.out.later HZ6.out, by rw [HBL.out]; exact HZN.out.later HZ6.out, HTC.out.trans HT6.out fun _ _ h => h⟩
        intro q hq
        have hg5 := HS5.out.ch
        have n1 := HSK.out.ne1
        have n2 := HSK.out.ne2
        have hzw := HZW.out
        have hz5 := HZ5.out
        rcases hq with e | e | e | e | e
        · exact HT6.out.block q (by omega) (nF q (by omega) (by omega) (by omega) (by omega))
        · exact HT6.out.block q (by omega) (nF q (by omega) (by omega) (by omega) (by omega))
        · have h6 := (HSK.out.ch.prev.lt _ e).2
          exact HT6.out.block q (by omega) (nF q (by omega) (fun e' => HSK.out.ne3 (e' ▸ e)) (by omega) (by omega))
        · exact HT6.out.block q (by omega) (nF q (by omega) (by omega) (by omega) (by omega))
        · exact HT6.out.block q (by omega) (nF q (by omega) (by omega) (by omega) (by omega))
  case done =>
    rintro D ys V hD hys ⟨hg', h2, h3, h4⟩ hK
    subst hys
    have hbd := best_done b p
    have hbb := bestL_bound b p (placesOf b p)
    generalize hs1 : bestL b p (placesOf b p) = s1 at *
    have k1 : V.cell? ⟨w1.heap.size, 0, none⟩ = some (.int .i64 (s1.1 : Int)) := h2.cell 0
    have k2 : V.cell? ⟨w1.heap.size + 1, 0, none⟩ = some (.int .i64 (s1.2 : Int)) := h3.cell 0
    have HBD := hid hbd; have HG' := hid hg'; have HT4 := hid h4; have HKK := hid hK
    clear hbd hs1 hg' h2 h3 h4 hK
    go_wp2_with fail
    refine (seek_taken _ _ _).mono ?_
    rintro r w9 ⟨rfl, rfl⟩
    have hif : ∃ v1 v2 : Nat, bestR b p = (v1, v2) ∧ (if (s1.2 : Int) < 4 then (0 : Int) else (s1.1 : Int)) = (v1 : Int) ∧ (if (s1.2 : Int) < 4 then (0 : Int) else (s1.2 : Int)) = (v2 : Int) := by
      by_cases h4 : s1.2 < 4
      · exact ⟨0, 0, by rw [← HBD.out]; unfold takenR; rw [if_pos h4, if_pos h4], by rw [if_pos (by omega)]; rfl, by rw [if_pos (by omega)]; rfl⟩
      · exact ⟨s1.1, s1.2, by rw [← HBD.out]; unfold takenR; rw [if_neg h4, if_neg h4], by rw [if_neg (by omega)], by rw [if_neg (by omega)]⟩
    obtain ⟨v1, v2, hv, hv1, hv2⟩ := hif
    rw [hv1, hv2]
    have HV := hid hv; clear hv hv1 hv2
    go_wp2
    refine ⟨by simp, .inl ⟨_, _, rfl, run_takeDeferred HKK.out, ?_⟩⟩
    have hTf : Tch (fun q => q = gs) w1 (V.putObj D (.deferred none)) := by
      have hg8 := grownBy_putObj' V D (.deferred none)
      have e5 := HB5.out
      have ez := HZW.out
      have ez5 := HZ5.out
      have hsz4 := HT4.out.size
      refine ⟨hg8.os.trans (HT4.out.os.trans (e5.os.trans hbW.os)), hg8.tape.trans (HT4.out.tape.trans (e5.tape.trans hbW.tape)), hg8.output.trans (HT4.out.output.trans (e5.output.trans hbW.output)), by have := hg8.size; omega, fun q hq hne => ?_⟩
      exact (hg8.block q (by omega) (fun e => by have := Option.some.inj e; omega)).trans ((HT4.out.block q (by omega) (fun e => by rcases e with e | e | e <;> omega)).trans ((e5.block q (by omega)).trans (hbW.block q hq)))
    have hsf : SkAt (V.putObj D (.deferred none)) gs g mb base lo hi b p sa sc ab cb a1 c1' := HSK.out.turned hTf (by
      obtain ⟨t, ht⟩ := HG'.out
      exact ⟨t, (World.putObj_heap_other (by have := HZ5.out; omega)).trans ht⟩)
    have hstep : SkStep w gs g mb base lo hi b n p sa sc ab cb ap cp (V.putObj D (.deferred none)) := ⟨a1, c1', hsf, HTW.out.trans hTf (fun q _ e => .inl e), HOW.out⟩
    have HST := hid hstep; clear hstep hsf hTf
    refine ⟨.tuple #[.int .i64 ((bestR b p).1 : Int), .int .i64 ((bestR b p).2 : Int)], ?_, rfl, HST.out⟩
    rw [HV.out]
    simp [results, Tryz.f374, go_sem]
  case stop =>
    rintro D c pre V hD hpre ⟨hc, hl, hg', h2, h3, h4⟩ hK
    subst hc
    have hbd := best_stop hpre hp hl
    have hbb := bestL_bound b p pre
    generalize hs1 : bestL b p pre = s1 at *
    have k1 : V.cell? ⟨w1.heap.size, 0, none⟩ = some (.int .i64 (s1.1 : Int)) := h2.cell 0
    have k2 : V.cell? ⟨w1.heap.size + 1, 0, none⟩ = some (.int .i64 (s1.2 : Int)) := h3.cell 0
    have HBD := hid hbd; have HG' := hid hg'; have HT4 := hid h4; have HKK := hid hK
    clear hbd hs1 hg' h2 h3 h4 hK hl
    refine wpIn_wide.2 ?_
    go_wp2_with fail
    refine (seek_taken _ _ _).mono ?_
    rintro r w9 ⟨rfl, rfl⟩
    have hif : ∃ v1 v2 : Nat, bestR b p = (v1, v2) ∧ (if (s1.2 : Int) < 4 then (0 : Int) else (s1.1 : Int)) = (v1 : Int) ∧ (if (s1.2 : Int) < 4 then (0 : Int) else (s1.2 : Int)) = (v2 : Int) := by
      by_cases h4 : s1.2 < 4
      · exact ⟨0, 0, by rw [← HBD.out]; unfold takenR; rw [if_pos h4, if_pos h4], by rw [if_pos (by omega)]; rfl, by rw [if_pos (by omega)]; rfl⟩
      · exact ⟨s1.1, s1.2, by rw [← HBD.out]; unfold takenR; rw [if_neg h4, if_neg h4], by rw [if_neg (by omega)], by rw [if_neg (by omega)]⟩
    obtain ⟨v1, v2, hv, hv1, hv2⟩ := hif
    rw [hv1, hv2]
    have HV := hid hv; clear hv hv1 hv2
    go_wp2
    refine ⟨by simp, .inl ⟨_, _, rfl, run_takeDeferred HKK.out, ?_⟩⟩
    have hTf : Tch (fun q => q = gs) w1 (V.putObj D (.deferred none)) := by
      have hg8 := grownBy_putObj' V D (.deferred none)
      have e5 := HB5.out
      have ez := HZW.out
      have ez5 := HZ5.out
      have hsz4 := HT4.out.size
      refine ⟨hg8.os.trans (HT4.out.os.trans (e5.os.trans hbW.os)), hg8.tape.trans (HT4.out.tape.trans (e5.tape.trans hbW.tape)), hg8.output.trans (HT4.out.output.trans (e5.output.trans hbW.output)), by have := hg8.size; omega, fun q hq hne => ?_⟩
      exact (hg8.block q (by omega) (fun e => by have := Option.some.inj e; omega)).trans ((HT4.out.block q (by omega) (fun e => by rcases e with e | e | e <;> omega)).trans ((e5.block q (by omega)).trans (hbW.block q hq)))
    have hsf : SkAt (V.putObj D (.deferred none)) gs g mb base lo hi b p sa sc ab cb a1 c1' := HSK.out.turned hTf (by
      obtain ⟨t, ht⟩ := HG'.out
      exact ⟨t, (World.putObj_heap_other (by have := HZ5.out; omega)).trans ht⟩)
    have hstep : SkStep w gs g mb base lo hi b n p sa sc ab cb ap cp (V.putObj D (.deferred none)) := ⟨a1, c1', hsf, HTW.out.trans hTf (fun q _ e => .inl e), HOW.out⟩
    have HST := hid hstep; clear hstep hsf hTf
    refine ⟨.tuple #[.int .i64 ((bestR b p).1 : Int), .int .i64 ((bestR b p).2 : Int)], ?_, rfl, HST.out⟩
    rw [HV.out]
    simp [results, Tryz.f374, go_sem]
open Go.RowKit Go.Bs Go.Maps
def ChNew (w : World) (b : List UInt8) (r : Ending) (w' : World) : Prop := ∃ g mb ab cb, r = .returned (.pointer (some ⟨g, 0, none⟩)) ∧ ChAt w' g mb w.heap.size b 0 ab cb none 0 ∧ Below w.heap.size w w' ∧ w.heap.size ≤ g ∧ w.heap.size ≤ mb ∧ rBytes.r (fun q => w.heap.size ≤ q ∧ q < w'.heap.size ∧ q ≠ g ∧ q ≠ mb) w' [.slice ab b.length cb] b

set_option maxRecDepth 100000 in
set_option maxHeartbeats 1600000 in
theorem chain_new (w : World) (b : List UInt8) (a : Option Addr) (n c : Nat) (hl : rBytes.r (· < w.heap.size) w [.slice a n c] b) (hlen : b.length ≤ 1048576) :
    Calls Tryz.prog 378 #[.slice a n c] w (ChNew w b) := by
  obtain ⟨rfl, hm, _, _⟩ := sl_len hl
  obtain ⟨i0, hi, hz0, hz1, hz2⟩ := info_parts info8
  have HS := hid (fun (W : World) (hW : Below w.heap.size w W) => src_bytes (lift hl hW))
  have HONE := hid (byteCells_one b)
  clear hl
  have hmm := @run_makeMap Tryz.prog
  go_enter Tryz.func378, Tryz.ntmps378
  go_wp2_with (at_builtin; go_loud (refine wpList_append_src rfl _ _ _ rfl w.heap.size 5 i0 (.int .u8 0) 1 1 Tryz.underlying22 hi hz0 hz1 hz2 rfl (by decide) _ 0 [] rfl (own_empty _ (Nat.le_refl _) rfl) a b.length c (byteCells b) rfl (HS.out _ (by (repeat (first | exact Below.refl _ _ | assumption | (refine below_alloc ?_ _) | (refine Below.setCell ?_ (by first | omega | (simp; done) | (simp; omega)) _) | (refine Below.drew ?_) | (refine below_drewN ?_ _) | (refine below_then (by assumption) ?_))))) HONE.out (by simp only [maxLen]; omega) (by omega) (by simp) ?_; intro v' w1 hown1 hgrow1 hat1; rw [Nat.zero_add, List.nil_append] at hown1; obtain ⟨a', c', rfl⟩ := own_form hown1; have hz1' : w.heap.size + 1 ≤ w1.heap.size := (by have := hgrow1.size; simpa using this); have HG := hid hgrow1; have HO := hid hown1; have HAT := hid hat1; clear hgrow1 hown1 hat1))
  have hA := own_bytes2 rfl HO.out
  have hfin : ChNew w b (.returned (.pointer (some ⟨w1.heap.size + 1, 0, none⟩))) ((w1.alloc (.map #[] 0)).alloc (.cells #[.slice a' b.length c', .map (some w1.heap.size), .slice none 0 0] 395)) := by
    have hsz : ((w1.alloc (.map #[] 0)).alloc (.cells #[.slice a' b.length c', .map (some w1.heap.size), .slice none 0 0] 395)).heap.size = w1.heap.size + 2 := by simp
    have keep : ∀ q, q < w1.heap.size → ((w1.alloc (.map #[] 0)).alloc (.cells #[.slice a' b.length c', .map (some w1.heap.size), .slice none 0 0] 395)).heap[q]? = w1.heap[q]? := fun q hq => (Below.heap_alloc _ _ q (by simp; omega)).trans (Below.heap_alloc _ _ q hq)
    refine ⟨w1.heap.size + 1, w1.heap.size, a', c', rfl, ⟨Blk.newAt _ _ _ (by simp), ?_, ⟨.map [], (World.ownsMap_made w1 _ _ _).alloc _, fun k _ => rfl⟩, ⟨by simp [prevs], .inl ⟨rfl, rfl⟩⟩, by omega, by simp [Value.ownBlock], by simp [Value.ownBlock], by omega, Nat.zero_le _, hlen⟩, ?_, by omega, by omega, ?_⟩
    · exact rBytes.mono (rBytes.keep hA fun q hq => keep q hq.2) fun q hq => ⟨by rw [hsz]; omega, by omega, by omega, by simp [Value.ownBlock]⟩
    · have hb1 : Below w.heap.size w w1 := Below.grown (by (repeat (first | exact Below.refl _ _ | assumption | (refine below_alloc ?_ _) | (refine Below.setCell ?_ (by first | omega | (simp; done) | (simp; omega)) _) | (refine Below.drew ?_) | (refine below_drewN ?_ _) | (refine below_then (by assumption) ?_)))) HG.out (by simp) (fun g e => by
        have e' : some w.heap.size = some g := e
        injection e' with e'
        omega)
      (repeat (first | exact Below.refl _ _ | assumption | (refine below_alloc ?_ _) | (refine Below.setCell ?_ (by first | omega | (simp; done) | (simp; omega)) _) | (refine Below.drew ?_) | (refine below_drewN ?_ _) | (refine below_then (by assumption) ?_)))
    · exact rBytes.mono (rBytes.keep hA fun q hq => keep q hq.2) fun q hq => ⟨hq.1, by rw [hsz]; omega, by omega, by omega⟩
  have HF := hid hfin; clear hfin hA
  go_ret
  exact HF.out

def SkNew (w : World) (b : List UInt8) (r : Ending) (w' : World) : Prop := ∃ gs g mb base sa sc ab cb, r = .returned (.pointer (some ⟨gs, 0, none⟩)) ∧ SkAt w' gs g mb base w.heap.size w'.heap.size b 0 sa sc ab cb none 0 ∧ Below w.heap.size w w' ∧ w.heap.size ≤ gs ∧ w.heap.size ≤ g ∧ w.heap.size ≤ mb ∧ w.heap.size ≤ base

set_option maxRecDepth 100000 in
set_option maxHeartbeats 1600000 in
theorem seek_new (w : World) (b : List UInt8) (a : Option Addr) (n c : Nat) (hl : rBytes.r (· < w.heap.size) w [.slice a n c] b) (hlen : b.length ≤ 1048576) :
    Calls Tryz.prog 373 #[.slice a n c] w (SkNew w b) := by
  obtain ⟨rfl, hm, _, _⟩ := sl_len hl
  obtain ⟨i0, hi, hz0, hz1, hz2⟩ := info_parts info8
  have HS := hid (fun (W : World) (hW : Below w.heap.size w W) => src_bytes (lift hl hW))
  have HONE := hid (byteCells_one b)
  have HL := hid hl
  clear hl
  go_enter Tryz.func373, Tryz.ntmps373
  go_wp2_with (at_builtin; go_loud (refine wpList_append_src rfl _ _ _ rfl w.heap.size 5 i0 (.int .u8 0) 1 1 Tryz.underlying22 hi hz0 hz1 hz2 rfl (by decide) _ 0 [] rfl (own_empty _ (Nat.le_refl _) rfl) a b.length c (byteCells b) rfl (HS.out _ (by (repeat (first | exact Below.refl _ _ | assumption | (refine below_alloc ?_ _) | (refine Below.setCell ?_ (by first | omega | (simp; done) | (simp; omega)) _) | (refine Below.drew ?_) | (refine below_drewN ?_ _) | (refine below_then (by assumption) ?_))))) HONE.out (by simp only [maxLen]; omega) (by omega) (by simp) ?_; intro v' w1 hown1 hgrow1 hat1; rw [Nat.zero_add, List.nil_append] at hown1; obtain ⟨a', c', rfl⟩ := own_form hown1; have hz1' : w.heap.size + 1 ≤ w1.heap.size := (by have := hgrow1.size; simpa using this); have HG := hid hgrow1; have HO := hid hown1; have HAT := hid hat1; clear hgrow1 hown1 hat1))
  have hb1 : Below w.heap.size w w1 := Below.grown (by (repeat (first | exact Below.refl _ _ | assumption | (refine below_alloc ?_ _) | (refine Below.setCell ?_ (by first | omega | (simp; done) | (simp; omega)) _) | (refine Below.drew ?_) | (refine below_drewN ?_ _) | (refine below_then (by assumption) ?_)))) HG.out (by simp) (fun g e => by
    have e' : some w.heap.size = some g := e
    injection e' with e'
    omega)
  refine (chain_new w1 b _ _ _ (lift HL.out hb1) hlen).mono ?_
  rintro r w2 ⟨g, mb, ab, cb, rfl, hch, hb2, hg, hmb, hbb⟩
  have hA := own_bytes2 rfl HO.out
  have hs2 := hb2.size
  have hgl := hch.blk.lt
  have hml : mb < w2.heap.size := by obtain ⟨D, hD, _⟩ := hch.map; exact hD.lt
  have hsz : (w2.alloc (.cells #[.slice a' b.length c', .pointer (some ⟨g, 0, none⟩), .int .i64 0] 388)).heap.size = w2.heap.size + 1 := by simp
  have keep : ∀ q, q < w2.heap.size → (w2.alloc (.cells #[.slice a' b.length c', .pointer (some ⟨g, 0, none⟩), .int .i64 0] 388)).heap[q]? = w2.heap[q]? := fun q hq => Below.heap_alloc _ _ q hq
  have hfin : SkNew w b (.returned (.pointer (some ⟨w2.heap.size, 0, none⟩))) (w2.alloc (.cells #[.slice a' b.length c', .pointer (some ⟨g, 0, none⟩), .int .i64 0] 388)) := by
    refine ⟨w2.heap.size, g, mb, w1.heap.size, a', c', ab, cb, rfl, ⟨⟨0, Blk.newAt _ _ _ (by simp)⟩, ?_, hch.later (by (repeat (first | exact Below.refl _ _ | assumption | (refine below_alloc ?_ _) | (refine Below.setCell ?_ (by first | omega | (simp; done) | (simp; omega)) _) | (refine Below.drew ?_) | (refine below_drewN ?_ _) | (refine below_then (by assumption) ?_)))), ?_, by omega, by omega, by simp [Value.ownBlock], Nat.le_refl _⟩, ?_, by omega, by omega, by omega, by omega⟩
    · exact rBytes.mono (rBytes.keep hA fun q hq => (keep q (by omega)).trans (hb2.block q hq.2)) fun q hq => ⟨⟨by omega, by rw [hsz]; omega⟩, by omega, by omega, by omega, by simp [Value.ownBlock]⟩
    · exact rBytes.mono (rBytes.keep hbb fun q hq => keep q hq.2.1) fun q hq => ⟨⟨by omega, by rw [hsz]; omega⟩, by omega, hq.2.2.1, hq.2.2.2, by simp [Value.ownBlock]⟩
    · exact (hb1.trans (hb2.mono (by omega))).alloc (by omega) _
  have HF := hid hfin; clear hfin hA hch hbb
  go_wp2
  go_ret
  exact HF.out
end Go.Proofs.YtfddhafbhceoaaaGreat
namespace Go.Bs
open Go.RowKit
set_option linter.unusedVariables false
set_option linter.unusedSimpArgs false
section
variable {w w' : World} {α : Type}

theorem flatten_len (sz : Nat) : ∀ (l : List (List Value)), (∀ c ∈ l, c.length = sz) → l.flatten.length = l.length * sz
  | [], _ => by simp
  | a :: l, h => by
    rw [List.flatten_cons, List.length_append, h a (by simp), flatten_len sz l fun c hc => h c (by simp [hc]), List.length_cons, Nat.succ_mul]
    omega

/-- As OwnElsAt, each element reaching into blocks of F alone. -/
def OwnElsF (F : Nat → Prop) (A : Rp α) (base : Nat) (e : TypeId) (sz : Nat) (w : World) (v : Value) (xs : List α) (cells : List (List Value)) : Prop :=
  w.ownsRow base e sz v xs.length cells.flatten ∧ cells.length = xs.length ∧ (∀ c ∈ cells, c.length = sz) ∧
    ∀ (i : Nat) cs x, cells[i]? = some cs → xs[i]? = some x → A.r (fun b => F b ∧ v.ownBlock ≠ some b) w cs x

theorem OwnElsF.of {lo : Nat} {A : Rp α} {base : Nat} {e : TypeId} {sz : Nat} {v : Value} {xs : List α} {cells : List (List Value)} (h : OwnElsAt lo A base e sz w v xs cells) : OwnElsF (fun b => lo ≤ b ∧ b < w.heap.size) A base e sz w v xs cells :=
  ⟨h.1, h.2.1, h.2.2.1, fun i cs x hi hx => A.mono (h.2.2.2 i cs x hi hx) fun b hb => ⟨⟨hb.1, hb.2.1⟩, hb.2.2⟩⟩
theorem OwnElsF.to {F : Nat → Prop} {lo : Nat} {A : Rp α} {base : Nat} {e : TypeId} {sz : Nat} {v : Value} {xs : List α} {cells : List (List Value)} (h : OwnElsF F A base e sz w v xs cells) (hF : ∀ b, F b → lo ≤ b ∧ b < w.heap.size) : OwnElsAt lo A base e sz w v xs cells :=
  ⟨h.1, h.2.1, h.2.2.1, fun i cs x hi hx => A.mono (h.2.2.2 i cs x hi hx) fun b hb => ⟨(hF b hb.1).1, (hF b hb.1).2, hb.2⟩⟩
theorem OwnElsF.keep {F : Nat → Prop} {A : Rp α} {base : Nat} {e : TypeId} {sz : Nat} {v : Value} {xs : List α} {cells : List (List Value)} (h : OwnElsF F A base e sz w v xs cells) (hF : ∀ b, F b → w'.heap[b]? = w.heap[b]?) (hv : ∀ g, v.ownBlock = some g → w'.heap[g]? = w.heap[g]?) : OwnElsF F A base e sz w' v xs cells := by
  obtain ⟨ho, hlen, hsz, hA⟩ := h
  refine ⟨⟨ho.1, ?_⟩, hlen, hsz, fun i cs x hi hx => A.keep (hA i cs x hi hx) fun b hb => hF b hb.1⟩
  rcases ho.2 with h0 | ⟨g, cap, cur, h1, h2, h3, h4⟩
  · exact .inl h0
  · exact .inr ⟨g, cap, cur, h1, h2, by rw [hv g (by rw [h1]; rfl)]; exact h3, h4⟩
theorem OwnElsF.mono {F F' : Nat → Prop} {A : Rp α} {base : Nat} {e : TypeId} {sz : Nat} {v : Value} {xs : List α} {cells : List (List Value)} (h : OwnElsF F A base e sz w v xs cells) (hF : ∀ b, F b → F' b) : OwnElsF F' A base e sz w v xs cells :=
  ⟨h.1, h.2.1, h.2.2.1, fun i cs x hi hx => A.mono (h.2.2.2 i cs x hi hx) fun b hb => ⟨hF b hb.1, hb.2⟩⟩

theorem OwnElsF.nil {F : Nat → Prop} {A : Rp α} {base : Nat} {e : TypeId} {sz : Nat} : OwnElsF F A base e sz w (.slice none 0 0) [] [] :=
  ⟨⟨by simp, .inl ⟨rfl, rfl⟩⟩, rfl, (by simp), fun i cs x h => by simp at h⟩
theorem OwnElsF.push {F : Nat → Prop} {A : Rp α} {base : Nat} {e : TypeId} {sz : Nat} {v v' : Value} {xs : List α} {news : List Value} {x : α} {cells : List (List Value)} (h : OwnElsF F A base e sz w v xs cells) (hF : ∀ b, F b → b < w.heap.size)
    (hn : news.length = sz) (hx : A.r (fun b => F b ∧ v.ownBlock ≠ some b) w news x)
    (hown : w'.ownsRow base e sz v' (xs.length + 1) (cells.flatten ++ news)) (hg : w.grownBy w' v.ownBlock) (hat : v'.ownBlock = v.ownBlock ∨ v'.ownBlock = some w.heap.size) : OwnElsF F A base e sz w' v' (xs ++ [x]) (cells ++ [news]) := by
  obtain ⟨ho, hlen, hsz, hA⟩ := h
  have lift : ∀ cs y, A.r (fun b => F b ∧ v.ownBlock ≠ some b) w cs y → A.r (fun b => F b ∧ v'.ownBlock ≠ some b) w' cs y := fun cs y hr =>
    A.mono (A.keep hr fun b hb => hg.block b (hF b hb.1) (fun e => hb.2 e.symm)) fun b hb => ⟨hb.1, fun e => by
      rcases hat with h | h
      · exact hb.2 (h ▸ e)
      · rw [h] at e; have := Option.some.inj e; have := hF b hb.1; omega⟩
  refine ⟨?_, by simp [hlen], ?_, ?_⟩
  · rw [List.flatten_append, List.length_append]
    simpa using hown
  · intro c hc
    rcases List.mem_append.1 hc with h | h
    · exact hsz c h
    · simp at h; subst h; exact hn
  · intro i cs y hi hy
    by_cases hlt : i < xs.length
    · rw [List.getElem?_append_left (by omega)] at hi
      rw [List.getElem?_append_left hlt] at hy
      exact lift _ _ (hA i cs y hi hy)
    · have hii : i = xs.length := by
        have := (List.getElem?_eq_some_iff.1 hy).1
        simp at this
        omega
      subst hii
      rw [List.getElem?_append_right (by omega)] at hi
      rw [List.getElem?_append_right (Nat.le_refl _)] at hy
      simp [hlen] at hi
      simp at hy
      subst hi hy
      exact lift _ _ hx
/-- What it stands for. -/
theorem OwnElsF.slice {F : Nat → Prop} {A : Rp α} {base : Nat} {e : TypeId} {sz : Nat} {v : Value} {xs : List α} {cells : List (List Value)} (h : OwnElsF F A base e sz w v xs cells) : (rSl sz A).r (fun b => F b ∨ v.ownBlock = some b) w [v] xs := by
  obtain ⟨hown, hlen, hsz, hA⟩ := h
  rcases hown.2 with ⟨rfl, h0⟩ | ⟨g, cap, cur, rfl, hbg, hg, hn, hc, hcur, hx⟩
  · have : xs = [] := List.eq_nil_of_length_eq_zero h0
    subst this
    exact rSl_mk rfl (Nat.le_refl _) (Nat.zero_le _) (.inl rfl)
  · refine rSl_mk rfl hn hc (.inr ⟨g, 0, rfl, .inr rfl, fun i x hi => ?_⟩)
    have hi' : i < xs.length := (List.getElem?_eq_some_iff.1 hi).1
    have hic : i < cells.length := by omega
    have hcs : cells[i]? = some cells[i] := List.getElem?_eq_getElem hic
    refine ⟨cells[i], hsz _ (List.getElem_mem hic), fun j v hj => ?_, A.mono (hA i _ x hcs hi) fun b h => .inl h.1⟩
    have hj' : j < sz := by have := (List.getElem?_eq_some_iff.1 hj).1; rw [hsz _ (List.getElem_mem hic)] at this; exact this
    have hf := flatten_at sz cells hsz i j _ v hcs hj
    rw [Nat.zero_add, Blk.cell hg (i * sz + j)]
    have hb : i * sz + j < xs.length * sz := by
      have := Nat.mul_le_mul_right sz (show i + 1 ≤ xs.length from hi')
      rw [Nat.succ_mul] at this
      omega
    have e1 : cur[i * sz + j]? = (cur.toList.take (xs.length * sz))[i * sz + j]? := by
      rw [List.getElem?_take, if_pos hb]; simp
    rw [e1, hx]; exact hf

/-- A batch, or one whose entries are still being built. -/
def rBV : Rp (Batch ⊕ (Int × Int × Value)) :=
  ⟨fun S w cs x => match x with | .inl b => rBatch.r S w cs b | .inr y => cs = [.int .u64 y.1, .int .u64 y.2.1, y.2.2],
   fun {S w w' cs x} h hk => by cases x with | inl b => exact rBatch.keep h hk | inr y => exact h,
   fun {S S' w cs x} h hk => by cases x with | inl b => exact rBatch.mono h hk | inr y => exact h⟩

/-- An own slice of batches, finished but for the last one, whose entries are an own slice that lies behind all else. -/
structure Bld2 (lo : Nat) (TB TE : TypeId) (w : World) (g c : Nat) (cells : List (List Value)) (s : Nat) (bs0 : List Batch) (e b : Int) (es : List Entry) (vl : Value) : Prop where
  own : OwnElsF (fun x => lo ≤ x ∧ x < s) rBV lo TB 3 w (.slice (some ⟨g, 0, none⟩) (bs0.length + 1) c) (bs0.map .inl ++ [.inr (e, b, vl)]) (cells ++ [[.int .u64 e, .int .u64 b, vl]])
  len : cells.length = bs0.length
  lt : g < s
  le : s ≤ w.heap.size
  last : OwnEls s rEntry s TE 2 w vl es
  he : 0 ≤ e ∧ e ≤ 18446744073709551615
  hb : 0 ≤ b ∧ b ≤ 18446744073709551615

theorem OwnElsF.inl {F : Nat → Prop} {base : Nat} {e : TypeId} {sz : Nat} {v : Value} {xs : List Batch} {cells : List (List Value)} (h : OwnElsF F rBatch base e sz w v xs cells) : OwnElsF F rBV base e sz w v (xs.map .inl) cells := by
  obtain ⟨ho, hlen, hsz, hA⟩ := h
  refine ⟨by simpa using ho, by simpa using hlen, hsz, fun i cs x hi hx => ?_⟩
  rw [List.getElem?_map] at hx
  cases hxi : xs[i]? with
  | none => rw [hxi] at hx; cases hx
  | some y => rw [hxi] at hx; cases hx; exact hA i cs y hi hxi

/-- A world in which no block but one ahead of all has turned keeps it. -/
theorem Bld2.keep {lo : Nat} {TB TE : TypeId} {g c : Nat} {cells : List (List Value)} {s : Nat} {bs0 : List Batch} {e b : Int} {es : List Entry} {vl : Value} (h : Bld2 lo TB TE w g c cells s bs0 e b es vl) (p : Nat) (hp : p < lo)
    (hk : ∀ b, b < w.heap.size → b ≠ p → w'.heap[b]? = w.heap[b]?) (hs : w.heap.size ≤ w'.heap.size) : Bld2 lo TB TE w' g c cells s bs0 e b es vl := by
  obtain ⟨ho, h1, h2, h3, h4, h5, h6⟩ := h
  have hlo : lo ≤ g := by
    rcases ho.1.2 with ⟨h0, _⟩ | ⟨g', cap, cur, hv, hb, _⟩
    · cases h0
    · simp at hv
      omega
  refine ⟨ho.keep (fun b hb => hk b (by omega) (by omega)) (fun g' hg' => hk g' (by simp [Value.ownBlock] at hg'; omega) (by simp [Value.ownBlock] at hg'; omega)), h1, h2, by omega, ?_, h5, h6⟩
  obtain ⟨cs, hc⟩ := h4
  have h8 := (OwnElsF.of hc).keep (w' := w') (fun b hb => hk b hb.2 (by omega)) (fun g' hg' => hk g' (hc.1.lt g' hg').2 (by have := (hc.1.lt g' hg').1; omega))
  exact ⟨cs, h8.to fun b hb => ⟨hb.1, by omega⟩⟩

end
end Go.Bs
namespace Go.Bs
open Go.RowKit
set_option linter.unusedVariables false

/-- Nothing, in the last operation's place. -/
def noopOf (o : Oper) : Oper := { o with op := .move (.const (.bool true)), guard := none }
def noopLast : List Oper → List Oper
  | [] => []
  | [o] => [noopOf o]
  | o :: p :: l => o :: noopLast (p :: l)
theorem noopLast_length : ∀ l, (noopLast l).length = l.length
  | [] => rfl
  | [_] => rfl
  | _ :: p :: l => by simp [noopLast, noopLast_length (p :: l)]
theorem noopLast_get : ∀ (l : List Oper) (i : Nat), (noopLast l)[i]? = if i + 1 = l.length then (l[i]?).map noopOf else l[i]?
  | [], i => by simp [noopLast]
  | [o], i => by
    cases i with
    | zero => simp [noopLast]
    | succ i => simp [noopLast]
  | o :: p :: l, i => by
    cases i with
    | zero => simp [noopLast]
    | succ i =>
      have := noopLast_get (p :: l) i
      simp only [noopLast, List.getElem?_cons_succ, List.length_cons] at *
      rw [this]
      by_cases h : i + 1 = l.length + 1
      · rw [if_pos h, if_pos (by omega)]
      · rw [if_neg h, if_neg (by omega)]

/-- The last operation waits for each other one, if through others, yields nothing, is not guarded; and all wait for what stands ahead of them alone. -/
def lastB (md : Region.Mode) (l : List Oper) : Bool :=
  (match l.getLast? with | none => false | some o => o.dst.isNone && o.guard.isNone) && (Region.sinkB md l.toArray (l.length - 1) && Region.chainB md l.toArray (l.length - 1)) &&
    (List.range l.length).all fun i => match l[i]? with | none => true | some o => o.after.all fun e => decide (e.on < i)

section
variable {P : Program} {md : Region.Mode}

theorem ready_noop (l : List Oper) (listed : Array Bool) : Region.ready md (noopLast l).toArray listed = Region.ready md l.toArray listed := by
  unfold Region.ready
  simp only [List.size_toArray, noopLast_length]
  refine List.filter_congr fun i _ => ?_
  simp only [List.getElem?_toArray, noopLast_get]
  by_cases h : i + 1 = l.length
  · rw [if_pos h]
    cases l[i]? <;> rfl
  · rw [if_neg h]

theorem yielded_noop (l : List Oper) (t : Array Value) : yielded (noopLast l).toArray t = yielded l.toArray t := by
  funext j
  unfold yielded
  simp only [List.getElem?_toArray, noopLast_get]
  by_cases h : j + 1 = l.length
  · rw [if_pos h]
    cases l[j]? <;> rfl
  · rw [if_neg h]

theorem wpOp_exits {ops : Array Oper} {Q Q' : Exit → Act → World → Prop} {i : Nat} {K : Act → World → Prop} {a : Act} {w : World} (hQ : ∀ e a w, e ≠ .normal → Q' e a w → Q e a w) (h : wpOp P ops Q' i K a w) : wpOp P ops Q i K a w := by
  unfold wpOp at *
  split
  · rename_i ho
    simp only [ho] at h
    exact h
  · rename_i o ho
    simp only [ho] at h
    split
    · rename_i hw
      simp only [hw, if_true] at h
      have hl : LetsOut Q' → LetsOut Q := fun ⟨a, w, h⟩ => ⟨a, w, hQ _ _ _ (by simp) h⟩
      rcases h with h | ⟨h1, h2⟩
      · left
        unfold Oper.wp at *
        generalize (execOp a.eval o).run P w = r at *
        cases r with
        | ok n w' =>
          cases n <;> simp only [Oper.upon] at h ⊢
          case value u => exact h
          case skip => exact h
          case defer d => exact h
          case enter f args =>
            refine Calls.mono h fun e w'' he => ?_
            cases e with
            | returned u => exact he
            | panicked c => exact hQ _ _ _ (by simp) he
            | outgrown => exact hl he
          case row row args => exact h
        | halt x w' =>
          cases x <;> simp only [Oper.upon] at h ⊢
          case panic u => exact hQ _ _ _ (by simp) h
      · exact .inr ⟨h1, hl h2⟩
    · rename_i hw
      simp only [hw] at h
      exact h

theorem wpOp_noop {l : List Oper} {Q : Exit → Act → World → Prop} {i : Nat} {K : Act → World → Prop} {a : Act} {w : World} (hi : i + 1 ≠ l.length) (h : wpOp P (noopLast l).toArray Q i K a w) : wpOp P l.toArray Q i K a w := by
  unfold wpOp at *
  rw [yielded_noop] at h
  simp only [List.getElem?_toArray, noopLast_get, if_neg hi] at h ⊢
  exact h

/-- What is asked behind the others: the last one, by itself. -/
def lastQ (P : Program) (l : List Oper) (o : Oper) (Q : Exit → Act → World → Prop) : Exit → Act → World → Prop
  | .normal, a, w => wpList P l.toArray Q [o] a w
  | e, a, w => Q e a w

theorem lastQ_other {l : List Oper} {o : Oper} {Q : Exit → Act → World → Prop} {e : Exit} {a : Act} {w : World} (he : e ≠ .normal) (h : lastQ P l o Q e a w) : Q e a w := by
  cases e <;> first | exact h | exact absurd rfl he

theorem ready_some {ops : Array Oper} {listed : Array Bool} (hd : ∀ (i : Nat) (o : Oper), ops[i]? = some o → ∀ e ∈ o.after, e.on < i) (hs : listed.size = ops.size) : ∀ (n j : Nat), j < n → j < ops.size → listed.getD j true = false → Region.ready md ops listed ≠ []
  | 0, j, h, _, _ => by omega
  | n + 1, j, h, hj, hl => by
    intro h0
    have hr : j ∉ Region.ready md ops listed := by rw [h0]; simp
    apply hr
    rw [mem_ready]
    have ho : ops[j]? = some ops[j] := Array.getElem?_eq_getElem hj
    refine ⟨hl, ops[j], ho, fun e he hb => ?_⟩
    have hlt := hd j _ ho e he
    cases hg : listed.getD e.on false with
    | true => rfl
    | false => exact absurd h0 (ready_some hd hs n e.on (by omega) (by omega) (getD_in (by omega) hg))

theorem wpAny_last {l : List Oper} {o : Oper} {Q : Exit → Act → World → Prop} (hlast : l[l.length - 1]? = some o) (hpos : 0 < l.length) (hdst : o.dst = none) (hgd : o.guard = none)
    (hs1 : Region.sinkB md l.toArray (l.length - 1) = true) (hc1 : Region.chainB md l.toArray (l.length - 1) = true) (hd : ∀ (i : Nat) (o : Oper), l.toArray[i]? = some o → ∀ e ∈ o.after, e.on < i) :
    ∀ (fuel : Nat) (listed : Array Bool) (a : Act) (w : World), HeadInv md l.toArray (l.length - 1) listed →
      wpAny P md (noopLast l).toArray (lastQ P l o Q) fuel listed a w → wpAny P md l.toArray Q fuel listed a w
  | 0, listed, a, w, inv, h => by
    have hs : listed.size = l.length := by simpa using inv.size
    have hl := inv.tail (l.length - 1) (Nat.le_refl _) (by simp; omega)
    exact absurd (by rw [← ready_noop]; exact h.1) (ready_some (md := md) hd (by simpa using hs) _ _ (Nat.lt_succ_self _) (by simp; omega) hl)
  | fuel + 1, listed, a, w, inv, h => by
    have hs : listed.size = l.length := by simpa using inv.size
    have hl := inv.tail (l.length - 1) (Nat.le_refl _) (by simp; omega)
    have hne := ready_some (md := md) hd (by simpa using hs) _ _ (Nat.lt_succ_self _) (by simp; omega) hl
    refine ⟨fun h0 => absurd h0 hne, fun i hi => ?_⟩
    have h2 := h.2 i (by rw [ready_noop]; exact hi)
    by_cases hin : i + 1 = l.length
    · -- the last one: all others have come up
      obtain rfl : i = l.length - 1 := by omega
      have hr := mem_ready.1 hi
      have hall : ∀ j, j < l.length → (listed.setIfInBounds (l.length - 1) true).getD j true = true := by
        intro j hj
        by_cases hjl : j = l.length - 1
        · subst hjl; simp [hs]
        · rw [getD_set_ne true (by omega)]
          cases hg : listed.getD j true with
          | true => rfl
          | false => exact absurd hi (tail_waits hs1 hc1 (by simp; omega) inv _ j rfl (by omega) hg _ (Nat.le_refl _))
      have hrd : Region.ready md l.toArray (listed.setIfInBounds (l.length - 1) true) = [] := by
        rw [List.eq_nil_iff_forall_not_mem]
        intro j hj
        obtain ⟨h1, o', ho', _⟩ := mem_ready.1 hj
        have hjl : j < l.length := by
          have := (Array.getElem?_eq_some_iff.1 ho').1
          simpa using this
        rw [hall j hjl] at h1
        cases h1
      have hQ : wpList P l.toArray Q [o] a w := by
        unfold wpOp at h2
        simp only [List.getElem?_toArray, noopLast_get, if_pos (show l.length - 1 + 1 = l.length by omega), hlast, Option.map_some] at h2
        have hwant : Region.wanted (noopOf o) (yielded (noopLast l).toArray a.tmps) = true := rfl
        rw [if_pos hwant] at h2
        rcases h2 with h2 | ⟨h2, _⟩
        · have h3 : wpAny P md (noopLast l).toArray (lastQ P l o Q) fuel (listed.setIfInBounds (l.length - 1) true) (a.put (noopOf o).dst (.bool true)) w := h2
          have h4 : (noopOf o).dst = none := hdst
          rw [h4] at h3
          cases fuel with
          | zero => exact h3.2
          | succ f => exact h3.1 (by rw [ready_noop]; exact hrd)
        · exfalso
          simp only [Oper.asks, noopOf, execOp] at h2
          have h5 := h2.1
          have h6 : noRoomEvent ∈ (#[] : Array Event) := h5
          simp at h6
      unfold wpOp
      simp only [List.getElem?_toArray, hlast]
      have hwant : Region.wanted o (yielded l.toArray a.tmps) = true := by simp [Region.wanted, hgd]
      rw [if_pos hwant]
      unfold wpList at hQ
      rw [if_pos hwant] at hQ
      refine hQ.imp (fun h => Oper.wp_mono (fun a' w' h' => ?_) h) id
      cases fuel with
      | zero => exact ⟨hrd, h'⟩
      | succ f => exact ⟨fun _ => h', by rw [hrd]; simp⟩
    · refine wpOp_exits (fun e a w he h => lastQ_other he h) (wpOp_noop hin (wpOp_mono (fun a' w' h' => ?_) h2))
      exact wpAny_last hlast hpos hdst hgd hs1 hc1 hd fuel _ a' w' (inv.set hi (by
        have := (mem_ready.1 hi).2
        obtain ⟨o', ho', _⟩ := this
        have := (Array.getElem?_eq_some_iff.1 ho').1
        simp at this
        omega)) h'

theorem wp_region_last {id : Nat} {Q : Exit → Act → World → Prop} {a : Act} {w : World} {l : List Oper} (o : Oper) (hm : P.follows .mixedOrders = true) (ho : l[l.length - 1]? = some o) (hB : lastB .any l = true)
    (h : wpAny P .any (noopLast l).toArray (lastQ P l o Q) (noopLast l).toArray.size (Array.replicate (noopLast l).toArray.size false) a { w with drawn := w.drawn + 1 }) : (Code.region id l.toArray true).wp P Q a w := by
  have hpos : 0 < l.length := by
    rcases Nat.eq_zero_or_pos l.length with h | h
    · rw [List.eq_nil_of_length_eq_zero h] at ho; simp at ho
    · exact h
  simp only [lastB, Bool.and_eq_true] at hB
  obtain ⟨⟨h1, h2, h2'⟩, h3⟩ := hB
  rw [List.getLast?_eq_getElem?, ho] at h1
  simp only [Bool.and_eq_true, Option.isNone_iff_eq_none] at h1
  have inv0 : HeadInv .any l.toArray (l.length - 1) (Array.replicate l.toArray.size false) :=
    ⟨by simp, fun j oj _ hl => (by rw [getD_replicate_false] at hl; cases hl), fun t _ ht => getD_in (by simpa using ht) (getD_replicate_false _ _)⟩
  refine wp_region_any hm (wpAny_last ho hpos h1.1 h1.2 h2 h2' ?_ _ _ a _ inv0 (by simpa [noopLast_length] using h))
  intro i o' ho' e he
  have hi : i < l.length := by
    have := (Array.getElem?_eq_some_iff.1 ho').1
    simpa using this
  have := List.all_eq_true.1 h3 i (List.mem_range.2 hi)
  simp only [List.getElem?_toArray] at ho'
  rw [ho'] at this
  have h4 := Array.all_eq_true'.1 this e he
  simpa using h4

/-- The others under a condition on the world, loads first (Derived/OrdersHeld.lean), then that one. -/
theorem wp_region_last_held {id : Nat} {Q : Exit → Act → World → Prop} {a : Act} {w : World} {l : List Oper} (S : World → Prop) (o : Oper) (hm : P.follows .mixedOrders = true) (ho : l[l.length - 1]? = some o) (hB : lastB .any l = true)
    (hS : S w.drew) (h : S w.drew → wpAnyH P .any (noopLast l).toArray (lastQ P l o Q) S l.length (Array.replicate l.length false) a w.drew) : (Code.region id l.toArray true).wp P Q a w :=
  wp_region_last o hm ho hB (wpAny_of_held _ _ _ _ (by simpa [noopLast_length] using h hS))
end
end Go.Bs
namespace Go.Proofs.YtfddhafbhceoaaaGreat
open Go.RowKit Go.Bs Go.Maps
set_option linter.unusedVariables false
set_option linter.unusedSimpArgs false

def rTok : Rp Tok := rBy (fun t => (t.lit, t.off, t.len)) (rPair rBytes (rPair (rInt .i64) (rInt .i64)))
def rToks : Rp (List Tok) := rSl 3 rTok
theorem i64_wf {n : Int} (h : -9223372036854775808 ≤ n ∧ n ≤ 9223372036854775807) : (Lit.int .i64 n).wf = true := by
  simp [Lit.wf, IntKind.min, IntKind.max, IntKind.signed, IntKind.bits]; omega
theorem tok_mk {S : Nat → Prop} {w : World} {x : Tok} {v : Value} (h : rBytes.r S w [v] x.lit) (h1 : -9223372036854775808 ≤ x.off ∧ x.off ≤ 9223372036854775807) (h2 : -9223372036854775808 ≤ x.len ∧ x.len ≤ 9223372036854775807) : rTok.r S w [v, .int .i64 x.off, .int .i64 x.len] x :=
  ⟨[_], [_, _], rfl, h, [_], [_], rfl, ⟨rfl, i64_wf h1⟩, rfl, i64_wf h2⟩
theorem infoTok : (Tryz.prog.info? 304).map (fun i => (i.zero, i.size, i.bytes)) = some (some (.agg #[.slice none 0 0, .int .i64 0, .int .i64 0]), 3, 40) := by kernel_rfl
theorem sl_drop {α : Type} {sz : Nat} {A : Rp α} {S : Nat → Prop} {w : World} {xs : List α} {b off : Nat} {n c k : Nat} (h : (rSl sz A).r S w [.slice (some ⟨b, off, none⟩) n c] xs) (hk : k ≤ xs.length) : (rSl sz A).r S w [.slice (some ⟨b, off + k * sz, none⟩) (n - k) (c - k)] (xs.drop k) := by
  obtain ⟨a', c', e, h1, h2, h3⟩ := h
  simp at e
  obtain ⟨rfl, rfl, rfl⟩ := e
  refine rSl_mk (a := some ⟨b, off + k * sz, none⟩) (c := c - k) (by simp) (by simp; omega) (by omega) ?_
  rcases h3 with rfl | ⟨b', off', e', hS, hr⟩
  · exact .inl (by simp)
  · simp at e'
    obtain ⟨rfl, rfl⟩ := e'
    refine .inr ⟨b, off + k * sz, rfl, hS, fun i x hi => ?_⟩
    rw [List.getElem?_drop] at hi
    obtain ⟨cs, h4, h5, h6⟩ := hr (k + i) x hi
    refine ⟨cs, h4, fun j v hj => ?_, h6⟩
    have := h5 j v hj
    rw [show off + k * sz + i * sz + j = off + (k + i) * sz + j by rw [Nat.add_mul]; omega]
    exact this
/-- What a run leaves. -/
def RunPost (w : World) (bo lo : Nat) (F : Nat → Prop) (v : Value) (L' : List Tok) (r : Ending) (w' : World) : Prop := r = .returned (.tuple #[]) ∧
  ∃ av' cv' cells', Blk w' bo 337 #[.slice av' L'.length cv'] ∧ OwnElsF (fun q => F q ∨ (w.heap.size ≤ q ∧ q < w'.heap.size)) rTok lo 304 3 w' (.slice av' L'.length cv') L' cells' ∧ Tch (fun q => q = bo ∨ v.ownBlock = some q) w w' ∧ ((Value.slice av' L'.length cv').ownBlock = v.ownBlock ∨ ∃ q, (Value.slice av' L'.length cv').ownBlock = some q ∧ w.heap.size ≤ q)

set_option maxRecDepth 100000 in
set_option maxHeartbeats 3200000 in
theorem press_run (w : World) {bf bo bb lo : Nat} {F : Nat → Prop} {b : List UInt8} {a : Option Addr} {c i to : Nat} {av : Option Addr} {cv : Nat} {L : List Tok} {cells : List (List Value)}
    (hf : Blk w bf 3 #[.int .i64 (i : Int)]) (ho : Blk w bo 337 #[.slice av L.length cv]) (hb : Blk w bb 22 #[.slice a b.length c]) (hl : rBytes.r (fun q => q < w.heap.size) w [.slice a b.length c] b)
    (hown : OwnElsF F rTok lo 304 3 w (.slice av L.length cv) L cells) (hF : ∀ q, F q → q < w.heap.size) (hFo : ¬ F bo) (hoo : (Value.slice av L.length cv).ownBlock ≠ some bo)
    (hne : bo ≠ bf ∧ bo ≠ bb ∧ (Value.slice av L.length cv).ownBlock ≠ some bf ∧ (Value.slice av L.length cv).ownBlock ≠ some bb) (hto : to ≤ b.length) (hlen : b.length ≤ 1048576) (hL : L.length ≤ 2097152) (hlo : lo ≤ w.heap.size) :
    Calls Tryz.prog 372 #[.int .i64 (to : Int), .pointer (some ⟨bf, 0, none⟩), .pointer (some ⟨bo, 0, none⟩), .pointer (some ⟨bb, 0, none⟩)] w (RunPost w bo lo F (.slice av L.length cv) (L ++ litT b i to)) := by
  have f0 : w.cell? ⟨bf, 0, none⟩ = some (.int .i64 (i : Int)) := hf.cell 0
  by_cases hit : i < to
  · have hlit : litT b i to = [⟨(b.drop i).take (to - i), 0, 0⟩] := by unfold litT; rw [if_pos hit]
    obtain ⟨ga, oa, hA, hga, _⟩ := byte_at hl (i := i) (by omega)
    subst hA
    obtain ⟨_, _, hlc, hcm⟩ := sl_len hl
    obtain ⟨i0, hi0, hz0, hz1, hz2⟩ := info_parts info8
    obtain ⟨j0, hj0, hy0, hy1, hy2⟩ := info_parts infoTok
    have o0 : w.cell? ⟨bo, 0, none⟩ = some (.slice av L.length cv) := ho.cell 0
    have b0 : w.cell? ⟨bb, 0, none⟩ = some (.slice (some ⟨ga, oa, none⟩) b.length c) := hb.cell 0
    have of := ho.free 0
    have lf := hf.lt; have lo' := ho.lt; have lb := hb.lt
    have hsub : Hid (rBytes.r (fun q => q < w.heap.size) w [.slice (some ⟨ga, oa + i, none⟩) (to - i) (c - i)] ((b.drop i).take (to - i))) := hid (by
      have h1 := sl_drop hl (k := i) (by omega)
      rw [Nat.mul_one] at h1
      exact sl_take h1 (by simp; omega))
    have hsl' : ((b.drop i).take (to - i)).length = to - i := by simp; omega
    generalize hD : (b.drop i).take (to - i) = D at *
    clear hD
    have HLIT := hid hlit; have HSL := hid hsl'
    have hds : Hid (to - i = D.length) := hid hsl'.symm
    have HS := hid (fun (W : World) (hW : Below w.heap.size w W) => src_bytes (l := D) (lift (w := w) (A := rBytes) (by have := hsub.out; rw [hds.out] at this; exact this) hW))
    have HONE := hid (byteCells_one D)
    have hsl : ∀ w' : World, (Instr.slice 22 (.slice (some ⟨ga, oa, none⟩) b.length c) (some (.int .i64 (i : Int))) (some (.int .i64 (to : Int))) none).run Tryz.prog w' = .ok (.slice (some ⟨ga, oa + i, none⟩) D.length (c - i)) w' := fun w' => by
      rw [← hds.out]
      have g1 : (0 : Int) ≤ (i : Int) := by omega
      have g2 : (i : Int) ≤ (to : Int) := by omega
      have g3 : (to : Int) ≤ (c : Int) := by omega
      have g4 : ¬ c = i := by omega
      go_simp
    have HF := hid hF; have HFO := hid hFo; have HOO := hid hoo; have HOWN := hid hown
    have HHO := hid ho
    have lenD : D.length ≤ 1048576 := by omega
    have g1 : (0 : Int) ≤ (i : Int) := by omega
    have g2 : (i : Int) ≤ (to : Int) := by omega
    have g3 : (to : Int) ≤ (c : Int) := by omega
    have g4 : (to : Int) ≤ (b.length : Int) := by omega
    have d1 : decide ((i : Int) < (to : Int)) = true := by simp; omega
    have d1' : decide (i < to) = true := by simp; omega
    obtain ⟨ne1, ne2, ne3, ne4⟩ := hne
    clear hF hFo hoo hown ho hb hl hf hlit hsl' hsub hds
    go_enter Tryz.func372, Tryz.ntmps372
    go_wp2_with fail
    refine wp_region_last_held (fun w' => w'.cell? ⟨bf, 0, none⟩ = some (.int .i64 (i : Int)) ∧ w'.cell? ⟨bo, 0, none⟩ = some (.slice av L.length cv) ∧ w'.cell? ⟨bb, 0, none⟩ = some (.slice (some ⟨ga, oa, none⟩) b.length c)) _ (by kernel_rfl) rfl (by kernel_rfl) ⟨f0, o0, b0⟩ (fun hHeld => ?_)
    simp only [noopLast, noopOf]
    refine wpAnyH_take (i := 0) (oi := _) (v := ?_) rfl (by decide +kernel) (by decide +kernel) (by decide +kernel) (fun _ _ _ h => h) (Or.inl ⟨by rfl, ?_⟩) (by assumption) ?_
    rotate_left
    · (intro w hSw; (try dsimp only at hSw); go_simp <;> with_reducible rfl)
    (try simp only [Act.put, List.setIfInBounds_toArray, List.set_cons_zero, List.set_cons_succ])
    refine wpAnyH_take (i := 2) (oi := _) (v := ?_) rfl (by decide +kernel) (by decide +kernel) (by decide +kernel) (fun _ _ _ h => h) (Or.inl ⟨by rfl, ?_⟩) (by assumption) ?_
    rotate_left
    · (intro w hSw; (try dsimp only at hSw); go_simp <;> with_reducible rfl)
    (try simp only [Act.put, List.setIfInBounds_toArray, List.set_cons_zero, List.set_cons_succ])
    refine wpAnyH_take (i := 3) (oi := _) (v := ?_) rfl (by decide +kernel) (by decide +kernel) (by decide +kernel) (fun _ _ _ h => h) (Or.inl ⟨by rfl, ?_⟩) (by assumption) ?_
    rotate_left
    · (intro w hSw; (try dsimp only at hSw); go_simp <;> with_reducible rfl)
    (try simp only [Act.put, List.setIfInBounds_toArray, List.set_cons_zero, List.set_cons_succ])
    refine wpAnyH_take (i := 4) (oi := _) (v := ?_) rfl (by decide +kernel) (by decide +kernel) (by decide +kernel) (fun _ _ _ h => h) (Or.inl ⟨by rfl, ?_⟩) (by assumption) ?_
    rotate_left
    · (intro w hSw; (try dsimp only at hSw); go_simp <;> with_reducible rfl)
    (try simp only [Act.put, List.setIfInBounds_toArray, List.set_cons_zero, List.set_cons_succ])
    refine wpAnyH_take (i := 5) (oi := _) (v := ?_) rfl (by decide +kernel) (by decide +kernel) (by decide +kernel) (fun _ _ _ h => h) (Or.inl ⟨by rfl, ?_⟩) (by assumption) ?_
    rotate_left
    · (intro w hSw; (try dsimp only at hSw); go_simp <;> with_reducible rfl)
    (try simp only [Act.put, List.setIfInBounds_toArray, List.set_cons_zero, List.set_cons_succ])
    refine wpAnyH_ready (rs := [1]) (by decide +kernel) (by simp) ?_
    refine AllReadyH.cons (o := _) rfl (fun K hK => ?_) AllReadyH.nil
    go_simp
    refine hK.out _ _ ?_ (fun hHeld => ?_)
    · ((try dsimp only); refine ⟨?_, ?_, ?_⟩ <;> (first | assumption | (go_keep; done)))
    clear hK K
    (try simp only [Act.put, List.setIfInBounds_toArray, List.set_cons_zero, List.set_cons_succ])
    refine wpAnyH_ready (rs := [6]) (by decide +kernel) (by simp) ?_
    refine AllReadyH.cons (o := _) rfl (fun K hK => ?_) AllReadyH.nil
    (refine step_append_src (by rfl) _ _ _ (by rfl) w.heap.size 5 i0 (.int .u8 0) 1 1 Tryz.underlying22 hi0 hz0 hz1 hz2 rfl (by decide) _ 0 [] (by rfl) (own_empty _ (by simp) (by rfl)) (some ⟨ga, oa + i, none⟩) D.length (c - i) (byteCells D) (by rfl) (HS.out _ (by (repeat (first | exact Below.refl _ _ | assumption | (refine below_alloc ?_ _) | (refine Below.setCell ?_ (by first | omega | (simp; done) | (simp; omega)) _) | (refine Below.drew ?_) | (refine below_drewN ?_ _) | (refine below_then (by assumption) ?_))))) HONE.out (by simp only [maxLen]; omega) (by omega) (by simp) ?_; intro a5 c5 w5 hown5 hgrow5 hat5; rw [Nat.zero_add] at hown5; have k5 : Below w.heap.size w w5 := Below.grown (by (repeat (first | exact Below.refl _ _ | assumption | (refine below_alloc ?_ _) | (refine Below.setCell ?_ (by first | omega | (simp; done) | (simp; omega)) _) | (refine Below.drew ?_) | (refine below_drewN ?_ _) | (refine below_then (by assumption) ?_)))) hgrow5 (by simp) (fun g e => by { have e' : some w.heap.size = some g := e; injection e' with e'; omega }); have e0 := (k5.cell (p := ⟨bf, 0, none⟩) lf).trans f0; have e1 := (k5.cell (p := ⟨bo, 0, none⟩) lo').trans o0; have e2 := (k5.cell (p := ⟨bb, 0, none⟩) lb).trans b0; have HK5 := hid k5; have HG5 := hid hgrow5; have HO5 := hid hown5; have HA5 := hid hat5; have hs5 : w.heap.size + 1 ≤ w5.heap.size := (by have := hgrow5.size; simpa using this); clear hown5 hgrow5 hat5 k5)
    refine hK.out _ _ ?_ (fun hHeld => ?_)
    · ((try dsimp only); refine ⟨?_, ?_, ?_⟩ <;> (first | assumption | (go_keep; done)))
    clear hK K
    (try simp only [Act.put, List.setIfInBounds_toArray, List.set_cons_zero, List.set_cons_succ])
    refine wpAnyH_take (i := 7) (oi := _) (v := ?_) rfl (by decide +kernel) (by decide +kernel) (by decide +kernel) (fun _ _ _ h => h) (Or.inl ⟨by rfl, ?_⟩) (by assumption) ?_
    rotate_left
    · (intro w hSw; (try dsimp only at hSw); go_simp <;> with_reducible rfl)
    (try simp only [Act.put, List.setIfInBounds_toArray, List.set_cons_zero, List.set_cons_succ])
    refine wpAnyH_ready (rs := [8]) (by decide +kernel) (by simp) ?_
    refine AllReadyH.cons (o := _) rfl (fun K hK => ?_) AllReadyH.nil
    go_simp
    refine hK.out _ _ ?_ (fun hHeld => ?_)
    · ((try dsimp only); refine ⟨?_, ?_, ?_⟩ <;> (first | assumption | (go_keep; done)))
    clear hK K
    (try simp only [Act.put, List.setIfInBounds_toArray, List.set_cons_zero, List.set_cons_succ])
    refine wpAnyH_ready (rs := [9]) (by decide +kernel) (by simp) ?_
    refine AllReadyH.cons (o := _) rfl (fun K hK => ?_) AllReadyH.nil
    (refine step_append_src (by rfl) _ _ _ (by rfl) lo 304 j0 (.agg #[.slice none 0 0, .int .i64 0, .int .i64 0]) 3 40 Tryz.underlying337 hj0 hy0 hy1 hy2 rfl (by decide) (.slice av L.length cv) L.length cells.flatten (by rfl) (own_below (own_below HOWN.out.1 HK5.out) (by (repeat (first | exact Below.refl _ _ | assumption | (refine below_alloc ?_ _) | (refine Below.setCell ?_ (by first | omega | (simp; done) | (simp; omega)) _) | (refine Below.drew ?_) | (refine below_drewN ?_ _) | (refine below_then (by assumption) ?_))))) (some ⟨w5.heap.size, 0, none⟩) 1 1 [.slice a5 D.length c5, .int .i64 0, .int .i64 0] (by rfl) (src_new1 w5 304 _ (by rfl) (by rfl) rfl) (by intro u hu; simp at hu; rcases hu with rfl | rfl | rfl <;> rfl) (by simp only [maxLen]; omega) (by omega) (by simp; omega) ?_; intro a8 c8 w8 hown8 hgrow8 hat8; have G := fun b' (hb : b' < w.heap.size) (hne : (Value.slice av L.length cv).ownBlock ≠ some b') => (hgrow8.block b' (by simp; omega) (fun e => hne e.symm)).trans ((Below.heap_alloc w5 _ b' (by omega)).trans (HK5.out.block b' hb)); have m1 := (World.cell?_of_block (a := ⟨bo, 0, none⟩) (G bo lo' HOO.out)).trans o0; have m2 := (World.frozen?_of_block (a := ⟨bo, 0, none⟩) (G bo lo' HOO.out)).trans of; have m4 := (World.cell?_of_block (a := ⟨bf, 0, none⟩) (G bf lf ne3)).trans f0; have m5 := (World.cell?_of_block (a := ⟨bb, 0, none⟩) (G bb lb ne4)).trans b0; have m3 : bo < w8.heap.size := Nat.lt_of_lt_of_le lo' (Nat.le_trans (by simp; omega) hgrow8.size); have HG8 := hid hgrow8; have HO8 := hid hown8; have HA8 := hid hat8; have HGG := hid G; clear hgrow8 hown8 hat8 G)
    refine hK.out _ _ ?_ (fun hHeld => ?_)
    · ((try dsimp only); refine ⟨?_, ?_, ?_⟩ <;> (first | assumption | (go_keep; done)))
    clear hK K
    (try simp only [Act.put, List.setIfInBounds_toArray, List.set_cons_zero, List.set_cons_succ])
    refine wpAnyH_take (i := 10) (oi := _) (v := ?_) rfl (by decide +kernel) (by decide +kernel) (by decide +kernel) (fun _ _ _ h => h) (Or.inl ⟨by rfl, ?_⟩) (by assumption) ?_
    rotate_left
    · (intro w hSw; (try dsimp only at hSw); go_simp <;> with_reducible rfl)
    (try simp only [Act.put, List.setIfInBounds_toArray, List.set_cons_zero, List.set_cons_succ])
    refine wpAnyH_done (by kernel_rfl) ?_ _
    show wpList _ _ _ _ _ _
    have hA := own_bytes2 rfl HO5.out
    have keepA : ∀ q, q < w5.heap.size → (w5.alloc (.cells #[.slice a5 D.length c5, .int .i64 0, .int .i64 0] 304)).heap[q]? = w5.heap[q]? := fun q hq => Below.heap_alloc w5 _ q hq
    have OF2 := (HOWN.out.keep (w' := w5.alloc (.cells #[.slice a5 D.length c5, .int .i64 0, .int .i64 0] 304)) (fun q hq => (keepA q (by have := HF.out q hq; omega)).trans (HK5.out.block q (HF.out q hq))) (fun q hq => by
      have h1 := (HOWN.out.1.lt q hq).2
      exact (keepA q (by omega)).trans (HK5.out.block q h1))).mono (F' := fun q => F q ∨ (w.heap.size ≤ q ∧ q < w5.heap.size)) (fun q h => .inl h)
    have hx : rTok.r (fun q => (F q ∨ (w.heap.size ≤ q ∧ q < w5.heap.size)) ∧ (Value.slice av L.length cv).ownBlock ≠ some q) (w5.alloc (.cells #[.slice a5 D.length c5, .int .i64 0, .int .i64 0] 304)) [.slice a5 D.length c5, .int .i64 0, .int .i64 0] ⟨D, 0, 0⟩ :=
      tok_mk (x := ⟨D, 0, 0⟩) (rBytes.mono (rBytes.keep hA fun q hq => keepA q hq.2) fun q hq => ⟨.inr hq, fun e => by have := (HOWN.out.1.lt q e).2; omega⟩) (by simp) (by simp)
    have OPU := OwnElsF.push OF2 (fun q hq => hq.elim (fun h => by have := HF.out q h; simp; omega) fun h => by simp; omega) rfl hx HO8.out HG8.out HA8.out
    have hs8 := HG8.out.size
    have hoo' : (Value.slice a8 (L.length + 1) c8).ownBlock ≠ some bo := fun e => by
      rcases HA8.out with h | h
      · rw [h] at e; exact HOO.out e
      · rw [h] at e; simp at e; omega
    have hsz : (w8.setCell ⟨bo, 0, none⟩ (.slice a8 (L.length + 1) c8)).heap.size = w8.heap.size := by simp [World.setCell]
    have OP9 := (OPU.keep (w' := w8.setCell ⟨bo, 0, none⟩ (.slice a8 (L.length + 1) c8)) (fun q hq => Below.heap_setCell _ _ _ _ (fun e => by
      subst e
      rcases hq with h | h
      · exact HFO.out h
      · omega)) (fun q hq => Below.heap_setCell _ _ _ _ (fun e => hoo' (by rw [hq]; exact congrArg some e)))).mono (F' := fun q => F q ∨ (w.heap.size ≤ q ∧ q < (w8.setCell ⟨bo, 0, none⟩ (.slice a8 (L.length + 1) c8)).heap.size)) (fun q hq => by
        rw [hsz]
        rcases hq with h | h
        · exact .inl h
        · simp at hs8; exact .inr ⟨h.1, by omega⟩)
    have hB8 : Blk w8 bo 337 #[.slice av L.length cv] := (HGG.out bo lo' HOO.out).trans HHO.out
    have htch : Tch (fun q => q = bo ∨ (Value.slice av L.length cv).ownBlock = some q) w (w8.setCell ⟨bo, 0, none⟩ (.slice a8 (L.length + 1) c8)) :=
      Tch.setCell ⟨HG8.out.os.trans HK5.out.os, HG8.out.tape.trans HK5.out.tape, HG8.out.output.trans HK5.out.output, by simp at hs8; omega, fun q hq hf => HGG.out q hq (fun e => hf (.inr e))⟩ (fun _ => .inl rfl) _
    have hst : RunPost w bo lo F (.slice av L.length cv) (L ++ litT b i to) (.returned (.tuple #[])) (w8.setCell ⟨bo, 0, none⟩ (.slice a8 (L.length + 1) c8)) := by
      rw [HLIT.out]
      have hll : (L ++ [(⟨D, 0, 0⟩ : Tok)]).length = L.length + 1 := by simp
      refine ⟨rfl, a8, c8, cells ++ [[.slice a5 D.length c5, .int .i64 0, .int .i64 0]], ?_, ?_, htch, ?_⟩
      · rw [hll]; exact hB8.set 0 _
      · rw [hll]; exact OP9
      · rw [hll]
        rcases HA8.out with h | h
        · exact .inl h
        · exact .inr ⟨_, h, by simp; omega⟩
    have HST := hid hst
    clear hst htch OP9 OPU OF2 hx keepA hA hoo' hsz hB8
    go_wp2_with fail
    refine bodyPost_ret (results_none rfl _ _ _) rfl ?_
    exact HST.out
  · have hlit : litT b i to = [] := by unfold litT; rw [if_neg hit]
    have d1 : decide ((i : Int) < (to : Int)) = false := by simp; omega
    have d1' : decide (i < to) = false := by simp; omega
    have hst : RunPost w bo lo F (.slice av L.length cv) (L ++ litT b i to) (.returned (.tuple #[])) w := by
      rw [hlit, List.append_nil]
      exact ⟨rfl, av, cv, cells, ho, hown.mono fun q h => .inl h, Tch.refl _ _, .inl rfl⟩
    have HST := hid hst
    clear hst hlit hown ho hb hl hf hit
    go_enter Tryz.func372, Tryz.ntmps372
    go_wp2
    refine bodyPost_ret (results_none rfl _ _ _) rfl ?_
    exact HST.out

/-- A place, a code, and the fault's place. -/
structure Rs where
  p : Nat
  k : Int
  f : Int
def Rs.fail (s : Rs) (c at_ : Int) : Rs := if s.k = 0 then ⟨s.p, c, at_⟩ else s
def Rs.skip (L : Nat) (s : Rs) (n : Int) : Bool × Rs :=
  if s.k = 0 then (if n < 0 then (false, ⟨s.p, 17, s.p⟩) else if (L : Int) - s.p < n then (false, ⟨s.p, 1, L⟩) else (true, ⟨s.p + n.toNat, 0, 0⟩)) else (false, s)
def Rs.take (B : List UInt8) (s : Rs) (n : Int) : Rs × List UInt8 := ((s.skip B.length n).2, if (s.skip B.length n).1 then (B.drop s.p).take n.toNat else [])
def Rs.byte (B : List UInt8) (s : Rs) : Rs × UInt8 := ((s.skip B.length 1).2, if (s.skip B.length 1).1 then B.getD s.p 0 else 0)
/-- A sound one. -/
structure Rs.ok (s : Rs) (L : Nat) : Prop where
  le : s.p ≤ L
  zero : s.k = 0 → s.f = 0
theorem Rs.fail_ok {s : Rs} {L : Nat} (h : s.ok L) {c at_ : Int} (hc : c ≠ 0) : (s.fail c at_).ok L := by
  unfold Rs.fail; split
  · exact ⟨h.le, fun e => absurd e hc⟩
  · exact h
theorem Rs.skip_ok {s : Rs} {L : Nat} (h : s.ok L) (n : Int) : (s.skip L n).2.ok L := by
  have := h.le
  unfold Rs.skip; split
  · split
    · exact ⟨h.le, fun e => by simp at e⟩
    · split
      · exact ⟨h.le, fun e => by simp at e⟩
      · exact ⟨by dsimp only; omega, fun _ => rfl⟩
  · exact h
theorem Rs.skip_p {s : Rs} {L : Nat} (h : s.ok L) (n : Int) : s.p ≤ (s.skip L n).2.p := by
  unfold Rs.skip; split
  · split
    · exact Nat.le_refl _
    · split
      · exact Nat.le_refl _
      · dsimp only; omega
  · exact Nat.le_refl _
theorem Rs.take_ok {s : Rs} {B : List UInt8} (h : s.ok B.length) (n : Int) : (s.take B n).1.ok B.length := s.skip_ok h n
theorem Rs.byte_ok {s : Rs} {B : List UInt8} (h : s.ok B.length) : (s.byte B).1.ok B.length := s.skip_ok h 1

/-- Block g is a reader of B's bytes, at s. -/
structure RdAt (w : World) (g : Nat) (B : List UInt8) (a : Option Addr) (s : Rs) : Prop where
  blk : Blk w g 222 #[.slice a B.length B.length, .int .i64 (s.p : Int), .int .i64 s.k, .int .i64 s.f]
  dat : rBytes.r (fun q => q < w.heap.size ∧ q ≠ g) w [.slice a B.length B.length] B
  ok : s.ok B.length
def RdStep (w : World) (g : Nat) (B : List UInt8) (a : Option Addr) (s' : Rs) (w' : World) : Prop := RdAt w' g B a s' ∧ Tch (· = g) w w'
section
variable {w w1 w2 : World} {g : Nat} {B : List UInt8} {a : Option Addr} {s s' : Rs}
theorem RdAt.later (h : RdAt w g B a s) (hb : Below w.heap.size w w1) : RdAt w1 g B a s :=
  ⟨h.blk.later hb, rBytes.mono (rBytes.keep h.dat fun q hq => hb.block q hq.1) fun q hq => ⟨Nat.lt_of_lt_of_le hq.1 hb.size, hq.2⟩, h.ok⟩
theorem RdAt.len (h : RdAt w g B a s) : B.length ≤ 9223372036854775807 := (sl_len h.dat).2.1
theorem RdStep.later (h : RdAt w g B a s) (hb : Below w.heap.size w w1) : RdStep w g B a s w1 := ⟨h.later hb, Tch.of_later hb⟩
theorem RdStep.refl (h : RdAt w g B a s) : RdStep w g B a s w := ⟨h, Tch.refl _ _⟩
theorem RdStep.trans (h : Tch (· = g) w w1) (k : RdStep w1 g B a s' w2) : RdStep w g B a s' w2 := ⟨k.1, h.trans k.2 fun _ _ h => h⟩
theorem RdStep.then (h : RdStep w g B a s w1) (hb : Below w1.heap.size w1 w2) : RdStep w g B a s w2 := ⟨h.1.later hb, h.2.trans (Tch.of_later (F := (· = g)) hb) fun _ _ h => h⟩
theorem RdStep.size (h : RdStep w g B a s w1) : w.heap.size ≤ w1.heap.size := h.2.size
theorem RdStep.below {b : Nat} (h : RdStep w g B a s w1) (hb : b ≤ w.heap.size) (hg : b ≤ g) : Below b w w1 := h.2.to_below hb fun q _ e => e ▸ hg
end

theorem empty_bytes {S : Nat → Prop} {w : World} {a : Option Addr} {m c : Nat} {l : List UInt8} (hl : l = []) (hm : m = 0) (hc : c ≤ 9223372036854775807) : rBytes.r S w [.slice a m c] l := by
  subst hl hm
  exact rSl_mk (xs := []) rfl (Nat.zero_le _) hc (.inl rfl)
/-- A part of a row of bytes. -/
theorem cut_bytes {S : Nat → Prop} {w : World} {a : Option Addr} {B : List UInt8} {c : Nat} (h : rBytes.r S w [.slice a B.length c] B) {lo hi : Nat} (h1 : lo ≤ hi) (h2 : hi ≤ B.length) :
    ∃ A' c', (∀ w' : World, (Instr.slice 22 (.slice a B.length c) (some (.int .i64 (lo : Int))) (some (.int .i64 (hi : Int))) none).run Tryz.prog w' = .ok (.slice A' (hi - lo) c') w') ∧ rBytes.r S w [.slice A' (hi - lo) c'] ((B.drop lo).take (hi - lo)) := by
  obtain ⟨_, hm, hc, hcm⟩ := sl_len h
  have g1 : (0 : Int) ≤ (lo : Int) := by omega
  have g2 : (lo : Int) ≤ (hi : Int) := by omega
  have g3 : (hi : Int) ≤ (c : Int) := by omega
  rcases Nat.lt_or_ge lo hi with hlt | hge
  · obtain ⟨ga, oa, hA, hga, _⟩ := byte_at h (i := lo) (by omega)
    subst hA
    have hd := sl_drop h (k := lo) (by omega)
    rw [Nat.mul_one] at hd
    have hsub := sl_take hd (k := hi - lo) (by simp; omega)
    refine ⟨some ⟨ga, oa + lo, none⟩, c - lo, fun w' => ?_, hsub⟩
    have g4 : ¬ c = lo := by omega
    clear h hd hsub
    go_simp
  · obtain rfl : lo = hi := by omega
    by_cases g4 : c = lo
    · refine ⟨a, c - lo, fun w' => ?_, empty_bytes (by simp) (by omega) (by omega)⟩
      clear h
      subst g4
      go_simp
    · refine ⟨a.map (·.add (lo * 1)), c - lo, fun w' => ?_, empty_bytes (by simp) (by omega) (by omega)⟩
      clear h
      go_simp

theorem fault_good (w : World) (k f : Int) : Calls Tryz.prog 65 #[.agg #[.int .i64 k, .int .i64 f]] w fun r w' => r = .returned (.bool (decide (k = 0))) ∧ Below w.heap.size w w' := by
  go_enter Tryz.func65, Tryz.ntmps65
  go_wp2
  go_ret
  exact ⟨by first | rfl | simp, by (repeat (first | exact Below.refl _ _ | assumption | (refine below_alloc ?_ _) | (refine Below.setCell ?_ (by first | omega | (simp; done) | (simp; omega)) _) | (refine Below.drew ?_) | (refine below_drewN ?_ _) | (refine below_then (by assumption) ?_)))⟩
theorem fault_at (w : World) (k f : Int) (hk : k ≠ 0) : Calls Tryz.prog 154 #[.int .i64 k, .int .i64 f] w fun r w' => r = .returned (.agg #[.int .i64 k, .int .i64 f]) ∧ Below w.heap.size w w' := by
  have d1 : (k == (0 : Int)) = false := by simp [hk]
  go_enter Tryz.func154, Tryz.ntmps154
  go_wp2
  refine bodyPost_ret (v := .agg #[.int .i64 k, .int .i64 f]) (by simp [results, Tryz.results154, go_sem]) rfl ⟨rfl, by (repeat (first | exact Below.refl _ _ | assumption | (refine below_alloc ?_ _) | (refine Below.setCell ?_ (by first | omega | (simp; done) | (simp; omega)) _) | (refine Below.drew ?_) | (refine below_drewN ?_ _) | (refine below_then (by assumption) ?_)))⟩
set_option maxRecDepth 100000 in
theorem rd_new (w : World) (B : List UInt8) (a : Option Addr) (n c : Nat) (hl : rBytes.r (· < w.heap.size) w [.slice a n c] B) :
    Calls Tryz.prog 109 #[.slice a n c] w fun r w' => r = .returned (.pointer (some ⟨w.heap.size, 0, none⟩)) ∧ RdAt w' w.heap.size B a ⟨0, 0, 0⟩ ∧ Below w.heap.size w w' := by
  obtain ⟨rfl, hm, hc, hcm⟩ := sl_len hl
  have hD : rBytes.r (fun q => q < w.heap.size) w [.slice a B.length B.length] B := by
    obtain ⟨a', c', e, h1, h2, h3⟩ := hl
    simp at e
    obtain ⟨rfl, rfl⟩ := e
    exact rSl_mk rfl (Nat.le_refl _) (by simp [maxLen]; omega) h3
  have HD := hid hD
  have g1 : (B.length : Int) ≤ (c : Int) := by omega
  clear hl hD
  go_enter Tryz.func109, Tryz.ntmps109
  go_wp2
  go_ret
  refine ⟨rfl, ⟨by (repeat (first | assumption | exact Blk.newAt _ _ _ (by first | (simp; done) | (simp; omega)) | refine Blk.alloc ?_ _ | refine Blk.drew ?_ | refine Blk.drewN ?_ _ | refine Blk.far ?_ (by first | (simp; done) | (simp; omega)) _)), ?_, ⟨Nat.zero_le _, fun _ => rfl⟩⟩, by (repeat (first | exact Below.refl _ _ | assumption | (refine below_alloc ?_ _) | (refine Below.setCell ?_ (by first | omega | (simp; done) | (simp; omega)) _) | (refine Below.drew ?_) | (refine below_drewN ?_ _) | (refine below_then (by assumption) ?_)))⟩
  exact rBytes.mono (rBytes.keep HD.out fun q hq => Below.heap_alloc _ _ q hq) fun q hq => ⟨by simp; omega, by omega⟩
set_option maxRecDepth 100000 in
theorem rd_good (w : World) {g : Nat} {B : List UInt8} {a : Option Addr} {s : Rs} (h : RdAt w g B a s) : Calls Tryz.prog 112 #[.pointer (some ⟨g, 0, none⟩)] w fun r w' => r = .returned (.bool (decide (s.k = 0))) ∧ Below w.heap.size w w' := by
  have c2 : w.cell? ⟨g, 2, none⟩ = some (.int .i64 s.k) := h.blk.cell 2
  have c3 : w.cell? ⟨g, 3, none⟩ = some (.int .i64 s.f) := h.blk.cell 3
  clear h
  go_enter Tryz.func112, Tryz.ntmps112
  go_wp2_with fail
  refine (fault_good w s.k s.f).mono ?_
  rintro r w1 ⟨rfl, hb⟩
  go_wp2
  go_ret
  exact ⟨rfl, hb⟩
set_option maxRecDepth 100000 in
theorem rd_fail (w : World) {g : Nat} {B : List UInt8} {a : Option Addr} {s : Rs} (h : RdAt w g B a s) (k f : Int) (hk : k ≠ 0) : Calls Tryz.prog 124 #[.pointer (some ⟨g, 0, none⟩), .int .i64 k, .int .i64 f] w fun r w' => r = .returned (.tuple #[]) ∧ RdStep w g B a (s.fail k f) w' := by
  have HG := hid (rd_good w h)
  have HH := hid h
  by_cases h0 : s.k = 0
  · have e : s.fail k f = ⟨s.p, k, f⟩ := by unfold Rs.fail; rw [if_pos h0]
    have hr : decide (s.k = 0) = true := decide_eq_true h0
    rw [hr] at HG
    rw [e]
    clear h h0 hr e
    go_enter Tryz.func124, Tryz.ntmps124
    go_wp2_with fail
    refine HG.out.mono ?_
    rintro r w1 ⟨rfl, hb⟩
    go_wp2_with fail
    refine (fault_at w1 k f hk).mono ?_
    rintro r w2 ⟨rfl, hb2⟩
    have hb12 := below_then hb2 hb
    have h2 := HH.out.later hb12
    have f2 := h2.blk.free 2
    have f3 := h2.blk.free 3
    have c2 := h2.blk.cell 2
    have c3 := h2.blk.cell 3
    have lt := h2.blk.lt
    simp at c2 c3
    have H2 := hid h2
    have hst : RdStep w2 g B a ⟨s.p, k, f⟩ ((w2.setCell ⟨g, 2, none⟩ (.int .i64 k)).setCell ⟨g, 3, none⟩ (.int .i64 f)) := by
      refine ⟨⟨(h2.blk.set 2 _).set 3 _, ?_, h2.ok.le, fun e => absurd e hk⟩, Tch.setCell (F := (· = g)) (Tch.setCell (F := (· = g)) (Tch.refl _ _) (fun _ => rfl) _) (fun _ => rfl) _⟩
      refine rBytes.mono (rBytes.keep h2.dat fun q hq => ?_) fun q hq => ⟨by simp [World.setCell]; exact hq.1, hq.2⟩
      rw [Below.heap_setCell _ _ _ _ (fun e => hq.2 e), Below.heap_setCell _ _ _ _ (fun e => hq.2 e)]
    have HST := hid (RdStep.trans (Tch.of_later (F := (· = g)) hb12) hst)
    clear h2 hst
    go_wp2
    go_end0
    exact ⟨rfl, HST.out⟩
  · have e : s.fail k f = s := by unfold Rs.fail; rw [if_neg h0]
    have hr : decide (s.k = 0) = false := decide_eq_false h0
    rw [hr] at HG
    rw [e]
    clear h h0 hr e
    go_enter Tryz.func124, Tryz.ntmps124
    go_wp2_with fail
    refine HG.out.mono ?_
    rintro r w1 ⟨rfl, hb⟩
    go_wp2
    go_end0
    exact ⟨rfl, RdStep.later HH.out hb⟩
set_option maxRecDepth 100000 in
theorem rd_fault (w : World) {g : Nat} {B : List UInt8} {a : Option Addr} {s : Rs} (h : RdAt w g B a s) : Calls Tryz.prog 114 #[.pointer (some ⟨g, 0, none⟩)] w fun r w' => r = .returned (.agg #[.int .i64 s.k, .int .i64 s.f]) ∧ Below w.heap.size w w' := by
  have c2 : w.cell? ⟨g, 2, none⟩ = some (.int .i64 s.k) := h.blk.cell 2
  have c3 : w.cell? ⟨g, 3, none⟩ = some (.int .i64 s.f) := h.blk.cell 3
  have lt := h.blk.lt
  clear h
  go_enter Tryz.func114, Tryz.ntmps114
  go_wp2
  refine bodyPost_ret (v := .agg #[.int .i64 s.k, .int .i64 s.f]) (by simp [results, Tryz.results114, go_sem]) rfl ⟨rfl, by (repeat (first | exact Below.refl _ _ | assumption | (refine below_alloc ?_ _) | (refine Below.setCell ?_ (by first | omega | (simp; done) | (simp; omega)) _) | (refine Below.drew ?_) | (refine below_drewN ?_ _) | (refine below_then (by assumption) ?_)))⟩
theorem rd_at (w : World) {g : Nat} {B : List UInt8} {a : Option Addr} {s : Rs} (h : RdAt w g B a s) : Calls Tryz.prog 173 #[.pointer (some ⟨g, 0, none⟩)] w fun r w' => r = .returned (.int .i64 (s.p : Int)) ∧ w = w' := by
  have c1 : w.cell? ⟨g, 1, none⟩ = some (.int .i64 (s.p : Int)) := h.blk.cell 1
  clear h
  go_enter Tryz.func173, Tryz.ntmps173
  go_wp2
  go_ret
  exact ⟨rfl, rfl⟩
theorem rd_left (w : World) {g : Nat} {B : List UInt8} {a : Option Addr} {s : Rs} (h : RdAt w g B a s) : Calls Tryz.prog 267 #[.pointer (some ⟨g, 0, none⟩)] w fun r w' => r = .returned (.int .i64 ((B.length : Int) - (s.p : Int))) ∧ Below w.heap.size w w' := by
  have C0 := fun s : Later w => s.cell (h.blk.cell 0)
  have C1 := fun s : Later w => s.cell (h.blk.cell 1)
  simp at C0 C1
  have hle := h.ok.le
  have hle2 := h.len
  clear h
  go_enter Tryz.func267, Tryz.ntmps267
  go_wp2_with fail
  refine wp_region_later (by kernel_rfl) (by kernel_rfl) ?_
  repeat (go_big_quiet_step (fail))
  refine wpQuiet_nil ?_
  rintro W5 ⟨⟨W5', hb5⟩, rfl⟩
  go_wp2
  go_ret
  exact ⟨by first | rfl | simp, hb5⟩

set_option maxRecDepth 100000 in
theorem rd_skip (w : World) {g : Nat} {B : List UInt8} {a : Option Addr} {s : Rs} (h : RdAt w g B a s) (n : Int) (hn : n ≤ 9223372036854775807) : Calls Tryz.prog 262 #[.pointer (some ⟨g, 0, none⟩), .int .i64 n] w fun r w' => r = .returned (.bool (s.skip B.length n).1) ∧ RdStep w g B a (s.skip B.length n).2 w' := by
  have HG := hid (rd_good w h)
  have HH := hid h
  have hle := h.ok.le
  have hle2 := h.len
  by_cases h0 : s.k = 0
  · have hr : decide (s.k = 0) = true := decide_eq_true h0
    rw [hr] at HG
    by_cases h1 : n < 0
    · have e : s.skip B.length n = (false, ⟨s.p, 17, s.p⟩) := by unfold Rs.skip; rw [if_pos h0, if_pos h1]
      have ef : s.fail 17 s.p = ⟨s.p, 17, s.p⟩ := by unfold Rs.fail; rw [if_pos h0]
      have d1 : decide (n < (0 : Int)) = true := decide_eq_true h1
      rw [e]
      dsimp only
      rw [← ef]
      clear h h0 hr e ef
      go_enter Tryz.func262, Tryz.ntmps262
      go_wp2_with fail
      refine HG.out.mono ?_
      rintro r w1 ⟨rfl, hb⟩
      have hh1 := HH.out.later hb
      have c1 := hh1.blk.cell 1
      simp at c1
      have HF := hid (rd_fail w1 hh1 17 s.p (by omega))
      clear hh1
      go_wp2_with fail
      refine HF.out.mono ?_
      rintro r w2 ⟨rfl, hst⟩
      have HST := hid (RdStep.trans (Tch.of_later (F := (· = g)) hb) hst)
      clear hst
      go_wp2
      go_ret
      exact ⟨rfl, HST.out⟩
    · have d1 : decide (n < (0 : Int)) = false := decide_eq_false h1
      by_cases h2 : (B.length : Int) - s.p < n
      · have e : s.skip B.length n = (false, ⟨s.p, 1, B.length⟩) := by unfold Rs.skip; rw [if_pos h0, if_neg h1, if_pos h2]
        have ef : s.fail 1 B.length = ⟨s.p, 1, B.length⟩ := by unfold Rs.fail; rw [if_pos h0]
        have d2 : decide ((B.length : Int) - (s.p : Int) < n) = true := decide_eq_true h2
        rw [e]
        dsimp only
        rw [← ef]
        clear h h0 hr e ef
        go_enter Tryz.func262, Tryz.ntmps262
        go_wp2_with fail
        refine HG.out.mono ?_
        rintro r w1 ⟨rfl, hb⟩
        have hh1 := HH.out.later hb
        have HL := hid (rd_left w1 hh1)
        go_wp2_with fail
        refine HL.out.mono ?_
        rintro r w2 ⟨rfl, hb2⟩
        have hb12 := below_then hb2 hb
        have hh2 := HH.out.later hb12
        have c0 := hh2.blk.cell 0
        simp at c0
        have HF := hid (rd_fail w2 hh2 1 B.length (by omega))
        clear hh1 hh2
        go_wp2_with fail
        refine HF.out.mono ?_
        rintro r w3 ⟨rfl, hst⟩
        have HST := hid (RdStep.trans (Tch.of_later (F := (· = g)) hb12) hst)
        clear hst
        go_wp2
        go_ret
        exact ⟨rfl, HST.out⟩
      · have e : s.skip B.length n = (true, ⟨s.p + n.toNat, 0, 0⟩) := by unfold Rs.skip; rw [if_pos h0, if_neg h1, if_neg h2]
        have d2 : decide ((B.length : Int) - (s.p : Int) < n) = false := decide_eq_false h2
        have hz := h.ok.zero h0
        rw [e]
        obtain ⟨m, rfl⟩ : ∃ m : Nat, n = m := ⟨n.toNat, by omega⟩
        have e1 : ((m : Int)).toNat = m := by omega
        rw [e1]
        have hle3 : s.p + m ≤ B.length := by omega
        have HZ := hid hz; have H0 := hid h0
        clear h h0 hr e e1 hz
        go_enter Tryz.func262, Tryz.ntmps262
        go_wp2_with fail
        refine HG.out.mono ?_
        rintro r w1 ⟨rfl, hb⟩
        have hh1 := HH.out.later hb
        have HL := hid (rd_left w1 hh1)
        go_wp2_with fail
        refine HL.out.mono ?_
        rintro r w2 ⟨rfl, hb2⟩
        have hb12 := below_then hb2 hb
        have hh2 := HH.out.later hb12
        have c1 := hh2.blk.cell 1
        have f1 := hh2.blk.free 1
        have lt := hh2.blk.lt
        simp at c1
        have hst : RdStep w2 g B a ⟨s.p + m, 0, 0⟩ (w2.setCell ⟨g, 1, none⟩ (.int .i64 ((s.p : Int) + (m : Int)))) := by
          refine ⟨⟨?_, ?_, hle3, fun _ => rfl⟩, Tch.setCell (F := (· = g)) (Tch.refl _ _) (fun _ => rfl) _⟩
          · have := hh2.blk.set 1 (.int .i64 ((s.p : Int) + (m : Int)))
            rw [H0.out, HZ.out] at this
            simpa using this
          · refine rBytes.mono (rBytes.keep hh2.dat fun q hq => ?_) fun q hq => ⟨by simp [World.setCell]; exact hq.1, hq.2⟩
            rw [Below.heap_setCell _ _ _ _ (fun e => hq.2 e)]
        have HST := hid (RdStep.trans (Tch.of_later (F := (· = g)) hb12) hst)
        clear hh1 hh2 hst
        go_wp2
        go_ret
        exact ⟨rfl, HST.out⟩
  · have e : s.skip B.length n = (false, s) := by unfold Rs.skip; rw [if_neg h0]
    have hr : decide (s.k = 0) = false := decide_eq_false h0
    rw [hr] at HG
    rw [e]
    clear h h0 hr e
    go_enter Tryz.func262, Tryz.ntmps262
    go_wp2_with fail
    refine HG.out.mono ?_
    rintro r w1 ⟨rfl, hb⟩
    go_wp2
    go_ret
    exact ⟨rfl, RdStep.later HH.out hb⟩
end Go.Proofs.YtfddhafbhceoaaaGreat
