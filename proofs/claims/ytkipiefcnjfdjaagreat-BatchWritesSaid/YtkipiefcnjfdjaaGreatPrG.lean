/- The places with the same key, told one by one. -/
import Derived.Test.YtkipiefcnjfdjaaGreatPrF
import Derived.Test.YtkipiefcnjfdjaaGreatRnd
namespace Go.Proofs.YtkipiefcnjfdjaaGreat
open Go.RowKit Go.Bs Go.Maps Go.Shelf
set_option linter.unusedVariables false
set_option linter.unusedSimpArgs false

def plcF (b : List UInt8) (k m : Nat) : Nat → List (Fin m)
  | 0 => []
  | j + 1 => if h : j < m then (if keyAt b j = some k then ⟨j, h⟩ :: plcF b k m j else plcF b k m j) else plcF b k m j
theorem plcF_none (b : List UInt8) (k m : Nat) : ∀ j, lastP b k j = 0 → plcF b k m j = []
  | 0, _ => rfl
  | j + 1, h => by
    simp only [lastP] at h
    split at h
    · omega
    · rename_i hk
      have ih := plcF_none b k m j h
      simp only [plcF]
      split
      · first | exact ih | (rw [if_neg hk]; exact ih)
      · exact ih
theorem plcF_some (b : List UInt8) (k m : Nat) : ∀ (j i : Nat) (hi : i < m), lastP b k j = i + 1 → plcF b k m j = ⟨i, hi⟩ :: plcF b k m i
  | 0, i, hi, h => by simp [lastP] at h
  | j + 1, i, hi, h => by
    simp only [lastP] at h
    split at h
    · rename_i hk
      obtain rfl : j = i := by omega
      simp only [plcF]
      rw [dif_pos hi, if_pos hk]
    · rename_i hk
      have ih := plcF_some b k m j i hi h
      simp only [plcF]
      split
      · first | exact ih | (rw [if_neg hk]; exact ih)
      · exact ih
def near (p : Nat) (q : Fin p) : Bool := decide (p - q.val ≤ 65536)
def placesOf (b : List UInt8) (p : Nat) : List (Fin p) := match keyAt b p with | none => [] | some k => (plcF b k p p).takeWhile (near p)
theorem lastP_next (b : List UInt8) (k j i : Nat) (h : lastP b k j = i + 1) : keyAt b i = some k ∧ i < j := by
  have h1 := lastP_key b k j (by omega)
  have h2 := lastP_le b k j
  rw [h] at h1 h2
  exact ⟨by simpa using h1, by omega⟩
theorem prevN_next {b : List UInt8} {k i : Nat} (h : keyAt b i = some k) : prevN b i = lastP b k i := by unfold prevN; rw [h]

theorem own_row_at {w : World} {base : Nat} {e : TypeId} {v : Value} {n : Nat} {xs : List Value} (h : w.ownsRow base e 1 v n xs) {i : Nat} {u : Value} (hi : xs[i]? = some u) (hn : n = xs.length) : ∃ gp c, v = .slice (some ⟨gp, 0, none⟩) n c ∧ w.cell? ⟨gp, i, none⟩ = some u ∧ gp < w.heap.size := by
  have hlt := (List.getElem?_eq_some_iff.1 hi).1
  rcases h.2 with ⟨_, h0⟩ | ⟨g, cap, cur, h1, h2, h3, h4, h5, h6, h7⟩
  · omega
  · refine ⟨g, cap, h1, ?_, (Array.getElem?_eq_some_iff.1 h3).1⟩
    rw [Blk.cell h3 i]
    have e1 : cur[i]? = (cur.toList.take (n * 1))[i]? := by
      rw [List.getElem?_take, if_pos (by omega)]; simp
    rw [e1, h7]; exact hi
theorem prevs_at {b : List UInt8} {n i : Nat} (h : i < n) : (prevs b n)[i]? = some (.int .i64 (prevN b i : Int)) := by simp [prevs, h]

/-- What the iterator reads lies as it lay. -/
def KpC (Q : Nat → Prop) (w w' : World) : Prop := ∀ q, Q q → w'.heap[q]? = w.heap[q]?
theorem KpC.trans {Q : Nat → Prop} {w w' w'' : World} (h : KpC Q w w') (k : KpC Q w' w'') : KpC Q w w'' := fun q hq => (k q hq).trans (h q hq)
theorem drew_grown (w : World) (n : Nat) : w.grownBy (w.drewN n) none := ⟨rfl, rfl, rfl, Nat.le_refl _, fun _ _ _ => rfl⟩

set_option maxRecDepth 100000 in
set_option maxHeartbeats 3200000 in
theorem places_stops (w : World) {g mb base : Nat} {b : List UInt8} {p : Nat} {ab : Option Addr} {cb : Nat} {ap : Option Addr} {cp : Nat} {bc ba n : Nat} (h : ChAt w g mb base b p ab cb ap cp) (hc : Blk w bc 313 #[.pointer (some ⟨g, 0, none⟩)]) (ha : Blk w ba 3 #[.int .i64 (p : Int)]) :
    SeqStopsK Fence.wide n Tryz.prog 297 #[.pointer (some ⟨bc, 0, none⟩), .pointer (some ⟨ba, 0, none⟩)] (fun x : Fin p => #[.int .i64 (x.val : Int)]) (KpC fun q => q = g ∨ q = mb ∨ (Value.slice ap p cp).ownBlock = some q ∨ q = bc ∨ q = ba)
      (fun xs => xs = placesOf b p) (fun pre => pre <+: placesOf b p) (placesOf b p).length w := by
  intro l J Jx W hW hJ hJx hY h0
  have hlen := h.len
  have hle := h.le
  have hK0 : KpC (fun q => q = g ∨ q = mb ∨ (Value.slice ap p cp).ownBlock = some q ∨ q = bc ∨ q = ba) w W := fun q hq => by
    rcases hq with rfl | rfl | hq | rfl | rfl
    · exact hW.block _ h.blk.lt
    · obtain ⟨D, hD, _⟩ := h.map; exact hW.block _ hD.lt
    · exact hW.block _ (h.prev.lt _ hq).2
    · exact hW.block _ hc.lt
    · exact hW.block _ ha.lt
  have hkey := fun (nq : Nat) => chain_key b p ab b.length cb (W.drewN nq) (rBytes.mono (rBytes.keep h.bytes fun q hq => hW.block q hq.1) fun q hq => Nat.lt_of_lt_of_le hq.1 hW.size) hlen (by omega)
  have hg0 := h.blk; have hmap := h.map; have hprev := h.prev
  have HG0 := hid hg0; have HMAP := hid hmap; have HPREV := hid hprev; have HC := hid hc; have HAA := hid ha
  have HY := hid hY; have HJ := hid hJ; have HJX := hid hJx
  have HWs := hid hW
  have HKEY := hid hkey
  clear h hg0 hmap hprev hc ha hY hJ hJx hW hkey
  have c1 : W.cell? ⟨bc, 0, none⟩ = some (.pointer (some ⟨g, 0, none⟩)) := (Blk.later HC.out HWs.out).cell 0
  have c2 : W.cell? ⟨ba, 0, none⟩ = some (.int .i64 (p : Int)) := (Blk.later HAA.out HWs.out).cell 0
  have c3 : W.cell? ⟨g, 0, none⟩ = some (.slice ab b.length cb) := (Blk.later HG0.out HWs.out).cell 0
  have c4 : W.cell? ⟨g, 1, none⟩ = some (.map (some mb)) := (Blk.later HG0.out HWs.out).cell 1
  refine callsIn_of_wp Tryz.func297 rfl trivial ?_ rfl
  simp only [Tryz.ntmps297, List.size_toArray, List.length_cons, List.length_nil, Nat.reduceAdd, Nat.reduceSub, Array.replicate_succ, Array.replicate_zero, List.push_toArray, List.append_toArray, List.nil_append, List.cons_append]
  have hfw : ∀ f, Fence.wide.fn f = True := fun _ => rfl
  gi_wp2
  refine wpIn_region_rdrawn (by kernel_rfl) (by kernel_rfl) (by kernel_rfl) ?_
  repeat (gi_big_quiet_step ((refine ⟨wide_d, callsIn_wide.2 ((HKEY.out _).mono fun e w' ⟨he, hw⟩ => ⟨he, _, hw.symm⟩)⟩)))
  refine wpQuietIn_nil ?_
  intro _ hw'
  obtain ⟨nq, rfl⟩ := hw'
  have h1 : Hid (J [] (W.drewN nq)) := hid (HJ.out [] W _ none h0 (drew_grown W nq) (fun r e => by cases e))
  have hkv : Hid (keyV b p = match keyAt b p with | some k => ((k : Int), true) | none => (0, false)) := hid rfl
  have hpo : Hid (placesOf b p = match keyAt b p with | none => [] | some k => (plcF b k p p).takeWhile (near p)) := hid rfl
  cases hk : keyAt b p with
  | none =>
    have hv : keyV b p = (0, false) := by rw [hkv.out, hk]
    have hp0 : Hid (placesOf b p = []) := hid (by rw [hpo.out, hk])
    rw [hv]
    clear hv hk hkv hpo
    gi_wp2
    refine bodyPost_ret (results_none rfl _ _ _) rfl ?_
    exact ⟨⟨_, rfl⟩, .inl ⟨[], hp0.out.symm, h1.out⟩⟩
  | some k =>
    have hv : keyV b p = ((k : Int), true) := by rw [hkv.out, hk]
    have hp0 : Hid (placesOf b p = (plcF b k p p).takeWhile (near p)) := hid (by rw [hpo.out, hk])
    have hW := hid (u32_wf (keyAt_lt hk))
    have hklt := hid (keyAt_lt hk)
    rw [hv]
    clear hv hk hkv hpo
    obtain ⟨D, hD, hL⟩ := HMAP.out
    have hD2 := hid (map_keep (w' := W.drewN nq) hD (HWs.out.block _ hD.lt))
    have HL := hid hL
    clear hD hL
    gi_wp2_with (gi_at_lookup; go_loud (refine wpListIn_lookup_own_int _ rfl _ _ 322 rfl 216 3 .i64 lawU32 Tryz.underlying322 Tryz.underlying3 (zeroInt _) mb p D rfl hD2.out _ _ rfl (keyOf_int_mk Tryz.underlying216 hW.out) ?_; intro c hat hwc; have hc : c = (lastP b k p : Int) := (by have := HL.out k hklt.out; rw [hat] at this; simpa using this); subst hc; clear hat hwc))
    gi_loopw [6] (fun kk wr => ∃ (pre : List (Fin p)) (j : Nat), j ≤ p ∧ kk = .int .i64 (lastP b k j : Int) ∧ Hid (placesOf b p = pre ++ (plcF b k p j).takeWhile (near p)) ∧ Hid (J pre wr) ∧ Hid (KpC (fun q => q = g ∨ q = mb ∨ (Value.slice ap p cp).ownBlock = some q ∨ q = bc ∨ q = ba) w wr)) (fun kk _ => (intOf kk).toNat)
    case atStart => exact ⟨[], p, Nat.le_refl _, rfl, hid (by rw [hp0.out]; rfl), h1, hid (KpC.trans hK0 fun q hq => rfl)⟩
    case round =>
      obtain ⟨pre, j, hj, rfl, hx, hJs, hKs⟩ := hrel
      have hle2 := lastP_le b k j
      cases hlj : lastP b k j with
      | zero =>
        have hend : Hid (placesOf b p = pre) := hid (by rw [hx.out, plcF_none b k p j hlj]; simp)
        clear hlj
        gi_wp2
        go_end0
        exact ⟨⟨_, rfl⟩, .inl ⟨pre, hend.out.symm, hJs.out⟩⟩
      | succ i =>
        obtain ⟨hki, hij⟩ := lastP_next b k j i hlj
        have hip : i < p := by omega
        have hstep : (plcF b k p j).takeWhile (near p) = if near p ⟨i, hip⟩ then ⟨i, hip⟩ :: (plcF b k p i).takeWhile (near p) else [] := by
          rw [plcF_some b k p j i hip hlj, List.takeWhile_cons]
        have hpn := prevN_next hki
        have HS := hid hstep; have HPN := hid hpn
        clear hlj hki hstep hpn
        have B1 := (hKs.out bc (.inr (.inr (.inr (.inl rfl))))).trans HC.out
        have B2 := (hKs.out ba (.inr (.inr (.inr (.inr rfl))))).trans HAA.out
        have r1 : wr.cell? ⟨bc, 0, none⟩ = some (.pointer (some ⟨g, 0, none⟩)) := Blk.cell B1 0
        have r2 : wr.cell? ⟨ba, 0, none⟩ = some (.int .i64 (p : Int)) := Blk.cell B2 0
        clear B1 B2
        have t0 : (0 : Int) < ((i + 1 : Nat) : Int) := by omega
        by_cases hnr : p - i ≤ 65536
        · have hn2 : near p ⟨i, hip⟩ = true := by simp [near, hnr]
          have hx2 : Hid (placesOf b p = pre ++ ⟨i, hip⟩ :: (plcF b k p i).takeWhile (near p)) := hid (by rw [hx.out, HS.out, hn2, if_pos rfl])
          obtain ⟨fn, tmps, assign, body, hy, hR⟩ := HY.out pre ⟨i, hip⟩ wr hJs.out (by rw [hx2.out]; simp)
          have d1 : decide ((65536 : Int) < (p : Int) - (i : Int)) = false := by simp; omega
          have d2 : decide ((i : Int) < (p : Int)) = true := by simp; omega
          have d2' : decide (i < p) = true := by simp; omega
          dsimp only at hy
          have HR := hid hR; clear hR hn2
          gi_wp2
          refine ⟨wide_d, ?_⟩
          refine HR.out.mono ?_
          rintro e W3 (⟨rfl, hJ3, hk3⟩ | ⟨rfl, hJx3⟩)
          · have hK3 := KpC.trans hKs.out hk3
            have HJ3 := hid hJ3; have HK3 := hid hK3
            clear hJ3 hk3 hK3
            have B1 := (HK3.out bc (.inr (.inr (.inr (.inl rfl))))).trans HC.out
            have B3 := (HK3.out g (.inl rfl)).trans HG0.out
            obtain ⟨gp, cp2, hvp, hcp, hgp⟩ := own_row_at HPREV.out (prevs_at (b := b) hip) (prevs_length b p).symm
            simp only [Value.slice.injEq, true_and] at hvp
            obtain ⟨rfl, rfl⟩ := hvp
            have q1 : W3.cell? ⟨bc, 0, none⟩ = some (.pointer (some ⟨g, 0, none⟩)) := Blk.cell B1 0
            have q3 : W3.cell? ⟨g, 2, none⟩ = some (.slice (some ⟨gp, 0, none⟩) p cp) := Blk.cell B3 2
            have q4 : W3.cell? ⟨gp, i, none⟩ = some (.int .i64 (prevN b i : Int)) := (World.cell?_of_block (a := ⟨gp, i, none⟩) (HK3.out gp (.inr (.inr (.inl rfl))))).trans hcp
            rw [HPN.out] at q4
            have i1 : (i : Int) < (p : Int) := by omega
            have i2 : (0 : Int) ≤ (i : Int) := by omega
            clear hcp B1 B3
            gi_wp2
            go_roundw
            case rel => exact ⟨pre ++ [⟨i, hip⟩], i, by omega, rfl, hid (by rw [hx2.out]; simp), HJ3, HK3⟩
            case measure =>
              have := lastP_le b k i
              simp [intOf]; omega
          · have HJX3 := hid hJx3; clear hJx3
            gi_wp2
            refine bodyPost_ret (results_none rfl _ _ _) rfl ?_
            exact ⟨⟨_, rfl⟩, .inr ⟨pre ++ [⟨i, hip⟩], ⟨(plcF b k p i).takeWhile (near p), by rw [hx2.out]; simp⟩, HJX3.out⟩⟩
        · have hn2 : near p ⟨i, hip⟩ = false := by simp [near]; omega
          have hend : Hid (placesOf b p = pre) := hid (by rw [hx.out, HS.out, hn2]; simp)
          have d1 : decide ((65536 : Int) < (p : Int) - (i : Int)) = true := by simp; omega
          clear hn2
          gi_wp2
          refine bodyPost_ret (results_none rfl _ _ _) rfl ?_
          exact ⟨⟨_, rfl⟩, .inl ⟨pre, hend.out.symm, hJs.out⟩⟩
end Go.Proofs.YtkipiefcnjfdjaaGreat
