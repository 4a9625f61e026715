/- Needed by batchReads_walk, part 9: texts put together by shake.py; no condition. -/
import Derived.Test.YtkipiefcnjfdjaaGreatU8
import Derived.Test.YtkipiefcnjfdjaaGreatU7
import Derived.Test.YtkipiefcnjfdjaaGreatU5
namespace Go.Proofs.YtkipiefcnjfdjaaGreat
open Go.RowKit Go.Bs Go.Maps
set_option linter.unusedVariables false
set_option linter.unusedSimpArgs false
def rI64s : Rp (List Int) := rSl 1 (rInt .i64)
theorem i64_at {S : Nat → Prop} {w : World} {xs : List Int} {a : Option Addr} {n c : Nat} (h : rI64s.r S w [.slice a n c] xs) {i : Nat} (hi : i < xs.length) : ∃ b off, a = some ⟨b, off, none⟩ ∧ S b ∧ w.cell? ⟨b, off + i, none⟩ = some (.int .i64 xs[i]) := by
 obtain ⟨b, off, e, hS, cs, _, hc, rfl, hw⟩ := sl_at h hi
 have := hc 0 _ rfl
 rw [Nat.mul_one, Nat.add_zero] at this
 exact ⟨b, off, e, hS, this⟩
theorem cut_full {S : Nat → Prop} {w : World} {a : Option Addr} {B : List UInt8} {c : Nat} (h : rBytes.r S w [.slice a B.length c] B) {n : Nat} (h1 : n ≤ B.length) :
  (∀ w' : World, (Instr.slice 28 (.slice a B.length c) none (some (.int .i64 (n : Int))) (some (.int .i64 (n : Int)))).run Tryz.prog w' = .ok (.slice a n n) w') ∧ rBytes.r S w [.slice a n n] (B.take n) := by
 obtain ⟨_, hm, hc, hcm⟩ := sl_len h
 have g1 : (0 : Int) ≤ (n : Int) := by omega
 have g3 : (n : Int) ≤ (c : Int) := by omega
 refine ⟨fun w' => ?_, ?_⟩
 ·clear h
  cases a with
  | none => go_simp
  | some p => go_simp
 ·obtain ⟨a', c', e, h2, h3, h4⟩ := sl_take h h1
  have hl : (B.take n).length = n := by simp; omega
  simp at e
  obtain ⟨rfl, _, rfl⟩ := e
  exact rSl_mk (a := a) (c := n) (by rw [hl]) (by omega) (by omega) h4
def dealF : List (List Link × Nat) → List UInt8 → List Entry → Option (List Entry)
 | [], D, out => if D.length = 0 then some out else none
 | (l, n) :: r, D, out => if D.length < n then none else dealF r (D.drop n) (out ++ [⟨l, D.take n⟩])
theorem dealF_is : ∀ (H : List (List Link × Nat)) (D : List UInt8) (out : List Entry), dealF H D out = if sizesN H = D.length then some (out ++ dealE H D) else none
 | [], D, out => by
  simp only [dealF, sizesN, dealE, List.map_nil, List.sum_nil, List.append_nil]
  split
  ·rw [if_pos (by omega)]
  ·rw [if_neg (by omega)]
 | (l, n) :: r, D, out => by
  have hs : sizesN ((l, n) :: r) = n + sizesN r := by simp [sizesN]
  simp only [dealF]
  rw [hs]
  split
  ·rw [if_neg (by omega)]
  ·rw [dealF_is r (D.drop n)]
   simp only [List.length_drop, dealE, List.append_assoc, List.singleton_append]
   by_cases h : sizesN r = D.length - n
   ·rw [if_pos h, if_pos (by omega)]
   ·rw [if_neg h, if_neg (by omega)]
set_option maxRecDepth 100000 in
set_option maxHeartbeats 6400000 in
theorem entry_deal (H : List (List Link × Nat)) (D : List UInt8) (a1 a2 a3 : Option Addr) (n1 n2 n3 c1 c2 c3 : Nat) (w : World) (hh : rEntries.r (· < w.heap.size) w [.slice a1 n1 c1] (H.map headE)) (hs : rI64s.r (· < w.heap.size) w [.slice a2 n2 c2] (H.map fun h => (h.2 : Int)))
  (hd : rBytes.r (· < w.heap.size) w [.slice a3 n3 c3] D) (hH : H.length ≤ 1000000) (hD : D.length ≤ 1000000000) (hm : ∀ h ∈ H, h.1.length ≤ 1000000000000 ∧ ∀ z ∈ h.1, z.backs.length ≤ 1000000000000) :
  Calls Tryz.prog 155 #[.slice a1 n1 c1, .slice a2 n2 c2, .slice a3 n3 c3] w fun r w' => ∃ v, r = .returned (.tuple #[v, .bool (dealF H D []).isSome]) ∧ rEntriesW.r (Fresh w w') w' [v] ((dealF H D []).getD []) ∧ Below w.heap.size w w' := by
 obtain ⟨rfl, hm1, _, _⟩ := sl_len hh
 obtain ⟨rfl, hm2, _, _⟩ := sl_len hs
 obtain ⟨rfl, hm3, _, _⟩ := sl_len hd
 obtain ⟨i0, hi, hz0, hz1, hz2⟩ := info_parts infoEntry
 obtain ⟨j0, hj, hy0, hy1, hy2⟩ := info_parts info8
 rw [List.length_map] at hh hs
 have HH := hid hh
 have HS := hid hs
 have HD := hid (fun (W : World) (hW : Below w.heap.size w W) => src_bytes (lift hd hW))
 have HONE := hid (byteCells_one D)
 have HM := hid hm
 rw [List.length_map, List.length_map]
 clear hh hs hd hm hm1 hm2 hm3
 go_enter Tryz.func155, Tryz.ntmps155
 go_wp2_with (at_builtin; go_loud (refine wpList_append_src rfl _ _ _ rfl w.heap.size 5 j0 (.int .u8 0) 1 1 Tryz.underlying28 hj hy0 hy1 hy2 rfl (by decide) (.slice (some ⟨w.heap.size, 0, none⟩) 0 0) 0 [] rfl (own_empty _ (by simp) rfl) a3 D.length c3 (byteCells D) rfl (HD.out _ (by (repeat first | with_reducible (first | exact zR | assumption | apply zA | apply zS | apply zD | apply zN) | refine zT (by with_reducible assumption) ?_ | omega | simp <;> omega))) HONE.out (by simp only [maxLen]; omega) (by omega) (by simp) ?_; intro v5 w5 hown5 hgrow5 hat5; rw [Nat.zero_add, List.nil_append] at hown5; obtain ⟨a5, c5, rfl⟩ := own_form hown5; have hb5 : Below w.heap.size w w5 := (Below.grown (by (repeat first | with_reducible (first | exact zR | assumption | apply zA | apply zS | apply zD | apply zN) | refine zT (by with_reducible assumption) ?_ | omega | simp <;> omega)) hgrow5 (by simp) (fun g e => by { have e' : some w.heap.size = some g := e; injection e' with e'; omega })); have HO5 := hid (own_bytes2 rfl hown5); clear hown5 hgrow5 hat5))
 go_loopw [8, 9, 23] (fun al v i wr => ∃ (k : Nat) (J : List Entry) (R : List UInt8), k ≤ H.length ∧ i = .int .i64 k ∧ rBytes.r (fun q => w.heap.size ≤ q ∧ q < w5.heap.size) wr [al] R ∧ R.length ≤ 1000000000 ∧ Hid (J.length = k) ∧ OwnEls w.heap.size rEntryW w5.heap.size 75 2 wr v J ∧ Below w5.heap.size w5 wr ∧ Hid (dealF H D [] = dealF (H.drop k) R J)) (fun _ _ i _ => H.length - (intOf i).toNat)
 case atStart => exact ⟨0, [], D, Nat.zero_le _, rfl, HO5.out, hD, hid rfl, OwnEls.nil, Below.refl _ _, hid rfl⟩
 case round =>
  obtain ⟨k, J, R, hk, rfl, hR, hRl, hJl, hown, hb, hsp⟩ := hrel
  have hbw := hb5.trans (hb.mono hb5.size)
  have hsz5 := hb5.size
  have hszr := hb.size
  obtain ⟨A, cR, hA, hR', _⟩ := sl_form hR
  simp only [List.cons.injEq, and_true] at hA
  subst hA
  obtain ⟨av, cv, rfl⟩ := OwnEls.form hown
  rcases Nat.lt_or_ge k H.length with hlt | hge
  ·have hxk : (H.map headE)[k]'(by simpa using hlt) = headE H[k] := by simp
   have hsk : (H.map fun h => (h.2 : Int))[k]'(by simpa using hlt) = (H[k].2 : Int) := by simp
   obtain ⟨b1, o1, hA1, hbb1, a4, c4, a6, c6, hc0, hc1, hd1, _⟩ := entry_at HH.out (i := k) (by simpa using hlt)
   obtain ⟨b2, o2, hA2, hbb2, he0⟩ := i64_at HS.out (i := k) (by simpa using hlt)
   rw [hxk] at hc0 hc1 hd1
   rw [hsk] at he0
   subst hA1 hA2
   have hmk := HM.out H[k] (List.getElem_mem hlt)
   have hstep : dealF (H.drop k) R J = if R.length < H[k].2 then none else dealF (H.drop (k + 1)) (R.drop H[k].2) (J ++ [⟨H[k].1, R.take H[k].2⟩]) := by
    rw [List.drop_eq_getElem_cons hlt]; rfl
   generalize H[k] = z at *
   obtain ⟨l, n⟩ := z
   dsimp only [headE] at *
   have X0 := (hbw.cell (p := ⟨b1, o1 + k * 2, none⟩) hbb1).trans hc0
   have X1 := (hbw.cell (p := ⟨b1, o1 + k * 2 + 1, none⟩) hbb1).trans hc1
   have Y0 := (hbw.cell (p := ⟨b2, o2 + k, none⟩) hbb2).trans he0
   have i1 : (k : Int) < (H.length : Int) := by omega
   have hJ9 : J.length ≤ 1000000 := by have := hJl.out; omega
   have hr1 : b1 < wr.heap.size := by omega
   have hr2 : b2 < wr.heap.size := by omega
   have hd1' := hid (lift hd1 hbw)
   have OW := hid hown
   clear hc0 hc1 hd1 he0 hxk hsk hown
   rcases Nat.lt_or_ge R.length n with hlt2 | hge2
   ·rw [if_pos hlt2] at hstep
    have HSP := hid (hsp.out.trans hstep)
    have d1 : decide ((n : Int) < 0) = false := decide_eq_false (by omega)
    have d2 : decide ((R.length : Int) < (n : Int)) = true := decide_eq_true (by omega)
    clear hsp hstep hR hR'
    go_wp2
    rw [HSP.out]
    refine bodyPost_ret (v := .tuple #[.slice none 0 0, .bool false]) (by simp [results, Tryz.results155, go_sem]) rfl ⟨_, rfl, ⟨none, 0, rfl, Nat.le_refl _, Nat.zero_le _, .inl rfl⟩, by (repeat first | with_reducible (first | exact zR | assumption | apply zA | apply zS | apply zD | apply zN) | refine zT (by with_reducible assumption) ?_ | omega | simp <;> omega)⟩
   ·rw [if_neg (by omega)] at hstep
    have HSP := hid (hsp.out.trans hstep)
    have d1 : decide ((n : Int) < 0) = false := decide_eq_false (by omega)
    have d2 : decide ((R.length : Int) < (n : Int)) = false := decide_eq_false (by omega)
    obtain ⟨hcut, hrc⟩ := cut_full hR' hge2
    obtain ⟨A', c', hcut2, hrd⟩ := cut_to hR' hge2
    have HC := hid (fun (W : World) (hW : Below wr.heap.size wr W) => link_copyW l a4 l.length c4 W (lift hd1'.out hW) hmk.1 hmk.2)
    have HRC := hid hrc
    have HRD := hid hrd
    clear hsp hstep hR hR' hrc hrd hmk
    go_wp2_with fail
    refine (HC.out _ (by (repeat first | with_reducible (first | exact zR | assumption | apply zA | apply zS | apply zD | apply zN) | refine zT (by with_reducible assumption) ?_ | omega | simp <;> omega))).mono ?_
    rintro r w7 ⟨v7, rfl, hv7, hb7⟩
    obtain ⟨a7, c7, hfv, _, _⟩ := sl_form (linksW_links hv7)
    simp only [List.cons.injEq, and_true] at hfv
    subst hfv
    have B7 : Blk w7 wr.heap.size 75 #[.slice a4 l.length c4, .slice a6 0 c6] := Blk.later (by (repeat first | assumption | exact kW (by first | (simp; done) | (simp; omega)) | apply kA | apply kD | apply kN | apply kF | simp <;> omega)) hb7
    obtain ⟨x0, x1, f0, f1, l7⟩ := f_blk B7
    obtain ⟨z0, z1, g0, g1, m7⟩ := f_blk (B7.set 0 (.slice a7 l.length c7))
    have hb78 : Below wr.heap.size wr w7 := by (repeat first | with_reducible (first | exact zR | assumption | apply zA | apply zS | apply zD | apply zN) | refine zT (by with_reducible assumption) ?_ | omega | simp <;> omega)
    have hz7 := hb7.size
    simp at hz7
    have hb8 : Below wr.heap.size wr (((w7.setCell ⟨wr.heap.size, 0, none⟩ (.slice a7 l.length c7)).setCell ⟨wr.heap.size, 1, none⟩ (.slice A n n)).alloc (.cells #[.slice a7 l.length c7, .slice A n n] 75)) := by (repeat first | with_reducible (first | exact zR | assumption | apply zA | apply zS | apply zD | apply zN) | refine zT (by with_reducible assumption) ?_ | omega | simp <;> omega)
    have hk8 : ∀ q, wr.heap.size + 1 ≤ q → q < w7.heap.size → ((((w7.setCell ⟨wr.heap.size, 0, none⟩ (.slice a7 l.length c7)).setCell ⟨wr.heap.size, 1, none⟩ (.slice A n n)).alloc (.cells #[.slice a7 l.length c7, .slice A n n] 75))).heap[q]? = w7.heap[q]? := fun q h1 h2 =>
     (Below.heap_alloc _ _ q (by simp; omega)).trans ((Below.heap_setCell _ _ _ _ (by dsimp only; omega)).trans (Below.heap_setCell _ _ _ _ (by dsimp only; omega)))
    have hsz8 : ((((w7.setCell ⟨wr.heap.size, 0, none⟩ (.slice a7 l.length c7)).setCell ⟨wr.heap.size, 1, none⟩ (.slice A n n)).alloc (.cells #[.slice a7 l.length c7, .slice A n n] 75))).heap.size = w7.heap.size + 1 := by simp
    obtain ⟨cells0, OA0⟩ := OW.out
    have hlt0 : ∀ q, (Value.slice av J.length cv).ownBlock = some q → w5.heap.size ≤ q ∧ q < wr.heap.size := fun q e => own_lt OA0.1 q e
    obtain ⟨cells, OA⟩ := OwnEls.below OW.out hb8
    have hx : rEntryW.r (fun b => w.heap.size ≤ b ∧ b < ((((w7.setCell ⟨wr.heap.size, 0, none⟩ (.slice a7 l.length c7)).setCell ⟨wr.heap.size, 1, none⟩ (.slice A n n)).alloc (.cells #[.slice a7 l.length c7, .slice A n n] 75))).heap.size ∧ (Value.slice av J.length cv).ownBlock ≠ some b) ((((w7.setCell ⟨wr.heap.size, 0, none⟩ (.slice a7 l.length c7)).setCell ⟨wr.heap.size, 1, none⟩ (.slice A n n)).alloc (.cells #[.slice a7 l.length c7, .slice A n n] 75))) [.slice a7 l.length c7, .slice A n n] ⟨l, R.take n⟩ := by
     refine entryW_mk (rLinksW.mono (rLinksW.keep hv7 (w' := (((w7.setCell ⟨wr.heap.size, 0, none⟩ (.slice a7 l.length c7)).setCell ⟨wr.heap.size, 1, none⟩ (.slice A n n)).alloc (.cells #[.slice a7 l.length c7, .slice A n n] 75))) fun q hq => hk8 q (by have := hq.1; simp at this; omega) hq.2) fun q hq => ⟨?_, ?_, fun e => ?_⟩) (rBytes.mono (rBytes.keep HRC.out (w' := (((w7.setCell ⟨wr.heap.size, 0, none⟩ (.slice a7 l.length c7)).setCell ⟨wr.heap.size, 1, none⟩ (.slice A n n)).alloc (.cells #[.slice a7 l.length c7, .slice A n n] 75))) fun q hq => hb8.block q (by omega)) fun q hq => ⟨hq.1, ?_, fun e => ?_⟩)
     ·have := hq.1; simp at this; omega
     ·have := hq.2; omega
     ·have := hlt0 q e; have := hq.1; simp at this; omega
     ·have := hq.2; omega
     ·have := hlt0 q e; have := hq.2; omega
    have HX := hid hx
    have HA := hid OA
    have HS9 : Hid (w5.heap.size ≤ ((((w7.setCell ⟨wr.heap.size, 0, none⟩ (.slice a7 l.length c7)).setCell ⟨wr.heap.size, 1, none⟩ (.slice A n n)).alloc (.cells #[.slice a7 l.length c7, .slice A n n] 75))).heap.size) := hid (by rw [hsz8]; omega)
    have HB8 := hid hb8
    clear hx OA OA0 hlt0 hk8 hb7 hb8 hsz8 hb78 hv7 B7 OW
    go_wp2_with (at_builtin; go_loud (refine wpList_append_src rfl _ _ _ rfl w5.heap.size 75 i0 (.agg #[.slice none 0 0, .slice none 0 0]) 2 48 Tryz.underlying23 hi hz0 hz1 hz2 rfl (by decide) (.slice av J.length cv) J.length _ rfl HA.out.1 (some ⟨w7.heap.size, 0, none⟩) 1 1 [.slice a7 l.length c7, .slice A n n] rfl (src_new1 ((w7.setCell ⟨wr.heap.size, 0, none⟩ (.slice a7 l.length c7)).setCell ⟨wr.heap.size, 1, none⟩ (.slice A n n)) 75 _ rfl (by simp) rfl) (by intro u hu; simp at hu; rcases hu with rfl | rfl <;> rfl) (by simp only [maxLen]; omega) (by omega) HS9.out ?_; intro v9 w9 hown9 hgrow9 hat9; obtain ⟨a9, c9, rfl⟩ := own_form hown9; have OP := hid (OwnEls.push HA.out rfl HX.out hown9 hgrow9 hat9 hgrow9.size); have hb9 : Below w5.heap.size wr w9 := (Below.grown (HB8.out.mono hszr) hgrow9 HS9.out (fun g e => (own_lt HA.out.1 g e).1)); clear hown9 hgrow9 hat9))
    have HRD9 := hid (rBytes.keep HRD.out (w' := w9) fun q hq => hb9.block q hq.2)
    have HB9 := hid (hb.trans hb9)
    go_roundw
    case rel => exact ⟨k + 1, J ++ [⟨l, R.take n⟩], R.drop n, by omega, by go_num, HRD9.out, by simp; omega, hid (by rw [List.length_append, hJl.out]; rfl), OP.out, HB9.out, HSP⟩
    case measure => simp [intOf]; omega
  ·obtain rfl : k = H.length := by omega
   have hE := hsp.out
   rw [List.drop_length] at hE
   have HV := hid (OwnEls.sliceW (A := rEntryW) (by exact hsz5) hown)
   clear hsp hown
   by_cases hR0 : R.length = 0
   ·have HSP : Hid (dealF H D [] = some J) := hid (by rw [hE]; simp only [dealF]; rw [if_pos hR0])
    have d1 : decide (0 < (R.length : Int)) = false := decide_eq_false (by omega)
    clear hE hR hR'
    go_wp2
    rw [HSP.out]
    refine bodyPost_ret (v := .tuple #[.slice av J.length cv, .bool true]) (by simp [results, Tryz.results155, go_sem]) rfl ⟨_, rfl, ?_, by (repeat first | with_reducible (first | exact zR | assumption | apply zA | apply zS | apply zD | apply zN) | refine zT (by with_reducible assumption) ?_ | omega | simp <;> omega)⟩
    exact HV.out
   ·have HSP : Hid (dealF H D [] = none) := hid (by rw [hE]; simp only [dealF]; rw [if_neg hR0])
    have d1 : decide (0 < (R.length : Int)) = true := decide_eq_true (by omega)
    clear hE hR hR'
    go_wp2
    rw [HSP.out]
    refine bodyPost_ret (v := .tuple #[.slice none 0 0, .bool false]) (by simp [results, Tryz.results155, go_sem]) rfl ⟨_, rfl, ⟨none, 0, rfl, Nat.le_refl _, Nat.zero_le _, .inl rfl⟩, by (repeat first | with_reducible (first | exact zR | assumption | apply zA | apply zS | apply zD | apply zN) | refine zT (by with_reducible assumption) ?_ | omega | simp <;> omega)⟩
end Go.Proofs.YtkipiefcnjfdjaaGreat
namespace Go.Proofs.YtkipiefcnjfdjaaGreat
open Go.RowKit Go.Bs Go.Maps
set_option linter.unusedVariables false
set_option linter.unusedSimpArgs false
structure Unblock (w : World) (g : Nat) (B : List UInt8) (a : Option Addr) (fn : Nat) (caps : Array Value) (blk : Rs → Rs × List UInt8 × Bool) (K : Nat → Prop) (X : World → Bool → Prop) : Prop where
 lt : ∀ b, K b → b < w.heap.size
 own : K g
 st : ∀ W W' q, X W q → w.heap.size ≤ W.heap.size → Tch (fun b => b = g ∨ w.heap.size ≤ b) W W' → X W' q
 call : ∀ W t, RdAt W g B a t → X W false → w.heap.size ≤ W.heap.size → Tch K w W → Calls Tryz.prog fn caps W fun r W' => ∃ v, r = .returned v ∧ rBytes.r (Fresh W W') W' [v] (blk t).2.1 ∧ RdAt W' g B a (blk t).1 ∧ Tch K W W' ∧ X W' (blk t).2.2
 size : ∀ t, (blk t).2.1.length ≤ 1048576
 dat : rBytes.r (fun q => q < w.heap.size ∧ ¬ K q) w [.slice a B.length B.length] B
 ent : ∀ (xs : Array Value) (W : World), (callFunc fn xs).run Tryz.prog W = .ok (.enter fn xs) W
theorem Unblock.rd {w W : World} {g : Nat} {B : List UInt8} {a : Option Addr} {fn : Nat} {caps : Array Value} {blk : Rs → Rs × List UInt8 × Bool} {K : Nat → Prop} {X : World → Bool → Prop} (hU : Unblock w g B a fn caps blk K X) {s : Rs} (ht : Tch K w W)
  (hb : Blk W g 124 #[.slice a B.length B.length, .int .i64 (s.p : Int), .int .i64 s.k, .int .i64 s.f]) (hs : s.ok B.length) : RdAt W g B a s :=
 ⟨hb, rBytes.mono (rBytes.keep hU.dat fun q hq => ht.block q hq.1 hq.2) fun q hq => ⟨Nat.lt_of_lt_of_le hq.1 ht.size, fun e => hq.2 (e ▸ hU.own)⟩, hs⟩
def Fine (h : List Link × Nat) : Prop := h.2 ≤ 1048576 ∧ h.1.length ≤ 16 ∧ ∀ z ∈ h.1, z.backs.length ≤ 4
theorem Rs.falls_len {B : List UInt8} : ∀ (n : Nat) (s : Rs) (below : Int) (out : List Int), (Rs.falls B n s below out).2.length ≤ n + out.length
 | 0, s, below, out => by simp [Rs.falls]
 | n + 1, s, below, out => by
  simp only [Rs.falls]
  split
  ·split
   ·simp
   ·have := Rs.falls_len (B := B) n (s.num B).1 (below - (s.num B).2 - 1) (out ++ [below - (s.num B).2 - 1])
    simp at this
    omega
  ·simp
theorem Rs.delta_len {B : List UInt8} {s : Rs} {below most : Int} : (s.delta B below most).2.length ≤ most.toNat := by
 have := Rs.falls_len (B := B) (s.int B most).2 (s.int B most).1 below []
 have h2 := Rs.int_le (B := B) (s := s) (m := most)
 unfold Rs.delta
 simp at this
 omega
theorem Rs.linksF_fine {B : List UInt8} {pos : Int} : ∀ (n : Nat) (s : Rs) (prev : Option Int) (out : List Link), (∀ z ∈ out, z.backs.length ≤ 4) → (Rs.linksF B pos n s prev out).2.length ≤ n + out.length ∧ ∀ z ∈ (Rs.linksF B pos n s prev out).2, z.backs.length ≤ 4
 | 0, s, prev, out, h => by simpa [Rs.linksF] using h
 | n + 1, s, prev, out, h => by
  simp only [Rs.linksF]
  split
  ·have := Rs.linksF_fine (B := B) (pos := pos) n ((s.stream B prev).1.delta B pos 4).1 (some (s.stream B prev).2) (out ++ [⟨(s.stream B prev).2, ((s.stream B prev).1.delta B pos 4).2⟩]) (fun z hz => by
    rw [List.mem_append, List.mem_singleton] at hz
    rcases hz with hz | rfl
    ·exact h z hz
    ·exact Rs.delta_len (most := 4))
   refine ⟨?_, this.2⟩
   have h1 := this.1
   simp at h1
   omega
  ·simp
theorem Rs.ehead_fine {B : List UInt8} {s : Rs} {pos most : Int} (hm : most ≤ 1048576) : Fine (s.ehead B pos most).2 := by
 have h1 := Rs.linksF_fine (B := B) (pos := pos) (s.int B 16).2 (s.int B 16).1 none [] (by simp)
 have h2 := Rs.int_le (B := B) (s := s) (m := 16)
 have h3 := Rs.int_le (B := B) (s := (s.links B pos).1) (m := most)
 unfold Rs.ehead
 split
 ·refine ⟨by dsimp only; omega, ?_, h1.2⟩
  have := h1.1
  simp at this
  show (s.links B pos).2.length ≤ 16
  unfold Rs.links
  omega
 ·exact ⟨Nat.zero_le _, Nat.zero_le _, by simp⟩
theorem Rs.heads_fine {B : List UInt8} : ∀ (n : Nat) (s : Rs) (pos left : Int) (out : List (List Link × Nat)), left ≤ 1048576 → (∀ h ∈ out, Fine h) → (Rs.heads B n s pos left out).2.length ≤ n + out.length ∧ ∀ h ∈ (Rs.heads B n s pos left out).2, Fine h
 | 0, s, pos, left, out, hl, h => by simpa [Rs.heads] using h
 | n + 1, s, pos, left, out, hl, h => by
  simp only [Rs.heads]
  split
  ·have := Rs.heads_fine (B := B) n (s.ehead B pos left).1 (pos + 1) (left - (s.ehead B pos left).2.2) (out ++ [(s.ehead B pos left).2]) (by omega) (fun z hz => by
    rw [List.mem_append, List.mem_singleton] at hz
    rcases hz with hz | rfl
    ·exact h z hz
    ·exact Rs.ehead_fine hl)
   refine ⟨?_, this.2⟩
   have h1 := this.1
   simp at h1
   omega
  ·simp
theorem HeadsAt.ints {lo : Nat} {W : World} {v u : Value} {J : List (List Link × Nat)} (h : HeadsAt lo W v u J) (hJ : ∀ h ∈ J, Fine h) : rI64s.r (fun b => lo ≤ b ∧ b < W.heap.size) W [u] (J.map fun h => (h.2 : Int)) := by
 refine own_one (A := rInt .i64) (Value.int .i64) (fun S x hx => ?_) (by simp) (e := 3) (n := J.length) ?_
 ·obtain ⟨h, hm, rfl⟩ := List.mem_map.1 hx
  have := (hJ h hm).1
  exact ⟨rfl, i64_wf (by omega)⟩
 ·have := h.szs
  simpa [sizeCells, List.map_map, Function.comp_def] using this
set_option maxRecDepth 100000 in
set_option maxHeartbeats 6400000 in
theorem batch_read_gen (w : World) {g : Nat} {B : List UInt8} {a : Option Addr} {s : Rs} (h : RdAt w g B a s) (hB : B.length ≤ 1000000000) (fn : Nat) (caps : Array Value) (blk : Rs → Rs × List UInt8 × Bool) (K : Nat → Prop) (X : World → Bool → Prop) (hU : Unblock w g B a fn caps blk K X) (hX : X w false) :
  Calls Tryz.prog 91 #[.pointer (some ⟨g, 0, none⟩), .func (Fn.func fn) #[] caps] w fun r w' => ∃ v q, r = .returned (.agg #[.int .u64 (Rs.batch B blk s).2.1.epoch, .int .u64 (Rs.batch B blk s).2.1.base, v]) ∧ rEntriesW.r (Fresh w w') w' [v] (Rs.batch B blk s).2.1.entries ∧ RdAt w' g B a (Rs.batch B blk s).1 ∧ Tch K w w' ∧ X w' q ∧ ((Rs.batch B blk s).1.k = 0 → q = (Rs.batch B blk s).2.2) := by
 have hlt := h.blk.lt
 have HIN := hid (RdInv.refl h)
 have HU := hid hU
 have HX := hid hX
 have HEP := hid (fun (W : World) (hW : RdAt W g B a s) => epoch_read W hW hB)
 have HPO := hid (fun (W : World) (hW : RdAt W g B a (s.ep B).1) => epoch_readpos W hW hB)
 have HIT := hid (fun (W : World) (hW : RdAt W g B a ((s.ep B).1.po B).1) => varint_int W hW (by omega) 16 (by omega))
 have hn16 := Rs.int_le (B := B) (s := ((s.ep B).1.po B).1) (m := 16)
 have hpb : (((s.ep B).1.po B).2 : Int) ≤ 18446744073709551615 := by
  have := Rs.num_small (B := B) (s := (s.ep B).1)
  unfold Rs.po
  split
  ·split
   ·omega
   ·simp
  ·simp
 have hok2 := (Rs.po_ok (B := B) (Rs.ep_ok (B := B) h.ok)).le
 unfold Rs.batch Rs.bfront
 clear h hU hX
 generalize s.ep B = E at *
 obtain ⟨s1, e⟩ := E
 dsimp only at *
 generalize s1.po B = P at *
 obtain ⟨s2, p⟩ := P
 dsimp only at *
 generalize s2.int B 16 = I at *
 obtain ⟨s3, n⟩ := I
 dsimp only at *
 have hn : n ≤ 16 := by omega
 have hp1 : (0 : Int) ≤ (p : Int) ∧ (p : Int) ≤ 18446744073709551615 := by omega
 have hp2 : 0 ≤ (s2.p : Int) ∧ (s2.p : Int) ≤ 9223372036854775807 := by omega
 clear hn16 hpb hok2
 by_cases hfit : fitsR (p : Int) n = true
 ·rw [if_pos hfit]
  have HF := hid (fun (W : World) => (by have := batch_fits (p : Int) n W hp1 (by omega); rw [hfit] at this; exact this : Calls Tryz.prog 79 #[.int .u64 (p : Int), .int .i64 n] W fun r w' => r = .returned (.bool true) ∧ W = w'))
  have hfit' := hfit
  simp only [fitsR, decide_eq_true_eq] at hfit'
  have hpn : (0 : Int) ≤ (p : Int) ∧ (p : Int) + n ≤ 18446744073709551615 := by omega
  clear hfit hfit'
  by_cases hk3 : s3.k = 0
  ·rw [if_pos hk3]
   have HG := hid (fun (W : World) (hW : RdAt W g B a s3) => (by have := rd_good W hW; rw [decide_eq_true hk3] at this; exact this : Calls Tryz.prog 96 #[.pointer (some ⟨g, 0, none⟩)] W fun r w' => r = .returned (.bool true) ∧ Below W.heap.size W w'))
   have HHD := hid (fun (W : World) (hW : RdAt W g B a s3) => batch_heads W hW hB (p : Int) n hn hpn)
   have hfine := Rs.heads_fine (B := B) n s3 (p : Int) 1048576 [] (by omega) (by simp)
   clear hk3
   generalize Rs.heads B n s3 (p : Int) 1048576 [] = HD at *
   obtain ⟨s4, H⟩ := HD
   dsimp only at *
   have hHl : H.length ≤ 16 := by have := hfine.1; simp at this; omega
   have HFN := hid hfine.2
   clear hfine
   have hUc := fun (W : World) (hW : RdAt W g B a s4) => HU.out.call W s4 hW
   have hDl := HU.out.size s4
   unfold Rs.bblock
   dsimp only
   generalize blk s4 = T at *
   obtain ⟨s5, D, q⟩ := T
   dsimp only at *
   have HUC := hid hUc
   clear hUc
   have hDF := dealF_is H D []
   by_cases hok : sizesN H = D.length
   ·rw [if_pos hok] at hDF
    simp only [if_pos hok]
    rw [List.nil_append] at hDF
    by_cases hk5 : s5.k = 0
    ·simp only [if_pos hk5]
     have HG5 := hid (fun (W : World) (hW : RdAt W g B a s5) => (by have := rd_good W hW; rw [decide_eq_true hk5] at this; exact this : Calls Tryz.prog 96 #[.pointer (some ⟨g, 0, none⟩)] W fun r w' => r = .returned (.bool true) ∧ Below W.heap.size W w'))
     have HDL := hid (fun (W : World) (x1 x2 x3 y1 y2 y3 z1 z2 z3) => entry_deal H D x1 x2 x3 y1 y2 y3 z1 z2 z3 W)
     rw [hDF] at HDL
     simp only [Option.isSome_some, Option.isSome_none, Option.getD_some, Option.getD_none] at HDL
     clear hDF hok hk5
     generalize hdl : dealE H D = EN at *
     clear hdl
     go_enter Tryz.func91, Tryz.ntmps91
     go_wp2_with fail
     refine (HEP.out _ (HIN.out.row (by (repeat first | with_reducible (first | exact zR | assumption | apply zA | apply zS | apply zD | apply zN) | refine zT (by with_reducible assumption) ?_ | omega | simp <;> omega))).rd).mono ?_
     rintro r w1 ⟨rfl, hst1⟩
     have R1 : Blk w1 w.heap.size 25 #[.int .u64 0, .int .u64 0, .slice none 0 0] := Blk.tch (by (repeat first | assumption | exact kW (by first | (simp; done) | (simp; omega)) | apply kA | apply kD | apply kN | apply kF | simp <;> omega)) hst1.2 (by omega)
     have HIN1 := hid ((HIN.out.row (by (repeat first | with_reducible (first | exact zR | assumption | apply zA | apply zS | apply zD | apply zN) | refine zT (by with_reducible assumption) ?_ | omega | simp <;> omega))).step hst1)
     have hz1 := HIN1.out.tch.size
     clear hst1
     go_wp2_with fail
     refine (HPO.out _ HIN1.out.rd).mono ?_
     rintro r w2 ⟨rfl, hst2⟩
     have R2 : Blk w2 w.heap.size 25 #[.int .u64 0, .int .u64 0, .slice none 0 0] := Blk.tch R1 hst2.2 (by omega)
     have HIN2 := hid (HIN1.out.step hst2)
     have hz2 := HIN2.out.tch.size
     have hr2 := R2.lt
     clear hst2 R1
     go_wp2_with fail
     refine (rd_at _ (HIN2.out.row ((by (repeat first | with_reducible (first | exact zR | assumption | apply zA | apply zS | apply zD | apply zN) | refine zT (by with_reducible assumption) ?_ | omega | simp <;> omega) : Below w2.heap.size w2 _).mono hz2)).rd).mono ?_
     rintro r w3 ⟨rfl, rfl⟩
     go_wp2_with fail
     refine (HIT.out _ (HIN2.out.row ((by (repeat first | with_reducible (first | exact zR | assumption | apply zA | apply zS | apply zD | apply zN) | refine zT (by with_reducible assumption) ?_ | omega | simp <;> omega) : Below w2.heap.size w2 _).mono hz2)).rd).mono ?_
     rintro r w4 ⟨rfl, hst4⟩
     have R4 : Blk w4 w.heap.size 25 #[.int .u64 0, .int .u64 0, .slice none 0 0] := Blk.tch (Blk.later R2 (by (repeat first | with_reducible (first | exact zR | assumption | apply zA | apply zS | apply zD | apply zN) | refine zT (by with_reducible assumption) ?_ | omega | simp <;> omega) : Below w2.heap.size w2 _)) hst4.2 (by omega)
     have B4 : Blk w4 w2.heap.size 25 #[.int .u64 (e : Int), .int .u64 (p : Int), .slice none 0 0] := Blk.tch (by (repeat first | assumption | exact kW (by first | (simp; done) | (simp; omega)) | apply kA | apply kD | apply kN | apply kF | simp <;> omega)) hst4.2 (by omega)
     have HIN4 := hid ((HIN2.out.row ((by (repeat first | with_reducible (first | exact zR | assumption | apply zA | apply zS | apply zD | apply zN) | refine zT (by with_reducible assumption) ?_ | omega | simp <;> omega) : Below w2.heap.size w2 _).mono hz2)).step hst4)
     have hz4 := HIN4.out.tch.size
     have hs4 := hst4.2.size
     simp at hs4
     obtain ⟨x0, x1, x2, _, _, _, l4⟩ := b_blk B4
     clear hst4
     go_wp2_with fail
     refine (HF.out _).mono ?_
     rintro r w5 ⟨rfl, rfl⟩
     go_wp2_with fail
     refine (HG.out _ HIN4.out.rd).mono ?_
     rintro r w6 ⟨rfl, hb6⟩
     have B6 := B4.later hb6
     have R6 := R4.later hb6
     have HIN6 := hid (HIN4.out.row (hb6.mono hz4))
     have hz6 := HIN6.out.tch.size
     have hl6 := B6.lt
     obtain ⟨y0, y1, y2, _, _, _, _⟩ := b_blk B6
     clear hb6
     go_wp2_with fail
     refine (HHD.out _ HIN6.out.rd).mono ?_
     rintro r w7 ⟨vv, uu, rfl, hH7, hst7⟩
     obtain ⟨av, cv, rfl⟩ := HeadsAt.formv hH7
     obtain ⟨au, cu, rfl⟩ := own_form hH7.szs
     have B7 : Blk w7 w2.heap.size 25 #[.int .u64 (e : Int), .int .u64 (p : Int), .slice none 0 0] := Blk.tch B6 hst7.2 (by omega)
     have R7 : Blk w7 w.heap.size 25 #[.int .u64 0, .int .u64 0, .slice none 0 0] := Blk.tch R6 hst7.2 (by omega)
     have HIN7 := hid (HIN6.out.step hst7)
     have hz7 := HIN7.out.tch.size
     have HV7 := hid hH7.out
     have HU7 := hid (hH7.ints HFN.out)
     have hz67 := hst7.2.size
     clear hH7 hst7
     go_wp2_with fail
     refine (rd_at _ HIN7.out.rd).mono ?_
     rintro r w8 ⟨rfl, rfl⟩
     go_wp2_with fail
     have HX7 := hid (HU.out.st _ _ _ HX.out (Nat.le_refl _) (HIN7.out.tch.mono fun b _ e => .inl e))
     rw [HU.out.ent]
     refine (HUC.out _ HIN7.out.rd HX7.out hz7 (HIN7.out.tch.mono fun b _ e => e ▸ HU.out.own)).mono ?_
     rintro r w9 ⟨v9, rfl, hD9, hRD9, hT9, hX9⟩
     obtain ⟨ad, cd, hfv, hD9', _⟩ := sl_form hD9
     simp only [List.cons.injEq, and_true] at hfv
     subst hfv
     have hnk : ∀ b, w.heap.size ≤ b → ¬ K b := fun b hb hk => by have := HU.out.lt b hk; omega
     have B9 : Blk w9 w2.heap.size 25 #[.int .u64 (e : Int), .int .u64 (p : Int), .slice none 0 0] := Blk.tch B7 hT9 (hnk _ hz2)
     have R9 : Blk w9 w.heap.size 25 #[.int .u64 0, .int .u64 0, .slice none 0 0] := Blk.tch R7 hT9 (hnk _ (Nat.le_refl _))
     have hz9 : w7.heap.size ≤ w9.heap.size := hT9.size
     have HT9 := hid ((HIN7.out.tch.mono fun b _ e => e ▸ HU.out.own : Tch K w w7).trans hT9 fun b _ e => e)
     have HH9 := hid (entriesW_entries (rEntriesW.mono (rEntriesW.keep HV7.out (w' := w9) fun b hb => hT9.block b hb.2 (hnk b (by omega))) (S' := (· < w9.heap.size)) fun b hb => by omega))
     have HS9 := hid (rI64s.mono (rI64s.keep HU7.out (w' := w9) fun b hb => hT9.block b hb.2 (hnk b (by omega))) (S' := (· < w9.heap.size)) fun b hb => by omega)
     have HD9 := hid (rBytes.mono hD9' (S' := (· < w9.heap.size)) fun b hb => hb.2)
     have HX9 := hid hX9
     have hIN9 : RdInv w9 w9 g B a s5 := RdInv.refl hRD9
     have HIN9 := hid hIN9
     clear hD9 hD9' hRD9 hT9 hX9 hIN9 HV7 HU7 B7 R7
     go_wp2_with fail
     refine (HDL.out _ av au ad _ _ _ cv cu cd HH9.out HS9.out HD9.out (by omega) (by omega) (fun h hh => ⟨by have := (HFN.out h hh).2.1; omega, fun z hz => by have := (HFN.out h hh).2.2 z hz; omega⟩)).mono ?_
     rintro r w10 ⟨v10, rfl, hE10, hb10⟩
     obtain ⟨ae, ce, hfe, _, _⟩ := sl_form (entriesW_entries hE10)
     simp only [List.cons.injEq, and_true] at hfe
     subst hfe
     have B10 := B9.later hb10
     have R10 := R9.later hb10
     have HIN10 := hid (HIN9.out.row hb10)
     have HE10 := hid hE10
     have hs10 := hb10.size
     have HB10 := hid hb10
     clear hE10 hb10 B9 R9
     go_wp2_with fail
     refine (HG5.out _ HIN10.out.rd).mono ?_
     rintro r w11 ⟨rfl, hb11⟩
     have B11 := B10.later hb11
     have R11 := R10.later hb11
     have RD11 := HIN10.out.rd.blk.later hb11
     have HRO := hid HIN10.out.rd.ok
     have HB11 := hid hb11
     have hs11 := hb11.size
     obtain ⟨x0', x1', x2', e0, e1, e2, l11⟩ := b_blk B11
     obtain ⟨z0', z1', z2', f0, f1, f2, m11⟩ := b_blk R11
     clear hb11
     go_wp2
     have RF : Blk ((((w11.setCell ⟨w2.heap.size, 2, none⟩ (.slice ae EN.length ce)).setCell ⟨w.heap.size, 0, none⟩ (.int .u64 (e : Int))).setCell ⟨w.heap.size, 1, none⟩ (.int .u64 (p : Int))).setCell ⟨w.heap.size, 2, none⟩ (.slice ae EN.length ce)) w.heap.size 25 #[.int .u64 (e : Int), .int .u64 (p : Int), .slice ae EN.length ce] := (((Blk.far R11 (by dsimp only; omega) _).set 0 _).set 1 _).set 2 _
     obtain ⟨v0, v1, v2, _, _, _, lF⟩ := b_blk RF
     have hTF : Tch (fun b => w.heap.size ≤ b) w9 ((((w11.setCell ⟨w2.heap.size, 2, none⟩ (.slice ae EN.length ce)).setCell ⟨w.heap.size, 0, none⟩ (.int .u64 (e : Int))).setCell ⟨w.heap.size, 1, none⟩ (.int .u64 (p : Int))).setCell ⟨w.heap.size, 2, none⟩ (.slice ae EN.length ce)) := ((((Tch.trans (Tch.of_below (HB10.out.mono (by omega : w.heap.size ≤ w9.heap.size))) (Tch.of_below (HB11.out.mono (by omega : w.heap.size ≤ w10.heap.size))) fun b _ h => h).setCell (fun _ => by dsimp only; omega) _).setCell (fun _ => by dsimp only; omega) _).setCell (fun _ => by dsimp only; omega) _).setCell (fun _ => by dsimp only; omega) _
     have hTK : Tch K w ((((w11.setCell ⟨w2.heap.size, 2, none⟩ (.slice ae EN.length ce)).setCell ⟨w.heap.size, 0, none⟩ (.int .u64 (e : Int))).setCell ⟨w.heap.size, 1, none⟩ (.int .u64 (p : Int))).setCell ⟨w.heap.size, 2, none⟩ (.slice ae EN.length ce)) := HT9.out.trans hTF fun b hb hle => by omega
     have hrd : RdAt ((((w11.setCell ⟨w2.heap.size, 2, none⟩ (.slice ae EN.length ce)).setCell ⟨w.heap.size, 0, none⟩ (.int .u64 (e : Int))).setCell ⟨w.heap.size, 1, none⟩ (.int .u64 (p : Int))).setCell ⟨w.heap.size, 2, none⟩ (.slice ae EN.length ce)) g B a s5 := HU.out.rd hTK (Blk.far (Blk.far (Blk.far (Blk.far RD11 (by dsimp only; omega) _) (by dsimp only; omega) _) (by dsimp only; omega) _) (by dsimp only; omega) _) HRO.out
     have hXF : X ((((w11.setCell ⟨w2.heap.size, 2, none⟩ (.slice ae EN.length ce)).setCell ⟨w.heap.size, 0, none⟩ (.int .u64 (e : Int))).setCell ⟨w.heap.size, 1, none⟩ (.int .u64 (p : Int))).setCell ⟨w.heap.size, 2, none⟩ (.slice ae EN.length ce)) q := HU.out.st _ _ _ HX9.out (by omega) (hTF.mono fun b _ hle => .inr hle)
     have hvF : rEntriesW.r (Fresh w ((((w11.setCell ⟨w2.heap.size, 2, none⟩ (.slice ae EN.length ce)).setCell ⟨w.heap.size, 0, none⟩ (.int .u64 (e : Int))).setCell ⟨w.heap.size, 1, none⟩ (.int .u64 (p : Int))).setCell ⟨w.heap.size, 2, none⟩ (.slice ae EN.length ce))) ((((w11.setCell ⟨w2.heap.size, 2, none⟩ (.slice ae EN.length ce)).setCell ⟨w.heap.size, 0, none⟩ (.int .u64 (e : Int))).setCell ⟨w.heap.size, 1, none⟩ (.int .u64 (p : Int))).setCell ⟨w.heap.size, 2, none⟩ (.slice ae EN.length ce)) [.slice ae EN.length ce] EN := rEntriesW.mono (rEntriesW.keep HE10.out (w' := ((((w11.setCell ⟨w2.heap.size, 2, none⟩ (.slice ae EN.length ce)).setCell ⟨w.heap.size, 0, none⟩ (.int .u64 (e : Int))).setCell ⟨w.heap.size, 1, none⟩ (.int .u64 (p : Int))).setCell ⟨w.heap.size, 2, none⟩ (.slice ae EN.length ce))) fun b hb => by
      have h1 : w9.heap.size ≤ b := hb.1
      have h2 : b < w10.heap.size := hb.2
      refine Eq.trans ?_ (HB11.out.block b h2)
      repeat rw [Below.heap_setCell _ _ _ _ (by dsimp only; omega)]) fun b hb => ⟨by have := hb.1; omega, by have := hb.2; simp; omega⟩
     refine bodyPost_ret (v := .agg #[.int .u64 (e : Int), .int .u64 (p : Int), .slice ae EN.length ce]) (by simp [results, Tryz.results91, go_sem, v0, v1, v2, lF]) rfl ⟨_, q, rfl, hvF, hrd, hTK, hXF, fun _ => rfl⟩
    ·simp only [if_neg hk5]
     have HG5 := hid (fun (W : World) (hW : RdAt W g B a s5) => (by have := rd_good W hW; rw [decide_eq_false hk5] at this; exact this : Calls Tryz.prog 96 #[.pointer (some ⟨g, 0, none⟩)] W fun r w' => r = .returned (.bool false) ∧ Below W.heap.size W w'))
     have HDL := hid (fun (W : World) (x1 x2 x3 y1 y2 y3 z1 z2 z3) => entry_deal H D x1 x2 x3 y1 y2 y3 z1 z2 z3 W)
     rw [hDF] at HDL
     simp only [Option.isSome_some, Option.isSome_none, Option.getD_some, Option.getD_none] at HDL
     have HK5 := hid hk5
     clear hDF hok hk5
     generalize hdl : dealE H D = EN at *
     clear hdl
     go_enter Tryz.func91, Tryz.ntmps91
     go_wp2_with fail
     refine (HEP.out _ (HIN.out.row (by (repeat first | with_reducible (first | exact zR | assumption | apply zA | apply zS | apply zD | apply zN) | refine zT (by with_reducible assumption) ?_ | omega | simp <;> omega))).rd).mono ?_
     rintro r w1 ⟨rfl, hst1⟩
     have R1 : Blk w1 w.heap.size 25 #[.int .u64 0, .int .u64 0, .slice none 0 0] := Blk.tch (by (repeat first | assumption | exact kW (by first | (simp; done) | (simp; omega)) | apply kA | apply kD | apply kN | apply kF | simp <;> omega)) hst1.2 (by omega)
     have HIN1 := hid ((HIN.out.row (by (repeat first | with_reducible (first | exact zR | assumption | apply zA | apply zS | apply zD | apply zN) | refine zT (by with_reducible assumption) ?_ | omega | simp <;> omega))).step hst1)
     have hz1 := HIN1.out.tch.size
     clear hst1
     go_wp2_with fail
     refine (HPO.out _ HIN1.out.rd).mono ?_
     rintro r w2 ⟨rfl, hst2⟩
     have R2 : Blk w2 w.heap.size 25 #[.int .u64 0, .int .u64 0, .slice none 0 0] := Blk.tch R1 hst2.2 (by omega)
     have HIN2 := hid (HIN1.out.step hst2)
     have hz2 := HIN2.out.tch.size
     have hr2 := R2.lt
     clear hst2 R1
     go_wp2_with fail
     refine (rd_at _ (HIN2.out.row ((by (repeat first | with_reducible (first | exact zR | assumption | apply zA | apply zS | apply zD | apply zN) | refine zT (by with_reducible assumption) ?_ | omega | simp <;> omega) : Below w2.heap.size w2 _).mono hz2)).rd).mono ?_
     rintro r w3 ⟨rfl, rfl⟩
     go_wp2_with fail
     refine (HIT.out _ (HIN2.out.row ((by (repeat first | with_reducible (first | exact zR | assumption | apply zA | apply zS | apply zD | apply zN) | refine zT (by with_reducible assumption) ?_ | omega | simp <;> omega) : Below w2.heap.size w2 _).mono hz2)).rd).mono ?_
     rintro r w4 ⟨rfl, hst4⟩
     have R4 : Blk w4 w.heap.size 25 #[.int .u64 0, .int .u64 0, .slice none 0 0] := Blk.tch (Blk.later R2 (by (repeat first | with_reducible (first | exact zR | assumption | apply zA | apply zS | apply zD | apply zN) | refine zT (by with_reducible assumption) ?_ | omega | simp <;> omega) : Below w2.heap.size w2 _)) hst4.2 (by omega)
     have B4 : Blk w4 w2.heap.size 25 #[.int .u64 (e : Int), .int .u64 (p : Int), .slice none 0 0] := Blk.tch (by (repeat first | assumption | exact kW (by first | (simp; done) | (simp; omega)) | apply kA | apply kD | apply kN | apply kF | simp <;> omega)) hst4.2 (by omega)
     have HIN4 := hid ((HIN2.out.row ((by (repeat first | with_reducible (first | exact zR | assumption | apply zA | apply zS | apply zD | apply zN) | refine zT (by with_reducible assumption) ?_ | omega | simp <;> omega) : Below w2.heap.size w2 _).mono hz2)).step hst4)
     have hz4 := HIN4.out.tch.size
     have hs4 := hst4.2.size
     simp at hs4
     obtain ⟨x0, x1, x2, _, _, _, l4⟩ := b_blk B4
     clear hst4
     go_wp2_with fail
     refine (HF.out _).mono ?_
     rintro r w5 ⟨rfl, rfl⟩
     go_wp2_with fail
     refine (HG.out _ HIN4.out.rd).mono ?_
     rintro r w6 ⟨rfl, hb6⟩
     have B6 := B4.later hb6
     have R6 := R4.later hb6
     have HIN6 := hid (HIN4.out.row (hb6.mono hz4))
     have hz6 := HIN6.out.tch.size
     have hl6 := B6.lt
     obtain ⟨y0, y1, y2, _, _, _, _⟩ := b_blk B6
     clear hb6
     go_wp2_with fail
     refine (HHD.out _ HIN6.out.rd).mono ?_
     rintro r w7 ⟨vv, uu, rfl, hH7, hst7⟩
     obtain ⟨av, cv, rfl⟩ := HeadsAt.formv hH7
     obtain ⟨au, cu, rfl⟩ := own_form hH7.szs
     have B7 : Blk w7 w2.heap.size 25 #[.int .u64 (e : Int), .int .u64 (p : Int), .slice none 0 0] := Blk.tch B6 hst7.2 (by omega)
     have R7 : Blk w7 w.heap.size 25 #[.int .u64 0, .int .u64 0, .slice none 0 0] := Blk.tch R6 hst7.2 (by omega)
     have HIN7 := hid (HIN6.out.step hst7)
     have hz7 := HIN7.out.tch.size
     have HV7 := hid hH7.out
     have HU7 := hid (hH7.ints HFN.out)
     have hz67 := hst7.2.size
     clear hH7 hst7
     go_wp2_with fail
     refine (rd_at _ HIN7.out.rd).mono ?_
     rintro r w8 ⟨rfl, rfl⟩
     go_wp2_with fail
     have HX7 := hid (HU.out.st _ _ _ HX.out (Nat.le_refl _) (HIN7.out.tch.mono fun b _ e => .inl e))
     rw [HU.out.ent]
     refine (HUC.out _ HIN7.out.rd HX7.out hz7 (HIN7.out.tch.mono fun b _ e => e ▸ HU.out.own)).mono ?_
     rintro r w9 ⟨v9, rfl, hD9, hRD9, hT9, hX9⟩
     obtain ⟨ad, cd, hfv, hD9', _⟩ := sl_form hD9
     simp only [List.cons.injEq, and_true] at hfv
     subst hfv
     have hnk : ∀ b, w.heap.size ≤ b → ¬ K b := fun b hb hk => by have := HU.out.lt b hk; omega
     have B9 : Blk w9 w2.heap.size 25 #[.int .u64 (e : Int), .int .u64 (p : Int), .slice none 0 0] := Blk.tch B7 hT9 (hnk _ hz2)
     have R9 : Blk w9 w.heap.size 25 #[.int .u64 0, .int .u64 0, .slice none 0 0] := Blk.tch R7 hT9 (hnk _ (Nat.le_refl _))
     have hz9 : w7.heap.size ≤ w9.heap.size := hT9.size
     have HT9 := hid ((HIN7.out.tch.mono fun b _ e => e ▸ HU.out.own : Tch K w w7).trans hT9 fun b _ e => e)
     have HH9 := hid (entriesW_entries (rEntriesW.mono (rEntriesW.keep HV7.out (w' := w9) fun b hb => hT9.block b hb.2 (hnk b (by omega))) (S' := (· < w9.heap.size)) fun b hb => by omega))
     have HS9 := hid (rI64s.mono (rI64s.keep HU7.out (w' := w9) fun b hb => hT9.block b hb.2 (hnk b (by omega))) (S' := (· < w9.heap.size)) fun b hb => by omega)
     have HD9 := hid (rBytes.mono hD9' (S' := (· < w9.heap.size)) fun b hb => hb.2)
     have HX9 := hid hX9
     have hIN9 : RdInv w9 w9 g B a s5 := RdInv.refl hRD9
     have HIN9 := hid hIN9
     clear hD9 hD9' hRD9 hT9 hX9 hIN9 HV7 HU7 B7 R7
     go_wp2_with fail
     refine (HDL.out _ av au ad _ _ _ cv cu cd HH9.out HS9.out HD9.out (by omega) (by omega) (fun h hh => ⟨by have := (HFN.out h hh).2.1; omega, fun z hz => by have := (HFN.out h hh).2.2 z hz; omega⟩)).mono ?_
     rintro r w10 ⟨v10, rfl, hE10, hb10⟩
     obtain ⟨ae, ce, hfe, _, _⟩ := sl_form (entriesW_entries hE10)
     simp only [List.cons.injEq, and_true] at hfe
     subst hfe
     have B10 := B9.later hb10
     have R10 := R9.later hb10
     have HIN10 := hid (HIN9.out.row hb10)
     have HE10 := hid hE10
     have hs10 := hb10.size
     have HB10 := hid hb10
     clear hE10 hb10 B9 R9
     have HTX : Hid (Tch (fun b => b = g ∨ w.heap.size ≤ b) w9 w10) := hid ((Tch.of_below (HB10.out.mono (by omega : w.heap.size ≤ w9.heap.size))).mono fun b _ h => .inr h)
     go_wp2_with fail
     refine (HG5.out _ HIN10.out.rd).mono ?_
     rintro r w11 ⟨rfl, hb11⟩
     have HB11 := hid hb11
     have R11 := R10.later hb11
     have RD11 := HIN10.out.rd.blk.later hb11
     have HRO := hid HIN10.out.rd.ok
     have hs11 := hb11.size
     obtain ⟨z0', z1', z2', f0, f1, f2, m11⟩ := b_blk R11
     clear hb11
     go_wp2
     have RF : Blk (((w11.setCell ⟨w.heap.size, 0, none⟩ (.int .u64 0)).setCell ⟨w.heap.size, 1, none⟩ (.int .u64 0)).setCell ⟨w.heap.size, 2, none⟩ (.slice none 0 0)) w.heap.size 25 #[.int .u64 0, .int .u64 0, .slice none 0 0] := ((R11.set 0 _).set 1 _).set 2 _
     obtain ⟨v0, v1, v2, _, _, _, lF⟩ := b_blk RF
     have hTF : Tch (fun b => b = g ∨ w.heap.size ≤ b) w9 (((w11.setCell ⟨w.heap.size, 0, none⟩ (.int .u64 0)).setCell ⟨w.heap.size, 1, none⟩ (.int .u64 0)).setCell ⟨w.heap.size, 2, none⟩ (.slice none 0 0)) := ((((Tch.trans (HTX.out) (Tch.of_below (HB11.out.mono (by omega : w.heap.size ≤ w10.heap.size))) fun b _ h => .inr h).setCell (fun _ => .inr (by dsimp only; omega)) _).setCell (fun _ => .inr (by dsimp only; omega)) _).setCell (fun _ => .inr (by dsimp only; omega)) _)
     have hTK : Tch K w (((w11.setCell ⟨w.heap.size, 0, none⟩ (.int .u64 0)).setCell ⟨w.heap.size, 1, none⟩ (.int .u64 0)).setCell ⟨w.heap.size, 2, none⟩ (.slice none 0 0)) := HT9.out.trans hTF fun b hb hle => by
      rcases hle with rfl | hle
      ·exact HU.out.own
      ·omega
     have hrd : RdAt (((w11.setCell ⟨w.heap.size, 0, none⟩ (.int .u64 0)).setCell ⟨w.heap.size, 1, none⟩ (.int .u64 0)).setCell ⟨w.heap.size, 2, none⟩ (.slice none 0 0)) g B a s5 := HU.out.rd hTK (Blk.far (Blk.far (Blk.far RD11 (by dsimp only; omega) _) (by dsimp only; omega) _) (by dsimp only; omega) _) HRO.out
     have hXF : X (((w11.setCell ⟨w.heap.size, 0, none⟩ (.int .u64 0)).setCell ⟨w.heap.size, 1, none⟩ (.int .u64 0)).setCell ⟨w.heap.size, 2, none⟩ (.slice none 0 0)) q := HU.out.st _ _ _ HX9.out (by omega) hTF
     refine bodyPost_ret (v := .agg #[.int .u64 0, .int .u64 0, .slice none 0 0]) (by simp [results, Tryz.results91, go_sem, v0, v1, v2, lF]) rfl ⟨_, q, rfl, ⟨none, 0, rfl, Nat.le_refl _, Nat.zero_le _, .inl rfl⟩, hrd, hTK, hXF, fun h0 => absurd h0 HK5.out⟩
   ·rw [if_neg hok] at hDF
    simp only [if_neg hok]
    have hk5 : (s5.fail 3 (s4.p : Int)).k ≠ 0 := Rs.fail_k (by omega)
    simp only [if_neg hk5]
    have HG5 := hid (fun (W : World) (hW : RdAt W g B a (s5.fail 3 (s4.p : Int))) => (by have := rd_good W hW; rw [decide_eq_false hk5] at this; exact this : Calls Tryz.prog 96 #[.pointer (some ⟨g, 0, none⟩)] W fun r w' => r = .returned (.bool false) ∧ Below W.heap.size W w'))
    have HDL := hid (fun (W : World) (x1 x2 x3 y1 y2 y3 z1 z2 z3) => entry_deal H D x1 x2 x3 y1 y2 y3 z1 z2 z3 W)
    rw [hDF] at HDL
    simp only [Option.isSome_some, Option.isSome_none, Option.getD_some, Option.getD_none] at HDL
    have HK5 := hid hk5
    clear hDF hok hk5
    go_enter Tryz.func91, Tryz.ntmps91
    go_wp2_with fail
    refine (HEP.out _ (HIN.out.row (by (repeat first | with_reducible (first | exact zR | assumption | apply zA | apply zS | apply zD | apply zN) | refine zT (by with_reducible assumption) ?_ | omega | simp <;> omega))).rd).mono ?_
    rintro r w1 ⟨rfl, hst1⟩
    have R1 : Blk w1 w.heap.size 25 #[.int .u64 0, .int .u64 0, .slice none 0 0] := Blk.tch (by (repeat first | assumption | exact kW (by first | (simp; done) | (simp; omega)) | apply kA | apply kD | apply kN | apply kF | simp <;> omega)) hst1.2 (by omega)
    have HIN1 := hid ((HIN.out.row (by (repeat first | with_reducible (first | exact zR | assumption | apply zA | apply zS | apply zD | apply zN) | refine zT (by with_reducible assumption) ?_ | omega | simp <;> omega))).step hst1)
    have hz1 := HIN1.out.tch.size
    clear hst1
    go_wp2_with fail
    refine (HPO.out _ HIN1.out.rd).mono ?_
    rintro r w2 ⟨rfl, hst2⟩
    have R2 : Blk w2 w.heap.size 25 #[.int .u64 0, .int .u64 0, .slice none 0 0] := Blk.tch R1 hst2.2 (by omega)
    have HIN2 := hid (HIN1.out.step hst2)
    have hz2 := HIN2.out.tch.size
    have hr2 := R2.lt
    clear hst2 R1
    go_wp2_with fail
    refine (rd_at _ (HIN2.out.row ((by (repeat first | with_reducible (first | exact zR | assumption | apply zA | apply zS | apply zD | apply zN) | refine zT (by with_reducible assumption) ?_ | omega | simp <;> omega) : Below w2.heap.size w2 _).mono hz2)).rd).mono ?_
    rintro r w3 ⟨rfl, rfl⟩
    go_wp2_with fail
    refine (HIT.out _ (HIN2.out.row ((by (repeat first | with_reducible (first | exact zR | assumption | apply zA | apply zS | apply zD | apply zN) | refine zT (by with_reducible assumption) ?_ | omega | simp <;> omega) : Below w2.heap.size w2 _).mono hz2)).rd).mono ?_
    rintro r w4 ⟨rfl, hst4⟩
    have R4 : Blk w4 w.heap.size 25 #[.int .u64 0, .int .u64 0, .slice none 0 0] := Blk.tch (Blk.later R2 (by (repeat first | with_reducible (first | exact zR | assumption | apply zA | apply zS | apply zD | apply zN) | refine zT (by with_reducible assumption) ?_ | omega | simp <;> omega) : Below w2.heap.size w2 _)) hst4.2 (by omega)
    have B4 : Blk w4 w2.heap.size 25 #[.int .u64 (e : Int), .int .u64 (p : Int), .slice none 0 0] := Blk.tch (by (repeat first | assumption | exact kW (by first | (simp; done) | (simp; omega)) | apply kA | apply kD | apply kN | apply kF | simp <;> omega)) hst4.2 (by omega)
    have HIN4 := hid ((HIN2.out.row ((by (repeat first | with_reducible (first | exact zR | assumption | apply zA | apply zS | apply zD | apply zN) | refine zT (by with_reducible assumption) ?_ | omega | simp <;> omega) : Below w2.heap.size w2 _).mono hz2)).step hst4)
    have hz4 := HIN4.out.tch.size
    have hs4 := hst4.2.size
    simp at hs4
    obtain ⟨x0, x1, x2, _, _, _, l4⟩ := b_blk B4
    clear hst4
    go_wp2_with fail
    refine (HF.out _).mono ?_
    rintro r w5 ⟨rfl, rfl⟩
    go_wp2_with fail
    refine (HG.out _ HIN4.out.rd).mono ?_
    rintro r w6 ⟨rfl, hb6⟩
    have B6 := B4.later hb6
    have R6 := R4.later hb6
    have HIN6 := hid (HIN4.out.row (hb6.mono hz4))
    have hz6 := HIN6.out.tch.size
    have hl6 := B6.lt
    obtain ⟨y0, y1, y2, _, _, _, _⟩ := b_blk B6
    clear hb6
    go_wp2_with fail
    refine (HHD.out _ HIN6.out.rd).mono ?_
    rintro r w7 ⟨vv, uu, rfl, hH7, hst7⟩
    obtain ⟨av, cv, rfl⟩ := HeadsAt.formv hH7
    obtain ⟨au, cu, rfl⟩ := own_form hH7.szs
    have B7 : Blk w7 w2.heap.size 25 #[.int .u64 (e : Int), .int .u64 (p : Int), .slice none 0 0] := Blk.tch B6 hst7.2 (by omega)
    have R7 : Blk w7 w.heap.size 25 #[.int .u64 0, .int .u64 0, .slice none 0 0] := Blk.tch R6 hst7.2 (by omega)
    have HIN7 := hid (HIN6.out.step hst7)
    have hz7 := HIN7.out.tch.size
    have HV7 := hid hH7.out
    have HU7 := hid (hH7.ints HFN.out)
    have hz67 := hst7.2.size
    clear hH7 hst7
    go_wp2_with fail
    refine (rd_at _ HIN7.out.rd).mono ?_
    rintro r w8 ⟨rfl, rfl⟩
    go_wp2_with fail
    have HX7 := hid (HU.out.st _ _ _ HX.out (Nat.le_refl _) (HIN7.out.tch.mono fun b _ e => .inl e))
    rw [HU.out.ent]
    refine (HUC.out _ HIN7.out.rd HX7.out hz7 (HIN7.out.tch.mono fun b _ e => e ▸ HU.out.own)).mono ?_
    rintro r w9 ⟨v9, rfl, hD9, hRD9, hT9, hX9⟩
    obtain ⟨ad, cd, hfv, hD9', _⟩ := sl_form hD9
    simp only [List.cons.injEq, and_true] at hfv
    subst hfv
    have hnk : ∀ b, w.heap.size ≤ b → ¬ K b := fun b hb hk => by have := HU.out.lt b hk; omega
    have B9 : Blk w9 w2.heap.size 25 #[.int .u64 (e : Int), .int .u64 (p : Int), .slice none 0 0] := Blk.tch B7 hT9 (hnk _ hz2)
    have R9 : Blk w9 w.heap.size 25 #[.int .u64 0, .int .u64 0, .slice none 0 0] := Blk.tch R7 hT9 (hnk _ (Nat.le_refl _))
    have hz9 : w7.heap.size ≤ w9.heap.size := hT9.size
    have HT9 := hid ((HIN7.out.tch.mono fun b _ e => e ▸ HU.out.own : Tch K w w7).trans hT9 fun b _ e => e)
    have HH9 := hid (entriesW_entries (rEntriesW.mono (rEntriesW.keep HV7.out (w' := w9) fun b hb => hT9.block b hb.2 (hnk b (by omega))) (S' := (· < w9.heap.size)) fun b hb => by omega))
    have HS9 := hid (rI64s.mono (rI64s.keep HU7.out (w' := w9) fun b hb => hT9.block b hb.2 (hnk b (by omega))) (S' := (· < w9.heap.size)) fun b hb => by omega)
    have HD9 := hid (rBytes.mono hD9' (S' := (· < w9.heap.size)) fun b hb => hb.2)
    have HX9 := hid hX9
    have hIN9 : RdInv w9 w9 g B a s5 := RdInv.refl hRD9
    have HIN9 := hid hIN9
    clear hD9 hD9' hRD9 hT9 hX9 hIN9 HV7 HU7 B7 R7
    go_wp2_with fail
    refine (HDL.out _ av au ad _ _ _ cv cu cd HH9.out HS9.out HD9.out (by omega) (by omega) (fun h hh => ⟨by have := (HFN.out h hh).2.1; omega, fun z hz => by have := (HFN.out h hh).2.2 z hz; omega⟩)).mono ?_
    rintro r w10 ⟨v10, rfl, hE10, hb10⟩
    obtain ⟨ae, ce, hfe, _, _⟩ := sl_form (entriesW_entries hE10)
    simp only [List.cons.injEq, and_true] at hfe
    subst hfe
    have B10 := B9.later hb10
    have R10 := R9.later hb10
    have HIN10 := hid (HIN9.out.row hb10)
    have HE10 := hid hE10
    have hs10 := hb10.size
    have HB10 := hid hb10
    clear hE10 hb10 B9 R9
    go_wp2_with fail
    refine (rd_fail _ HIN10.out.rd 3 (s4.p : Int) (by omega)).mono ?_
    rintro r w12 ⟨rfl, hst12⟩
    have HTX : Hid (Tch (fun b => b = g ∨ w.heap.size ≤ b) w9 w12) := hid (((Tch.of_below (HB10.out.mono (by omega : w.heap.size ≤ w9.heap.size))).mono fun b _ h => .inr h).trans hst12.2 fun b _ h => .inl h)
    have R12 : Blk w12 w.heap.size 25 #[.int .u64 0, .int .u64 0, .slice none 0 0] := Blk.tch R10 hst12.2 (by omega)
    have HIN12 := hid (HIN10.out.step hst12)
    have hs12 := hst12.2.size
    clear hst12
    go_wp2_with fail
    refine (HG5.out _ HIN12.out.rd).mono ?_
    rintro r w11 ⟨rfl, hb11⟩
    have HB11 := hid hb11
    have R11 := R12.later hb11
    have RD11 := HIN12.out.rd.blk.later hb11
    have HRO := hid HIN12.out.rd.ok
    have hs11 := hb11.size
    obtain ⟨z0', z1', z2', f0, f1, f2, m11⟩ := b_blk R11
    clear hb11
    go_wp2
    have RF : Blk (((w11.setCell ⟨w.heap.size, 0, none⟩ (.int .u64 0)).setCell ⟨w.heap.size, 1, none⟩ (.int .u64 0)).setCell ⟨w.heap.size, 2, none⟩ (.slice none 0 0)) w.heap.size 25 #[.int .u64 0, .int .u64 0, .slice none 0 0] := ((R11.set 0 _).set 1 _).set 2 _
    obtain ⟨v0, v1, v2, _, _, _, lF⟩ := b_blk RF
    have hTF : Tch (fun b => b = g ∨ w.heap.size ≤ b) w9 (((w11.setCell ⟨w.heap.size, 0, none⟩ (.int .u64 0)).setCell ⟨w.heap.size, 1, none⟩ (.int .u64 0)).setCell ⟨w.heap.size, 2, none⟩ (.slice none 0 0)) := ((((Tch.trans (HTX.out) (Tch.of_below (HB11.out.mono (by omega : w.heap.size ≤ w12.heap.size))) fun b _ h => .inr h).setCell (fun _ => .inr (by dsimp only; omega)) _).setCell (fun _ => .inr (by dsimp only; omega)) _).setCell (fun _ => .inr (by dsimp only; omega)) _)
    have hTK : Tch K w (((w11.setCell ⟨w.heap.size, 0, none⟩ (.int .u64 0)).setCell ⟨w.heap.size, 1, none⟩ (.int .u64 0)).setCell ⟨w.heap.size, 2, none⟩ (.slice none 0 0)) := HT9.out.trans hTF fun b hb hle => by
     rcases hle with rfl | hle
     ·exact HU.out.own
     ·omega
    have hrd : RdAt (((w11.setCell ⟨w.heap.size, 0, none⟩ (.int .u64 0)).setCell ⟨w.heap.size, 1, none⟩ (.int .u64 0)).setCell ⟨w.heap.size, 2, none⟩ (.slice none 0 0)) g B a (s5.fail 3 (s4.p : Int)) := HU.out.rd hTK (Blk.far (Blk.far (Blk.far RD11 (by dsimp only; omega) _) (by dsimp only; omega) _) (by dsimp only; omega) _) HRO.out
    have hXF : X (((w11.setCell ⟨w.heap.size, 0, none⟩ (.int .u64 0)).setCell ⟨w.heap.size, 1, none⟩ (.int .u64 0)).setCell ⟨w.heap.size, 2, none⟩ (.slice none 0 0)) q := HU.out.st _ _ _ HX9.out (by omega) hTF
    refine bodyPost_ret (v := .agg #[.int .u64 0, .int .u64 0, .slice none 0 0]) (by simp [results, Tryz.results91, go_sem, v0, v1, v2, lF]) rfl ⟨_, q, rfl, ⟨none, 0, rfl, Nat.le_refl _, Nat.zero_le _, .inl rfl⟩, hrd, hTK, hXF, fun h0 => absurd h0 HK5.out⟩
  ·rw [if_neg hk3]
   have HG := hid (fun (W : World) (hW : RdAt W g B a s3) => (by have := rd_good W hW; rw [decide_eq_false hk3] at this; exact this : Calls Tryz.prog 96 #[.pointer (some ⟨g, 0, none⟩)] W fun r w' => r = .returned (.bool false) ∧ Below W.heap.size W w'))
   have HK5 := hid hk3
   clear hk3
   go_enter Tryz.func91, Tryz.ntmps91
   go_wp2_with fail
   refine (HEP.out _ (HIN.out.row (by (repeat first | with_reducible (first | exact zR | assumption | apply zA | apply zS | apply zD | apply zN) | refine zT (by with_reducible assumption) ?_ | omega | simp <;> omega))).rd).mono ?_
   rintro r w1 ⟨rfl, hst1⟩
   have R1 : Blk w1 w.heap.size 25 #[.int .u64 0, .int .u64 0, .slice none 0 0] := Blk.tch (by (repeat first | assumption | exact kW (by first | (simp; done) | (simp; omega)) | apply kA | apply kD | apply kN | apply kF | simp <;> omega)) hst1.2 (by omega)
   have HIN1 := hid ((HIN.out.row (by (repeat first | with_reducible (first | exact zR | assumption | apply zA | apply zS | apply zD | apply zN) | refine zT (by with_reducible assumption) ?_ | omega | simp <;> omega))).step hst1)
   have hz1 := HIN1.out.tch.size
   clear hst1
   go_wp2_with fail
   refine (HPO.out _ HIN1.out.rd).mono ?_
   rintro r w2 ⟨rfl, hst2⟩
   have R2 : Blk w2 w.heap.size 25 #[.int .u64 0, .int .u64 0, .slice none 0 0] := Blk.tch R1 hst2.2 (by omega)
   have HIN2 := hid (HIN1.out.step hst2)
   have hz2 := HIN2.out.tch.size
   have hr2 := R2.lt
   clear hst2 R1
   go_wp2_with fail
   refine (rd_at _ (HIN2.out.row ((by (repeat first | with_reducible (first | exact zR | assumption | apply zA | apply zS | apply zD | apply zN) | refine zT (by with_reducible assumption) ?_ | omega | simp <;> omega) : Below w2.heap.size w2 _).mono hz2)).rd).mono ?_
   rintro r w3 ⟨rfl, rfl⟩
   go_wp2_with fail
   refine (HIT.out _ (HIN2.out.row ((by (repeat first | with_reducible (first | exact zR | assumption | apply zA | apply zS | apply zD | apply zN) | refine zT (by with_reducible assumption) ?_ | omega | simp <;> omega) : Below w2.heap.size w2 _).mono hz2)).rd).mono ?_
   rintro r w4 ⟨rfl, hst4⟩
   have R4 : Blk w4 w.heap.size 25 #[.int .u64 0, .int .u64 0, .slice none 0 0] := Blk.tch (Blk.later R2 (by (repeat first | with_reducible (first | exact zR | assumption | apply zA | apply zS | apply zD | apply zN) | refine zT (by with_reducible assumption) ?_ | omega | simp <;> omega) : Below w2.heap.size w2 _)) hst4.2 (by omega)
   have B4 : Blk w4 w2.heap.size 25 #[.int .u64 (e : Int), .int .u64 (p : Int), .slice none 0 0] := Blk.tch (by (repeat first | assumption | exact kW (by first | (simp; done) | (simp; omega)) | apply kA | apply kD | apply kN | apply kF | simp <;> omega)) hst4.2 (by omega)
   have HIN4 := hid ((HIN2.out.row ((by (repeat first | with_reducible (first | exact zR | assumption | apply zA | apply zS | apply zD | apply zN) | refine zT (by with_reducible assumption) ?_ | omega | simp <;> omega) : Below w2.heap.size w2 _).mono hz2)).step hst4)
   have hz4 := HIN4.out.tch.size
   have hs4 := hst4.2.size
   simp at hs4
   obtain ⟨x0, x1, x2, _, _, _, l4⟩ := b_blk B4
   clear hst4
   go_wp2_with fail
   refine (HF.out _).mono ?_
   rintro r w5 ⟨rfl, rfl⟩
   go_wp2_with fail
   refine (HG.out _ HIN4.out.rd).mono ?_
   rintro r w6 ⟨rfl, hb6⟩
   have B6 := B4.later hb6
   have R6 := R4.later hb6
   have HIN6 := hid (HIN4.out.row (hb6.mono hz4))
   obtain ⟨y0, y1, y2, f0, f1, f2, l6⟩ := b_blk R6
   clear hb6
   go_wp2
   obtain ⟨v0, v1, v2, _, _, _, lF⟩ := b_blk (((R6.set 0 (.int .u64 0)).set 1 (.int .u64 0)).set 2 (.slice none 0 0))
   have hbF : Below w.heap.size w6 (((w6.setCell ⟨w.heap.size, 0, none⟩ (.int .u64 0)).setCell ⟨w.heap.size, 1, none⟩ (.int .u64 0)).setCell ⟨w.heap.size, 2, none⟩ (.slice none 0 0)) := by (repeat first | with_reducible (first | exact zR | assumption | apply zA | apply zS | apply zD | apply zN) | refine zT (by with_reducible assumption) ?_ | omega | simp <;> omega)
   have HINF := HIN6.out.row hbF
   refine bodyPost_ret (v := .agg #[.int .u64 0, .int .u64 0, .slice none 0 0]) (by simp [results, Tryz.results91, go_sem, v0, v1, v2, lF]) rfl ⟨_, false, rfl, ⟨none, 0, rfl, Nat.le_refl _, Nat.zero_le _, .inl rfl⟩, HINF.rd, HINF.tch.mono (fun b _ e => e ▸ HU.out.own), HU.out.st _ _ _ HX.out (Nat.le_refl _) (HINF.tch.mono fun b _ e => .inl e), fun e => absurd e HK5.out⟩
 ·rw [if_neg hfit]
  have HF := hid (fun (W : World) => (by have := batch_fits (p : Int) n W hp1 (by omega); rw [Bool.eq_false_iff.2 hfit] at this; exact this : Calls Tryz.prog 79 #[.int .u64 (p : Int), .int .i64 n] W fun r w' => r = .returned (.bool false) ∧ W = w'))
  have hk3 : (s3.fail 3 (s2.p : Int)).k ≠ 0 := Rs.fail_k (by omega)
  rw [if_neg hk3]
  have HG := hid (fun (W : World) (hW : RdAt W g B a (s3.fail 3 (s2.p : Int))) => (by have := rd_good W hW; rw [decide_eq_false hk3] at this; exact this : Calls Tryz.prog 96 #[.pointer (some ⟨g, 0, none⟩)] W fun r w' => r = .returned (.bool false) ∧ Below W.heap.size W w'))
  have HK5 := hid hk3
  clear hk3 hfit
  go_enter Tryz.func91, Tryz.ntmps91
  go_wp2_with fail
  refine (HEP.out _ (HIN.out.row (by (repeat first | with_reducible (first | exact zR | assumption | apply zA | apply zS | apply zD | apply zN) | refine zT (by with_reducible assumption) ?_ | omega | simp <;> omega))).rd).mono ?_
  rintro r w1 ⟨rfl, hst1⟩
  have R1 : Blk w1 w.heap.size 25 #[.int .u64 0, .int .u64 0, .slice none 0 0] := Blk.tch (by (repeat first | assumption | exact kW (by first | (simp; done) | (simp; omega)) | apply kA | apply kD | apply kN | apply kF | simp <;> omega)) hst1.2 (by omega)
  have HIN1 := hid ((HIN.out.row (by (repeat first | with_reducible (first | exact zR | assumption | apply zA | apply zS | apply zD | apply zN) | refine zT (by with_reducible assumption) ?_ | omega | simp <;> omega))).step hst1)
  have hz1 := HIN1.out.tch.size
  clear hst1
  go_wp2_with fail
  refine (HPO.out _ HIN1.out.rd).mono ?_
  rintro r w2 ⟨rfl, hst2⟩
  have R2 : Blk w2 w.heap.size 25 #[.int .u64 0, .int .u64 0, .slice none 0 0] := Blk.tch R1 hst2.2 (by omega)
  have HIN2 := hid (HIN1.out.step hst2)
  have hz2 := HIN2.out.tch.size
  have hr2 := R2.lt
  clear hst2 R1
  go_wp2_with fail
  refine (rd_at _ (HIN2.out.row ((by (repeat first | with_reducible (first | exact zR | assumption | apply zA | apply zS | apply zD | apply zN) | refine zT (by with_reducible assumption) ?_ | omega | simp <;> omega) : Below w2.heap.size w2 _).mono hz2)).rd).mono ?_
  rintro r w3 ⟨rfl, rfl⟩
  go_wp2_with fail
  refine (HIT.out _ (HIN2.out.row ((by (repeat first | with_reducible (first | exact zR | assumption | apply zA | apply zS | apply zD | apply zN) | refine zT (by with_reducible assumption) ?_ | omega | simp <;> omega) : Below w2.heap.size w2 _).mono hz2)).rd).mono ?_
  rintro r w4 ⟨rfl, hst4⟩
  have R4 : Blk w4 w.heap.size 25 #[.int .u64 0, .int .u64 0, .slice none 0 0] := Blk.tch (Blk.later R2 (by (repeat first | with_reducible (first | exact zR | assumption | apply zA | apply zS | apply zD | apply zN) | refine zT (by with_reducible assumption) ?_ | omega | simp <;> omega) : Below w2.heap.size w2 _)) hst4.2 (by omega)
  have B4 : Blk w4 w2.heap.size 25 #[.int .u64 (e : Int), .int .u64 (p : Int), .slice none 0 0] := Blk.tch (by (repeat first | assumption | exact kW (by first | (simp; done) | (simp; omega)) | apply kA | apply kD | apply kN | apply kF | simp <;> omega)) hst4.2 (by omega)
  have HIN4 := hid ((HIN2.out.row ((by (repeat first | with_reducible (first | exact zR | assumption | apply zA | apply zS | apply zD | apply zN) | refine zT (by with_reducible assumption) ?_ | omega | simp <;> omega) : Below w2.heap.size w2 _).mono hz2)).step hst4)
  have hz4 := HIN4.out.tch.size
  have hs4 := hst4.2.size
  simp at hs4
  obtain ⟨x0, x1, x2, _, _, _, l4⟩ := b_blk B4
  clear hst4
  go_wp2_with fail
  refine (HF.out _).mono ?_
  rintro r w5 ⟨rfl, rfl⟩
  go_wp2_with fail
  refine (rd_fail _ HIN4.out.rd 3 (s2.p : Int) (by omega)).mono ?_
  rintro r w7 ⟨rfl, hst7⟩
  have R7 : Blk w7 w.heap.size 25 #[.int .u64 0, .int .u64 0, .slice none 0 0] := Blk.tch R4 hst7.2 (by omega)
  have B7 : Blk w7 w2.heap.size 25 #[.int .u64 (e : Int), .int .u64 (p : Int), .slice none 0 0] := Blk.tch B4 hst7.2 (by omega)
  have HIN7 := hid (HIN4.out.step hst7)
  clear hst7
  go_wp2_with fail
  refine (HG.out _ HIN7.out.rd).mono ?_
  rintro r w6 ⟨rfl, hb6⟩
  have B6 := B7.later hb6
  have R6 := R7.later hb6
  have HIN6 := hid (HIN7.out.row (hb6.mono HIN7.out.tch.size))
  obtain ⟨y0, y1, y2, f0, f1, f2, l6⟩ := b_blk R6
  clear hb6
  go_wp2
  obtain ⟨v0, v1, v2, _, _, _, lF⟩ := b_blk (((R6.set 0 (.int .u64 0)).set 1 (.int .u64 0)).set 2 (.slice none 0 0))
  have hbF : Below w.heap.size w6 (((w6.setCell ⟨w.heap.size, 0, none⟩ (.int .u64 0)).setCell ⟨w.heap.size, 1, none⟩ (.int .u64 0)).setCell ⟨w.heap.size, 2, none⟩ (.slice none 0 0)) := by (repeat first | with_reducible (first | exact zR | assumption | apply zA | apply zS | apply zD | apply zN) | refine zT (by with_reducible assumption) ?_ | omega | simp <;> omega)
  have HINF := HIN6.out.row hbF
  refine bodyPost_ret (v := .agg #[.int .u64 0, .int .u64 0, .slice none 0 0]) (by simp [results, Tryz.results91, go_sem, v0, v1, v2, lF]) rfl ⟨_, false, rfl, ⟨none, 0, rfl, Nat.le_refl _, Nat.zero_le _, .inl rfl⟩, HINF.rd, HINF.tch.mono (fun b _ e => e ▸ HU.out.own), HU.out.st _ _ _ HX.out (Nat.le_refl _) (HINF.tch.mono fun b _ e => .inl e), fun e => absurd e HK5.out⟩
end Go.Proofs.YtkipiefcnjfdjaaGreat
namespace Go.Proofs.YtkipiefcnjfdjaaGreat
open Go.RowKit Go.Bs Go.Maps
set_option linter.unusedVariables false
set_option linter.unusedSimpArgs false
theorem Rs.int_of_bad {B : List UInt8} {s : Rs} {m : Int} (h : s.k ≠ 0) : s.int B m = (s, 0) := by
 unfold Rs.int Rs.most
 rw [Rs.num_of_bad h]
 split
 ·rw [if_neg (by dsimp only; omega)]
 ·rw [Rs.fail_of_bad h]
theorem Rs.delta_of_bad {B : List UInt8} {s : Rs} {pos m : Int} (h : s.k ≠ 0) : s.delta B pos m = (s, []) := by
 unfold Rs.delta
 rw [Rs.int_of_bad h]
 rfl
theorem Rs.byte_of_bad {B : List UInt8} {s : Rs} (h : s.k ≠ 0) : s.byte B = (s, 0) := by
 unfold Rs.byte
 rw [Rs.skip_of_bad h]
 rfl
theorem Rs.loose_of_bad {B : List UInt8} {s : Rs} {m : Int} (h : s.k ≠ 0) : s.loose B m = (s, [], false) := by
 unfold Rs.loose
 rw [Rs.int_of_bad h]
 dsimp only
 rw [Rs.byte_of_bad h]
 dsimp only
 rw [if_neg h]
end Go.Proofs.YtkipiefcnjfdjaaGreat
namespace Go.Proofs.YtkipiefcnjfdjaaGreat
open Go.RowKit Go.Bs Go.Maps
set_option linter.unusedVariables false
set_option linter.unusedSimpArgs false
theorem Rs.take_len {B : List UInt8} {s : Rs} {n : Int} : (s.take B n).2.length ≤ n.toNat := by
 unfold Rs.take
 split
 ·simp; omega
 ·simp
theorem Rs.loose_len {B : List UInt8} {s : Rs} {m : Int} : (s.loose B m).2.1.length ≤ 1048576 := by
 have h1 := Rs.int_le (B := B) (s := s) (m := min m 1048576)
 unfold Rs.loose
 split
 ·split
  ·split
   ·have := Rs.take_len (B := B) (s := ((s.int B (min m 1048576)).1.byte B).1) (n := ((s.int B (min m 1048576)).2 : Int))
    dsimp only
    omega
   ·simp
  ·split
   ·split
    ·have := Rs.unp_len (B := B) (s := ((s.int B (min m 1048576)).1.byte B).1) (s.int B (min m 1048576)).2
     dsimp only
     omega
    ·simp
   ·simp
 ·simp
theorem blkS_len {B : List UInt8} (t : Rs) : (blkS B t).2.1.length ≤ 1048576 := by
 have := Rs.loose_len (B := B) (s := t) (m := 1048576)
 unfold blkS Rs.strict
 dsimp only
 split
 ·split
  ·exact this
  ·simp
 ·simp
theorem Rs.batch_none {B : List UInt8} {blk : Rs → Rs × List UInt8 × Bool} {s : Rs} (h : (Rs.batch B blk s).1.k ≠ 0) : (Rs.batch B blk s).2 = (noBatch, false) := by
 unfold Rs.batch at *
 dsimp only at *
 by_cases h1 : (s.bfront B).1.k = 0
 ·simp only [if_pos h1] at h ⊢
  generalize Rs.bblock blk (Rs.heads B (s.bfront B).2.2.2 (s.bfront B).1 ((s.bfront B).2.2.1 : Int) 1048576 []) = U at *
  by_cases h2 : U.1.k = 0
  ·simp only [if_pos h2] at h ⊢
   exact absurd h2 h
  ·simp only [if_neg h2]
 ·simp only [if_neg h1]
set_option maxRecDepth 100000 in
theorem batch_read1 (w : World) {g p : Nat} {B : List UInt8} {a : Option Addr} {s : Rs} (h : RdAt w g B a s) (hB : B.length ≤ 1000000000) (hp : Blk w p 42 #[.pointer (some ⟨g, 0, none⟩)]) :
  Calls Tryz.prog 92 #[.pointer (some ⟨p, 0, none⟩)] w fun r w' => ∃ v, r = .returned v ∧ rBytes.r (Fresh w w') w' [v] (blkS B s).2.1 ∧ RdStep w g B a (blkS B s).1 w' := by
 have HB := hid (block_read w h hB 1048576 (by omega))
 have x0 : w.cell? ⟨p, 0, none⟩ = some (.pointer (some ⟨g, 0, none⟩)) := hp.cell 0
 unfold blkS
 dsimp only
 generalize Rs.strict (s.loose B 1048576) = T at *
 obtain ⟨s1, D⟩ := T
 dsimp only at *
 clear h hp
 go_enter Tryz.func92, Tryz.ntmps92
 go_wp2_with fail
 refine HB.out.mono ?_
 rintro r w1 ⟨v, rfl, hv, hst⟩
 obtain ⟨a1, c1, hfv, hv2, _⟩ := sl_form hv
 simp only [List.cons.injEq, and_true] at hfv
 subst hfv
 have HV := hid hv2
 have HS := hid hst
 clear hv hv2 hst
 go_wp2
 go_ret
 exact ⟨_, rfl, HV.out, HS.out⟩
set_option maxRecDepth 100000 in
theorem batch_readloose1 (w : World) {g p q : Nat} {B : List UInt8} {a : Option Addr} {s : Rs} (h : RdAt w g B a s) (hB : B.length ≤ 1000000000) (hp : Blk w p 42 #[.pointer (some ⟨g, 0, none⟩)]) {o : Bool} (hq : Blk w q 4 #[.bool o]) (hne : q ≠ g ∧ p ≠ q ∧ p ≠ g)
  (hd : rBytes.r (fun x => x < w.heap.size ∧ ¬ (x = g ∨ x = q)) w [.slice a B.length B.length] B) :
  Calls Tryz.prog 94 #[.pointer (some ⟨p, 0, none⟩), .pointer (some ⟨q, 0, none⟩)] w fun r w' => ∃ v, r = .returned v ∧ rBytes.r (Fresh w w') w' [v] (blkL B s).2.1 ∧ RdAt w' g B a (blkL B s).1 ∧ Tch (fun x => x = g ∨ x = q) w w' ∧ Blk w' p 42 #[.pointer (some ⟨g, 0, none⟩)] ∧ Blk w' q 4 #[.bool (blkL B s).2.2] := by
 have HB := hid (block_loose w h hB 1048576 (by omega))
 have x0 : w.cell? ⟨p, 0, none⟩ = some (.pointer (some ⟨g, 0, none⟩)) := hp.cell 0
 obtain ⟨n1, n2, n3⟩ := hne
 have HP := hid hp
 have HQ := hid hq
 have HD := hid hd
 have lq := hq.lt
 have lp := hp.lt
 unfold blkL
 generalize s.loose B 1048576 = T at *
 obtain ⟨s1, D, z⟩ := T
 dsimp only at *
 clear h hp hq hd
 go_enter Tryz.func94, Tryz.ntmps94
 go_wp2_with fail
 refine HB.out.mono ?_
 rintro r w1 ⟨v, rfl, hv, hst⟩
 obtain ⟨a1, c1, hfv, hv2, _⟩ := sl_form hv
 simp only [List.cons.injEq, and_true] at hfv
 subst hfv
 have Q1 := HQ.out.tch hst.2 (by omega)
 have P1 := HP.out.tch hst.2 (by omega)
 have q0 : w1.cell? ⟨q, 0, none⟩ = some (.bool o) := Q1.cell 0
 have q1 := Q1.free 0
 have HV := hid hv2
 have HS := hid hst
 clear hv hv2 hst
 go_wp2
 go_ret
 have hT : Tch (fun x => x = g ∨ x = q) w (w1.setCell ⟨q, 0, none⟩ (.bool z)) := (HS.out.2.mono fun b _ e => .inl e).setCell (fun _ => .inr rfl) _
 refine ⟨_, rfl, ?_, ⟨Blk.far HS.out.1.blk (by dsimp only; omega) _, rBytes.mono (rBytes.keep HD.out fun x hx => hT.block x hx.1 hx.2) fun x hx => ⟨Nat.lt_of_lt_of_le hx.1 hT.size, fun e => hx.2 (.inl e)⟩, HS.out.1.ok⟩, hT, Blk.far P1 (by dsimp only; omega) _, Q1.set 0 _⟩
 refine rBytes.mono (rBytes.keep HV.out fun x hx => Below.heap_setCell _ _ _ _ (by have := hx.1; dsimp only; omega)) fun x hx => ⟨hx.1, by simpa using hx.2⟩
set_option maxRecDepth 100000 in
set_option maxHeartbeats 3200000 in
theorem batch_read (w : World) {g : Nat} {B : List UInt8} {a : Option Addr} {s : Rs} (h : RdAt w g B a s) (hB : B.length ≤ 1000000000) :
  Calls Tryz.prog 31 #[.pointer (some ⟨g, 0, none⟩)] w fun r w' => ∃ v, r = .returned (.agg #[.int .u64 (Rs.batch B (blkS B) s).2.1.epoch, .int .u64 (Rs.batch B (blkS B) s).2.1.base, v]) ∧ rEntriesW.r (Fresh w w') w' [v] (Rs.batch B (blkS B) s).2.1.entries ∧ RdStep w g B a (Rs.batch B (blkS B) s).1 w' := by
 have hlt := h.blk.lt
 have HIN := hid (RdInv.refl h)
 clear h
 generalize hZ : Rs.batch B (blkS B) s = Z
 have HZ := hid hZ
 clear hZ
 obtain ⟨s1, b, q⟩ := Z
 obtain ⟨e, p, E⟩ := b
 dsimp only at *
 go_enter Tryz.func31, Tryz.ntmps31
 go_wp2_with fail
 have hbw : Below w.heap.size w ((w.alloc (.cells #[.pointer (some ⟨g, 0, none⟩)] 42)).alloc (.cells #[.int .u64 0, .int .u64 0, .slice none 0 0] 25)) := by (repeat first | with_reducible (first | exact zR | assumption | apply zA | apply zS | apply zD | apply zN) | refine zT (by with_reducible assumption) ?_ | omega | simp <;> omega)
 have R0 : Blk ((w.alloc (.cells #[.pointer (some ⟨g, 0, none⟩)] 42)).alloc (.cells #[.int .u64 0, .int .u64 0, .slice none 0 0] 25)) (w.heap.size + 1) 25 #[.int .u64 0, .int .u64 0, .slice none 0 0] := by (repeat first | assumption | exact kW (by first | (simp; done) | (simp; omega)) | apply kA | apply kD | apply kN | apply kF | simp <;> omega)
 have P0 : Blk ((w.alloc (.cells #[.pointer (some ⟨g, 0, none⟩)] 42)).alloc (.cells #[.int .u64 0, .int .u64 0, .slice none 0 0] 25)) w.heap.size 42 #[.pointer (some ⟨g, 0, none⟩)] := by (repeat first | assumption | exact kW (by first | (simp; done) | (simp; omega)) | apply kA | apply kD | apply kN | apply kF | simp <;> omega)
 have HIN0 := hid (HIN.out.row hbw)
 have hsz : ((w.alloc (.cells #[.pointer (some ⟨g, 0, none⟩)] 42)).alloc (.cells #[.int .u64 0, .int .u64 0, .slice none 0 0] 25)).heap.size = w.heap.size + 2 := by simp
 have HBW := hid hbw
 clear hbw
 generalize ((w.alloc (.cells #[.pointer (some ⟨g, 0, none⟩)] 42)).alloc (.cells #[.int .u64 0, .int .u64 0, .slice none 0 0] 25)) = W at *
 have hU : Unblock W g B a 92 #[.pointer (some ⟨w.heap.size, 0, none⟩)] (blkS B) (· = g) (fun V _ => Blk V w.heap.size 42 #[.pointer (some ⟨g, 0, none⟩)]) := {
  lt := fun b e => by omega
  own := rfl
  st := fun V V' q hv hs ht => Blk.tch hv ht (by omega)
  call := fun V t hV hX hs ht => (batch_read1 V hV hB hX).mono fun r V' ⟨v, h1, h2, h3⟩ => ⟨v, h1, h2, h3.1, h3.2, Blk.tch hX h3.2 (by omega)⟩
  size := blkS_len
  dat := HIN0.out.rd.dat
  ent := fun xs V => by go_simp }
 have hC := batch_read_gen W HIN0.out.rd hB _ _ _ _ _ hU P0
 rw [HZ.out] at hC
 have HC := hid hC
 clear hU P0 hC
 refine HC.out.mono ?_
 rintro r w1 ⟨v, q1, rfl, hv, hrd, ht, _, _⟩
 obtain ⟨a1, c1, hfv, _, _⟩ := sl_form (entriesW_entries hv)
 simp only [List.cons.injEq, and_true] at hfv
 subst hfv
 have R1 := R0.tch ht (by omega)
 have hs1 := ht.size
 have HIN1 := hid (HIN0.out.step ⟨hrd, ht⟩)
 have HV := hid hv
 obtain ⟨x0, x1, x2, f0, f1, f2, l1⟩ := b_blk R1
 clear hv hrd ht
 go_wp2
 obtain ⟨v0, v1, v2, _, _, _, lF⟩ := b_blk (((R1.set 0 (.int .u64 e)).set 1 (.int .u64 p)).set 2 (.slice a1 E.length c1))
 have hbF : Below w.heap.size w1 (((w1.setCell ⟨w.heap.size + 1, 0, none⟩ (.int .u64 e)).setCell ⟨w.heap.size + 1, 1, none⟩ (.int .u64 p)).setCell ⟨w.heap.size + 1, 2, none⟩ (.slice a1 E.length c1)) := by (repeat first | with_reducible (first | exact zR | assumption | apply zA | apply zS | apply zD | apply zN) | refine zT (by with_reducible assumption) ?_ | omega | simp <;> omega)
 refine bodyPost_ret (v := .agg #[.int .u64 e, .int .u64 p, .slice a1 E.length c1]) (by simp [results, Tryz.results31, go_sem, v0, v1, v2, lF]) rfl ⟨_, rfl, ?_, (HIN1.out.row hbF).to⟩
 refine rEntriesW.mono (rEntriesW.keep HV.out fun b hb => ?_) fun b hb => ⟨by have := hb.1; omega, by have := hb.2; simp; omega⟩
 have := hb.1
 repeat rw [Below.heap_setCell _ _ _ _ (by dsimp only; omega)]
set_option maxRecDepth 100000 in
set_option maxHeartbeats 6400000 in
theorem batch_readloose (w : World) {g : Nat} {B : List UInt8} {a : Option Addr} {s : Rs} (h : RdAt w g B a s) (hB : B.length ≤ 1000000000) :
  Calls Tryz.prog 32 #[.pointer (some ⟨g, 0, none⟩)] w fun r w' => ∃ v, r = .returned (.tuple #[.agg #[.int .u64 (Rs.batch B (blkL B) s).2.1.epoch, .int .u64 (Rs.batch B (blkL B) s).2.1.base, v], .bool (Rs.batch B (blkL B) s).2.2]) ∧ rEntriesW.r (Fresh w w') w' [v] (Rs.batch B (blkL B) s).2.1.entries ∧ RdStep w g B a (Rs.batch B (blkL B) s).1 w' := by
 have hlt := h.blk.lt
 have HIN := hid (RdInv.refl h)
 clear h
 have hbad := Rs.batch_none (B := B) (blk := blkL B) (s := s)
 generalize hZ : Rs.batch B (blkL B) s = Z at *
 have HZ := hid hZ
 clear hZ
 obtain ⟨s1, b, q⟩ := Z
 obtain ⟨e, p, E⟩ := b
 dsimp only at *
 have hq0 : s1.k ≠ 0 → q = false := fun hk => congrArg Prod.snd (hbad hk)
 clear hbad
 go_enter Tryz.func32, Tryz.ntmps32
 go_wp2_with fail
 have hbw : Below w.heap.size w (((w.alloc (.cells #[.pointer (some ⟨g, 0, none⟩)] 42)).alloc (.cells #[.int .u64 0, .int .u64 0, .slice none 0 0] 25)).alloc (.cells #[.bool false] 4)) := by (repeat first | with_reducible (first | exact zR | assumption | apply zA | apply zS | apply zD | apply zN) | refine zT (by with_reducible assumption) ?_ | omega | simp <;> omega)
 have R0 : Blk (((w.alloc (.cells #[.pointer (some ⟨g, 0, none⟩)] 42)).alloc (.cells #[.int .u64 0, .int .u64 0, .slice none 0 0] 25)).alloc (.cells #[.bool false] 4)) (w.heap.size + 1) 25 #[.int .u64 0, .int .u64 0, .slice none 0 0] := by (repeat first | assumption | exact kW (by first | (simp; done) | (simp; omega)) | apply kA | apply kD | apply kN | apply kF | simp <;> omega)
 have P0 : Blk (((w.alloc (.cells #[.pointer (some ⟨g, 0, none⟩)] 42)).alloc (.cells #[.int .u64 0, .int .u64 0, .slice none 0 0] 25)).alloc (.cells #[.bool false] 4)) w.heap.size 42 #[.pointer (some ⟨g, 0, none⟩)] := by (repeat first | assumption | exact kW (by first | (simp; done) | (simp; omega)) | apply kA | apply kD | apply kN | apply kF | simp <;> omega)
 have Q0 : Blk (((w.alloc (.cells #[.pointer (some ⟨g, 0, none⟩)] 42)).alloc (.cells #[.int .u64 0, .int .u64 0, .slice none 0 0] 25)).alloc (.cells #[.bool false] 4)) (w.heap.size + 1 + 1) 4 #[.bool false] := by (repeat first | assumption | exact kW (by first | (simp; done) | (simp; omega)) | apply kA | apply kD | apply kN | apply kF | simp <;> omega)
 have HIN0 := hid (HIN.out.row hbw)
 have hsz : ((((w.alloc (.cells #[.pointer (some ⟨g, 0, none⟩)] 42)).alloc (.cells #[.int .u64 0, .int .u64 0, .slice none 0 0] 25)).alloc (.cells #[.bool false] 4))).heap.size = w.heap.size + 3 := by simp
 have HBW := hid hbw
 clear hbw
 generalize (((w.alloc (.cells #[.pointer (some ⟨g, 0, none⟩)] 42)).alloc (.cells #[.int .u64 0, .int .u64 0, .slice none 0 0] 25)).alloc (.cells #[.bool false] 4)) = W at *
 have hU : Unblock W g B a 94 #[.pointer (some ⟨w.heap.size, 0, none⟩), .pointer (some ⟨w.heap.size + 1 + 1, 0, none⟩)] (blkL B) (fun x => x = g ∨ x = w.heap.size + 1 + 1) (fun V q => Blk V w.heap.size 42 #[.pointer (some ⟨g, 0, none⟩)] ∧ Blk V (w.heap.size + 1 + 1) 4 #[.bool q]) := by
  have hdat : rBytes.r (fun x => x < W.heap.size ∧ ¬ (x = g ∨ x = w.heap.size + 1 + 1)) W [.slice a B.length B.length] B := rBytes.mono HIN0.out.dat fun x hx => ⟨by omega, fun e => e.elim (fun e => hx.2 e) fun e => by omega⟩
  exact {
   lt := fun b e => by omega
   own := .inl rfl
   st := fun V V' q hv hs ht => ⟨Blk.tch hv.1 ht (by omega), Blk.tch hv.2 ht (by omega)⟩
   call := fun V t hV hX hs ht => (batch_readloose1 V hV hB hX.1 hX.2 (by omega) (rBytes.mono (rBytes.keep hdat fun x hx => ht.block x hx.1 hx.2) fun x hx => ⟨by omega, hx.2⟩)).mono fun r V' ⟨v, h1, h2, h3, h4, h5, h6⟩ => ⟨v, h1, h2, h3, h4, h5, h6⟩
   size := fun t => Rs.loose_len
   dat := hdat
   ent := fun xs V => by go_simp }
 have hC := batch_read_gen W HIN0.out.rd hB _ _ _ _ _ hU ⟨P0, Q0⟩
 rw [HZ.out] at hC
 have HC := hid hC
 clear hU P0 Q0 hC
 refine HC.out.mono ?_
 rintro r w1 ⟨v, q1, rfl, hv, hrd, ht, ⟨P1, Q1⟩, hq1⟩
 dsimp only at hrd hq1 hv
 obtain ⟨a1, c1, hfv, _, _⟩ := sl_form (entriesW_entries hv)
 simp only [List.cons.injEq, and_true] at hfv
 subst hfv
 have R1 := R0.tch ht (by omega)
 have hs1 := ht.size
 have HV := hid hv
 have HRD := hid hrd
 have hb01 : Below w.heap.size W w1 ∨ True := .inr trivial
 have HT := hid (HBW.out)
 have hTw : Tch (· = g) w w1 := (Tch.of_later (F := (· = g)) (HBW.out)).trans ht fun b hb e => by omega
 have HTW := hid hTw
 have lr := R1.lt; have lp := P1.lt; have lq := Q1.lt
 clear hv hrd ht hb01 hTw HT
 have SK := hid (fun (w' : World) (h0 : Blk w' w1.heap.size 25 #[.int .u64 e, .int .u64 p, .slice a1 E.length c1]) (h2 : Blk w' w.heap.size 42 #[.pointer (some ⟨g, 0, none⟩)]) (h3 : Blk w' (w.heap.size + 1 + 1) 4 #[.bool q1]) => (⟨h0.cell 0, h0.cell 1, h0.cell 2, h2.cell 0, h3.cell 0⟩ : w'.cell? ⟨w1.heap.size, 0, none⟩ = some (.int .u64 e) ∧ w'.cell? ⟨w1.heap.size, 1, none⟩ = some (.int .u64 p) ∧ w'.cell? ⟨w1.heap.size, 2, none⟩ = some (.slice a1 E.length c1) ∧ w'.cell? ⟨w.heap.size, 0, none⟩ = some (.pointer (some ⟨g, 0, none⟩)) ∧ w'.cell? ⟨w.heap.size + 1 + 1, 0, none⟩ = some (.bool q1)))
 have E2 : Blk (w1.alloc (.cells #[.int .u64 e, .int .u64 p, .slice a1 E.length c1] 25)) w1.heap.size 25 #[.int .u64 e, .int .u64 p, .slice a1 E.length c1] := Blk.newAt _ _ _ rfl
 have P2 : Blk (w1.alloc (.cells #[.int .u64 e, .int .u64 p, .slice a1 E.length c1] 25)) w.heap.size 42 #[.pointer (some ⟨g, 0, none⟩)] := P1.alloc _
 have Q2 : Blk (w1.alloc (.cells #[.int .u64 e, .int .u64 p, .slice a1 E.length c1] 25)) (w.heap.size + 1 + 1) 4 #[.bool q1] := Q1.alloc _
 have R2 : Blk (w1.alloc (.cells #[.int .u64 e, .int .u64 p, .slice a1 E.length c1] 25)) (w.heap.size + 1) 25 #[.int .u64 0, .int .u64 0, .slice none 0 0] := R1.alloc _
 have hg1 : g < w1.heap.size := by omega
 have HRD2 := hid (HRD.out.later (show Below w1.heap.size w1 (w1.alloc (.cells #[.int .u64 e, .int .u64 p, .slice a1 E.length c1] 25)) from by (repeat first | with_reducible (first | exact zR | assumption | apply zA | apply zS | apply zD | apply zN) | refine zT (by with_reducible assumption) ?_ | omega | simp <;> omega)))
 have HS2 := hid (SK.out (w1.alloc (.cells #[.int .u64 e, .int .u64 p, .slice a1 E.length c1] 25)) E2 P2 Q2)
 have HB12 := hid (show Below w1.heap.size w1 (w1.alloc (.cells #[.int .u64 e, .int .u64 p, .slice a1 E.length c1] 25)) from by (repeat first | with_reducible (first | exact zR | assumption | apply zA | apply zS | apply zD | apply zN) | refine zT (by with_reducible assumption) ?_ | omega | simp <;> omega))
 have hz2 : ((w1.alloc (.cells #[.int .u64 e, .int .u64 p, .slice a1 E.length c1] 25))).heap.size = w1.heap.size + 1 := by simp
 clear P1 Q1 R1 R0
 go_wp2_with fail
 generalize (w1.alloc (.cells #[.int .u64 e, .int .u64 p, .slice a1 E.length c1] 25)) = w2 at *
 cases q1
 ·have hqf : q = false := by
   by_cases hk : s1.k = 0
   ·exact (hq1 hk).symm
   ·exact hq0 hk
  subst hqf
  clear hq1 hq0
  obtain ⟨r0, r1, r2, t0, t1, t2, rl⟩ := b_blk R2
  refine wp_region_held_drew (S := fun w' => w'.cell? ⟨w1.heap.size, 0, none⟩ = some (.int .u64 e) ∧ w'.cell? ⟨w1.heap.size, 1, none⟩ = some (.int .u64 p) ∧ w'.cell? ⟨w1.heap.size, 2, none⟩ = some (.slice a1 E.length c1) ∧ w'.cell? ⟨w.heap.size, 0, none⟩ = some (.pointer (some ⟨g, 0, none⟩)) ∧ w'.cell? ⟨w.heap.size + 1 + 1, 0, none⟩ = some (.bool false)) (by kernel_rfl) HS2.out (fun hHeld => ?_)
  refine wpAnyH_take (i := 0) (oi := _) (v := ?_) rfl (by decide +kernel) (by decide +kernel) (by decide +kernel) (fun _ _ _ h => h) (Or.inl ⟨by rfl, ?_⟩) (by assumption) ?_
  rotate_left
  ·(intro w hSw; (try dsimp only at hSw); go_simp <;> with_reducible rfl)
  (try simp only [Act.put, List.setIfInBounds_toArray, List.set_cons_zero, List.set_cons_succ])
  refine wpAnyH_take (i := 1) (oi := _) (v := ?_) rfl (by decide +kernel) (by decide +kernel) (by decide +kernel) (fun _ _ _ h => h) (Or.inl ⟨by rfl, ?_⟩) (by assumption) ?_
  rotate_left
  ·(intro w hSw; (try dsimp only at hSw); go_simp <;> with_reducible rfl)
  (try simp only [Act.put, List.setIfInBounds_toArray, List.set_cons_zero, List.set_cons_succ])
  refine wpAnyH_take (i := 2) (oi := _) (v := ?_) rfl (by decide +kernel) (by decide +kernel) (by decide +kernel) (fun _ _ _ h => h) (Or.inl ⟨by rfl, ?_⟩) (by assumption) ?_
  rotate_left
  ·(intro w hSw; (try dsimp only at hSw); go_simp <;> with_reducible rfl)
  (try simp only [Act.put, List.setIfInBounds_toArray, List.set_cons_zero, List.set_cons_succ])
  refine wpAnyH_take (i := 3) (oi := _) (v := undef) rfl (by decide +kernel) (by decide +kernel) (by decide +kernel) (fun _ _ _ h => h) (Or.inr ⟨by kernel_rfl, rfl⟩) (by assumption) ?_
  (try simp only [Act.put, List.setIfInBounds_toArray, List.set_cons_zero, List.set_cons_succ])
  refine wpAnyH_take (i := 4) (oi := _) (v := undef) rfl (by decide +kernel) (by decide +kernel) (by decide +kernel) (fun _ _ _ h => h) (Or.inr ⟨by kernel_rfl, rfl⟩) (by assumption) ?_
  (try simp only [Act.put, List.setIfInBounds_toArray, List.set_cons_zero, List.set_cons_succ])
  refine wpAnyH_take (i := 5) (oi := _) (v := ?_) rfl (by decide +kernel) (by decide +kernel) (by decide +kernel) (fun _ _ _ h => h) (Or.inl ⟨by kernel_rfl, ?_⟩) (by assumption) ?_
  rotate_left
  ·(intro w hSw; (try dsimp only at hSw); go_simp <;> with_reducible rfl)
  (try simp only [Act.put, List.setIfInBounds_toArray, List.set_cons_zero, List.set_cons_succ])
  refine wpAnyH_ready (rs := [6]) (by decide +kernel) (by simp) ?_
  refine AllReadyH.cons (o := _) rfl (fun K hK => ?_) AllReadyH.nil
  go_simp
  refine hK.out _ _ ?_ (fun hHeld => ?_)
  ·exact SK.out _ (by repeat (first | with_reducible assumption | with_reducible refine Blk.drew ?_ | with_reducible refine Blk.far ?_ (by dsimp only; omega) _)) (by repeat (first | with_reducible assumption | with_reducible refine Blk.drew ?_ | with_reducible refine Blk.far ?_ (by dsimp only; omega) _)) (by repeat (first | with_reducible assumption | with_reducible refine Blk.drew ?_ | with_reducible refine Blk.far ?_ (by dsimp only; omega) _))
  clear hK K
  (try simp only [Act.put, List.setIfInBounds_toArray, List.set_cons_zero, List.set_cons_succ])
  refine wpAnyH_take (i := 7) (oi := _) (v := ?_) rfl (by decide +kernel) (by decide +kernel) (by decide +kernel) (fun _ _ _ h => h) (Or.inl ⟨by rfl, ?_⟩) (by assumption) ?_
  rotate_left
  ·(intro w hSw; (try dsimp only at hSw); go_simp <;> with_reducible rfl)
  (try simp only [Act.put, List.setIfInBounds_toArray, List.set_cons_zero, List.set_cons_succ])
  simp only [List.getElem_toArray, List.getElem_cons_zero, List.getElem_cons_succ, Act.put, List.setIfInBounds_toArray, List.set_cons_zero, List.set_cons_succ]
  refine wpAnyH_done (by kernel_rfl) ?_ _
  go_wp2
  obtain ⟨v0, v1, v2, _, _, _, lF⟩ := b_blk (((R2.set 0 (.int .u64 e)).set 1 (.int .u64 p)).set 2 (.slice a1 E.length c1)).drew
  have hbF : Below w.heap.size w1 (((w2.setCell ⟨w.heap.size + 1, 0, none⟩ (.int .u64 e)).setCell ⟨w.heap.size + 1, 1, none⟩ (.int .u64 p)).setCell ⟨w.heap.size + 1, 2, none⟩ (.slice a1 E.length c1)).drew := by
   have hb17' := HB12.out.mono (show w.heap.size ≤ w1.heap.size by omega)
   exact (((hb17'.setCell (by dsimp only; omega) _).setCell (by dsimp only; omega) _).setCell (by dsimp only; omega) _).drew
  have hdF := hbF.size
  refine bodyPost_ret (v := .tuple #[.agg #[.int .u64 e, .int .u64 p, .slice a1 E.length c1], .bool false]) (by simp [results, Tryz.results32, go_sem, v0, v1, v2, lF]) rfl ⟨_, rfl, ?_, ⟨HRD.out.blk.below hbF hlt, rBytes.mono (rBytes.keep HIN0.out.dat fun x hx => (hbF.block x hx.1).trans ((HTW.out.block x hx.1 hx.2).trans (HBW.out.block x hx.1).symm)) fun x hx => ⟨by omega, hx.2⟩, HRD.out.ok⟩, HTW.out.trans (Tch.of_below hbF) fun b hb hle => by omega⟩
  refine rEntriesW.mono (rEntriesW.keep HV.out fun b hb => ?_) fun b hb => ⟨by have := hb.1; omega, by have := hb.2; omega⟩
  have := hb.1
  have := hb.2
  have e1 : ∀ V : World, V.drew.heap[b]? = V.heap[b]? := fun V => rfl
  (try rw [e1])
  (repeat rw [Below.heap_setCell _ _ _ _ (by dsimp only; omega)])
  exact HB12.out.block b (by omega)
 ·have hqf : decide (s1.k = 0) = q := by
   by_cases hk : s1.k = 0
   ·rw [decide_eq_true hk]; exact hq1 hk
   ·rw [decide_eq_false hk]; exact (hq0 hk).symm
  have HG := hid (fun (V : World) (hV : RdAt V g B a s1) => (by have := rd_good V hV; rw [hqf] at this; exact this : Calls Tryz.prog 96 #[.pointer (some ⟨g, 0, none⟩)] V fun r w' => r = .returned (.bool q) ∧ Below V.heap.size V w'))
  have HRD3 := hid (HRD2.out.later (show Below _ w2 w2.drew from (Below.refl _ _).drew))
  clear hq1 hq0 hqf
  refine wp_region_held_drew (S := fun w' => w'.cell? ⟨w1.heap.size, 0, none⟩ = some (.int .u64 e) ∧ w'.cell? ⟨w1.heap.size, 1, none⟩ = some (.int .u64 p) ∧ w'.cell? ⟨w1.heap.size, 2, none⟩ = some (.slice a1 E.length c1) ∧ w'.cell? ⟨w.heap.size, 0, none⟩ = some (.pointer (some ⟨g, 0, none⟩)) ∧ w'.cell? ⟨w.heap.size + 1 + 1, 0, none⟩ = some (.bool true)) (by kernel_rfl) HS2.out (fun hHeld => ?_)
  refine wpAnyH_take (i := 0) (oi := _) (v := ?_) rfl (by decide +kernel) (by decide +kernel) (by decide +kernel) (fun _ _ _ h => h) (Or.inl ⟨by rfl, ?_⟩) (by assumption) ?_
  rotate_left
  ·(intro w hSw; (try dsimp only at hSw); go_simp <;> with_reducible rfl)
  (try simp only [Act.put, List.setIfInBounds_toArray, List.set_cons_zero, List.set_cons_succ])
  refine wpAnyH_take (i := 1) (oi := _) (v := ?_) rfl (by decide +kernel) (by decide +kernel) (by decide +kernel) (fun _ _ _ h => h) (Or.inl ⟨by rfl, ?_⟩) (by assumption) ?_
  rotate_left
  ·(intro w hSw; (try dsimp only at hSw); go_simp <;> with_reducible rfl)
  (try simp only [Act.put, List.setIfInBounds_toArray, List.set_cons_zero, List.set_cons_succ])
  refine wpAnyH_take (i := 2) (oi := _) (v := ?_) rfl (by decide +kernel) (by decide +kernel) (by decide +kernel) (fun _ _ _ h => h) (Or.inl ⟨by rfl, ?_⟩) (by assumption) ?_
  rotate_left
  ·(intro w hSw; (try dsimp only at hSw); go_simp <;> with_reducible rfl)
  (try simp only [Act.put, List.setIfInBounds_toArray, List.set_cons_zero, List.set_cons_succ])
  refine wpAnyH_take (i := 3) (oi := _) (v := ?_) rfl (by decide +kernel) (by decide +kernel) (by decide +kernel) (fun _ _ _ h => h) (Or.inl ⟨by kernel_rfl, ?_⟩) (by assumption) ?_
  rotate_left
  ·(intro w hSw; (try dsimp only at hSw); go_simp <;> with_reducible rfl)
  (try simp only [Act.put, List.setIfInBounds_toArray, List.set_cons_zero, List.set_cons_succ])
  refine wpAnyH_ready (rs := [4]) (by decide +kernel) (by simp) ?_
  refine AllReadyH.cons (o := _) rfl (fun K hK => ?_) AllReadyH.nil
  (go_simp; go_at_call 96; refine (HG.out _ HRD3.out).mono ?_; rintro e1 w7 ⟨rfl, hb7⟩; have E7 := E2.drew.later hb7; have P7 := P2.drew.later hb7; have Q7 := Q2.drew.later hb7; have R7 := R2.drew.later hb7; have HB7 := hid hb7; have hs7 : w1.heap.size + 1 ≤ w7.heap.size := (by have := hb7.size; simp at this; omega); obtain ⟨r0, r1, r2, t0, t1, t2, rl⟩ := b_blk R7; clear E2 P2 Q2 R2 hb7; (try dsimp only))
  refine hK.out _ _ ?_ (fun hHeld => ?_)
  ·exact SK.out _ (by repeat (first | with_reducible assumption | with_reducible refine Blk.drew ?_ | with_reducible refine Blk.far ?_ (by dsimp only; omega) _)) (by repeat (first | with_reducible assumption | with_reducible refine Blk.drew ?_ | with_reducible refine Blk.far ?_ (by dsimp only; omega) _)) (by repeat (first | with_reducible assumption | with_reducible refine Blk.drew ?_ | with_reducible refine Blk.far ?_ (by dsimp only; omega) _))
  clear hK K
  (try simp only [Act.put, List.setIfInBounds_toArray, List.set_cons_zero, List.set_cons_succ])
  refine wpAnyH_take (i := 5) (oi := _) (v := ?_) rfl (by decide +kernel) (by decide +kernel) (by decide +kernel) (fun _ _ _ h => h) (Or.inl ⟨by kernel_rfl, ?_⟩) (by assumption) ?_
  rotate_left
  ·(intro w hSw; (try dsimp only at hSw); go_simp <;> with_reducible rfl)
  (try simp only [Act.put, List.setIfInBounds_toArray, List.set_cons_zero, List.set_cons_succ])
  refine wpAnyH_ready (rs := [6]) (by decide +kernel) (by simp) ?_
  refine AllReadyH.cons (o := _) rfl (fun K hK => ?_) AllReadyH.nil
  go_simp
  refine hK.out _ _ ?_ (fun hHeld => ?_)
  ·exact SK.out _ (by repeat (first | with_reducible assumption | with_reducible refine Blk.drew ?_ | with_reducible refine Blk.far ?_ (by dsimp only; omega) _)) (by repeat (first | with_reducible assumption | with_reducible refine Blk.drew ?_ | with_reducible refine Blk.far ?_ (by dsimp only; omega) _)) (by repeat (first | with_reducible assumption | with_reducible refine Blk.drew ?_ | with_reducible refine Blk.far ?_ (by dsimp only; omega) _))
  clear hK K
  (try simp only [Act.put, List.setIfInBounds_toArray, List.set_cons_zero, List.set_cons_succ])
  refine wpAnyH_take (i := 7) (oi := _) (v := ?_) rfl (by decide +kernel) (by decide +kernel) (by decide +kernel) (fun _ _ _ h => h) (Or.inl ⟨by rfl, ?_⟩) (by assumption) ?_
  rotate_left
  ·(intro w hSw; (try dsimp only at hSw); go_simp <;> with_reducible rfl)
  (try simp only [Act.put, List.setIfInBounds_toArray, List.set_cons_zero, List.set_cons_succ])
  simp only [List.getElem_toArray, List.getElem_cons_zero, List.getElem_cons_succ, Act.put, List.setIfInBounds_toArray, List.set_cons_zero, List.set_cons_succ]
  refine wpAnyH_done (by kernel_rfl) ?_ _
  go_wp2
  obtain ⟨v0, v1, v2, _, _, _, lF⟩ := b_blk (((R7.set 0 (.int .u64 e)).set 1 (.int .u64 p)).set 2 (.slice a1 E.length c1))
  have hbF : Below w.heap.size w1 (((w7.setCell ⟨w.heap.size + 1, 0, none⟩ (.int .u64 e)).setCell ⟨w.heap.size + 1, 1, none⟩ (.int .u64 p)).setCell ⟨w.heap.size + 1, 2, none⟩ (.slice a1 E.length c1)) := by
   have hb17 : Below w1.heap.size w1 w7 := (HB12.out.drew).trans (HB7.out.mono (by simp; omega))
   have hb17' := hb17.mono (show w.heap.size ≤ w1.heap.size by omega)
   exact ((hb17'.setCell (by dsimp only; omega) _).setCell (by dsimp only; omega) _).setCell (by dsimp only; omega) _
  have hdF := hbF.size
  refine bodyPost_ret (v := .tuple #[.agg #[.int .u64 e, .int .u64 p, .slice a1 E.length c1], .bool q]) (by simp [results, Tryz.results32, go_sem, v0, v1, v2, lF]) rfl ⟨_, rfl, ?_, ⟨HRD.out.blk.below hbF hlt, rBytes.mono (rBytes.keep HIN0.out.dat fun x hx => (hbF.block x hx.1).trans ((HTW.out.block x hx.1 hx.2).trans (HBW.out.block x hx.1).symm)) fun x hx => ⟨by omega, hx.2⟩, HRD.out.ok⟩, HTW.out.trans (Tch.of_below hbF) fun b hb hle => by omega⟩
  refine rEntriesW.mono (rEntriesW.keep HV.out fun b hb => ?_) fun b hb => ⟨by have := hb.1; omega, by have := hb.2; omega⟩
  have := hb.1
  have := hb.2
  (repeat rw [Below.heap_setCell _ _ _ _ (by dsimp only; omega)])
  exact (HB7.out.block b (by simp; omega)).trans (HB12.out.block b (by omega))
end Go.Proofs.YtkipiefcnjfdjaaGreat
namespace Go.Proofs.YtkipiefcnjfdjaaGreat
open Go.RowKit Go.Bs Go.Maps
set_option linter.unusedVariables false
set_option linter.unusedSimpArgs false
def Rs.fin (L : Nat) (s : Rs) : Rs := if s.p < L then s.fail 9 s.p else s
set_option maxRecDepth 100000 in
theorem rd_end (w : World) {g : Nat} {B : List UInt8} {a : Option Addr} {s : Rs} (h : RdAt w g B a s) : Calls Tryz.prog 104 #[.pointer (some ⟨g, 0, none⟩)] w fun r w' => r = .returned (.tuple #[]) ∧ RdStep w g B a (s.fin B.length) w' := by
 have HLF := hid (rd_left w h)
 have HH := hid h
 have hln := h.len
 have hle := h.ok.le
 unfold Rs.fin
 clear h
 by_cases hp : s.p < B.length
 ·rw [if_pos hp]
  have d1 : decide ((0 : Int) < (B.length : Int) - (s.p : Int)) = true := decide_eq_true (by omega)
  have d2 : decide (s.p < B.length) = true := decide_eq_true hp
  clear hp
  go_enter Tryz.func104, Tryz.ntmps104
  go_wp2_with fail
  refine HLF.out.mono ?_
  rintro r w1 ⟨rfl, hb1⟩
  have HH1 := hid (HH.out.later hb1)
  have x1 := HH1.out.blk.cell 1
  simp at x1
  go_wp2_with fail
  refine (rd_fail w1 HH1.out 9 (s.p : Int) (by omega)).mono ?_
  rintro r w2 ⟨rfl, hst⟩
  have HST := hid (RdStep.trans (s' := s.fail 9 s.p) (Tch.of_later (F := (· = g)) hb1) hst)
  clear hst x1
  go_wp2
  first | go_end0 | refine bodyPost_ret (results_none rfl _ _ _) rfl ?_
  exact ⟨rfl, HST.out⟩
 ·rw [if_neg hp]
  have d1 : decide ((0 : Int) < (B.length : Int) - (s.p : Int)) = false := decide_eq_false (by omega)
  have d2 : decide (s.p < B.length) = false := decide_eq_false hp
  clear hp
  go_enter Tryz.func104, Tryz.ntmps104
  go_wp2_with fail
  refine HLF.out.mono ?_
  rintro r w1 ⟨rfl, hb1⟩
  have HST := hid (RdStep.later HH.out hb1)
  go_wp2
  first | go_end0 | refine bodyPost_ret (results_none rfl _ _ _) rfl ?_
  exact ⟨rfl, HST.out⟩
set_option maxRecDepth 100000 in
theorem ref02_end (w : World) (a : Option Addr) (n c : Nat) (s : Rs) (hn : n ≤ 9223372036854775807) : Calls Tryz.prog 37 #[CV a n c s] w fun r w' => r = .returned (CV a n c (s.fin n)) ∧ Below w.heap.size w w' := by
 unfold Rs.fin
 by_cases hp : s.p < n
 ·rw [if_pos hp]
  have d1 : decide ((s.p : Int) < (n : Int)) = true := decide_eq_true (by omega)
  have d2 : decide (s.p < n) = true := decide_eq_true hp
  have HF := hid (fun (W : World) => ref02_fail W a n c s 9 (s.p : Int) (by omega))
  unfold CV at *
  clear hp
  go_enter Tryz.func37, Tryz.ntmps37
  go_wp2_with fail
  refine (HF.out _).mono ?_
  rintro r w1 ⟨rfl, hb⟩
  have B1 : Blk w1 (w.heap.size + 1) 50 #[.slice none 0 0, .int .i64 0, .int .i64 0, .int .i64 0] := Blk.later (by (repeat first | assumption | exact kW (by first | (simp; done) | (simp; omega)) | apply kA | apply kD | apply kN | apply kF | simp <;> omega)) hb
  obtain ⟨y0, y1, y2, y3, g0, g1, g2, g3, l1⟩ := c_blk B1
  have hbw : Below w.heap.size w w1 := by (repeat first | with_reducible (first | exact zR | assumption | apply zA | apply zS | apply zD | apply zN) | refine zT (by with_reducible assumption) ?_ | omega | simp <;> omega)
  clear B1 hb
  go_wp2
  refine bodyPost_ret (v := .agg #[.slice a n c, .int .i64 ((s.fail 9 (s.p : Int)).p : Int), .int .i64 (s.fail 9 (s.p : Int)).k, .int .i64 (s.fail 9 (s.p : Int)).f]) (by simp [results, Tryz.results37, go_sem, y0, y1, y2, y3, l1]) rfl ⟨rfl, by (repeat first | with_reducible (first | exact zR | assumption | apply zA | apply zS | apply zD | apply zN) | refine zT (by with_reducible assumption) ?_ | omega | simp <;> omega)⟩
 ·rw [if_neg hp]
  have d1 : decide ((s.p : Int) < (n : Int)) = false := decide_eq_false (by omega)
  have d2 : decide (s.p < n) = false := decide_eq_false hp
  unfold CV at *
  clear hp
  go_enter Tryz.func37, Tryz.ntmps37
  go_wp2
  refine bodyPost_ret (v := .agg #[.slice a n c, .int .i64 (s.p : Int), .int .i64 s.k, .int .i64 s.f]) (by simp [results, Tryz.results37, go_sem]) rfl ⟨rfl, by (repeat first | with_reducible (first | exact zR | assumption | apply zA | apply zS | apply zD | apply zN) | refine zT (by with_reducible assumption) ?_ | omega | simp <;> omega)⟩
end Go.Proofs.YtkipiefcnjfdjaaGreat
