/- The walk of the law TallySums. -/
import Derived.Test.YtkhopikmejnfeaaTallyI
namespace Go.Proofs.Ytkhopikmejnfeaa
open Go.RowKit Fl Go.Bs
set_option linter.unusedVariables false
set_option linter.unusedSimpArgs false
attribute [local go_sem] unary_neg_float floatOfInt_fI

theorem infoC : (Try.prog.info? 23).map (fun i => (i.zero, i.size, i.bytes)) = some (some (.complex .f64 0 0), 1, 16) := by kernel_rfl
theorem infoT : (Try.prog.info? 33).map (fun i => (i.zero, i.size, i.bytes)) = some (some (.agg #[.int .i64 0, .int .i64 0, .bool false]), 3, 24) := by kernel_rfl

def cellsC (l : List (Int × Int)) : List Value := l.map fun p => .complex .f64 (fI p.1) (fI p.2)
def cellsT (l : List (Int × Int)) : List Value := l.flatMap fun p => [.int .i64 (tN p), .int .i64 (tB p), .bool (tBad p)]
def clampL (l : List (Int × Int)) : List (Int × Int) := l.map fun p => (clampP p.1, clampP p.2)

theorem tv_eq (a b : Int) : tv a b = .agg #[.int .i64 (tN (a, b)), .int .i64 (tB (a, b)), .bool (tBad (a, b))] := by
  unfold tv tN tB tBad
  cases h : rt a b <;> simp [h]

theorem clampL_take (l : List (Int × Int)) (k : Nat) (h : k < l.length) : clampL (l.take (k + 1)) = clampL (l.take k) ++ [(clampP l[k].1, clampP l[k].2)] := by
  unfold clampL
  rw [List.take_succ_eq_append_getElem h, List.map_append]; rfl
theorem cellsC_snoc (l : List (Int × Int)) (p : Int × Int) : cellsC (l ++ [p]) = cellsC l ++ [.complex .f64 (fI p.1) (fI p.2)] := by simp [cellsC]
theorem cellsT_snoc (l : List (Int × Int)) (p : Int × Int) : cellsT (l ++ [p]) = cellsT l ++ [.int .i64 (tN p), .int .i64 (tB p), .bool (tBad p)] := by simp [cellsT]

theorem own_ne {w : World} {base : Nat} {e f : TypeId} {sz tz : Nat} {u v : Value} {n m : Nat} {xs ys : List Value} (hu : w.ownsRow base e sz u n xs) (hv : w.ownsRow base f tz v m ys) (h : e ≠ f) : u.ownBlock = none ∨ u.ownBlock ≠ v.ownBlock := by
  rcases hu.2 with ⟨rfl, _⟩ | ⟨g, cap, cur, rfl, _, hg, _⟩
  · exact .inl rfl
  · right
    rcases hv.2 with ⟨rfl, _⟩ | ⟨g', cap', cur', rfl, _, hg', _⟩
    · simp [Value.ownBlock]
    · intro he
      have : g = g' := by simpa [Value.ownBlock] using he
      subst this
      rw [hg] at hg'
      injection hg' with hg'
      injection hg' with _ ht
      exact h ht

theorem own_reads {w : World} {base : Nat} {e : TypeId} {sz : Nat} {v : Value} {n : Nat} {xs : List Value} (h : w.ownsRow base e sz v n xs) :
    ∃ A c, v = .slice A n c ∧ ∀ j, j < n * sz → ∃ g, A = some ⟨g, 0, none⟩ ∧ g < w.heap.size ∧ w.cell? ⟨g, j, none⟩ = xs[j]? := by
  rcases h.2 with ⟨rfl, rfl⟩ | ⟨g, cap, cur, rfl, hb, hg, hn, hc, hcur, hx⟩
  · exact ⟨none, 0, rfl, fun j hj => by omega⟩
  · refine ⟨_, _, rfl, fun j hj => ⟨g, rfl, (Blk.lt hg), ?_⟩⟩
    rw [Blk.cell hg j, ← hx, List.getElem?_take, if_pos hj]; simp

theorem cellsC_get (l : List (Int × Int)) (k : Nat) (h : k < l.length) : (cellsC l)[k]? = some (.complex .f64 (fI l[k].1) (fI l[k].2)) := by
  simp [cellsC, h]
theorem cellsT_get (l : List (Int × Int)) : ∀ (k : Nat) (h : k < l.length), (cellsT l)[k * 3]? = some (.int .i64 (tN l[k])) ∧ (cellsT l)[k * 3 + 1]? = some (.int .i64 (tB l[k])) ∧ (cellsT l)[k * 3 + 2]? = some (.bool (tBad l[k])) := by
  induction l with
  | nil => intro k h; simp at h
  | cons p l ih =>
    intro k h
    have e : cellsT (p :: l) = .int .i64 (tN p) :: .int .i64 (tB p) :: .bool (tBad p) :: cellsT l := rfl
    rcases k with _ | k
    · rw [e]; exact ⟨rfl, rfl, rfl⟩
    · rw [e]
      have := ih k (by simpa using h)
      have e0 : (k + 1) * 3 = k * 3 + 1 + 1 + 1 := by omega
      have e1 : (k + 1) * 3 + 1 = k * 3 + 1 + 1 + 1 + 1 := by omega
      have e2 : (k + 1) * 3 + 2 = k * 3 + 2 + 1 + 1 + 1 := by omega
      rw [e1, e2, e0]
      simpa using this

theorem rshare_tv (p q : Int × Int) (w : World) :
    Calls Try.prog 23 #[.agg #[.int .i64 (tN p), .int .i64 (tB p), .bool (tBad p)], .agg #[.int .i64 (tN q), .int .i64 (tB q), .bool (tBad q)]] w fun e w' =>
      e = .returned (.int .i64 (shareOf p q)) ∧ Below w.heap.size w w' := by
  have hb : ∀ p : Int × Int, 0 ≤ tB p ∧ tB p ≤ 1125899906842624 := fun p => by
    unfold tB; cases h : rt p.1 p.2
    · simp
    · have := rt_bound h; simp; omega
  have := rshare_any (tN p) (tB p) (tN q) (tB q) (tBad p) (tBad q) (hb p) (hb q) w
  have e : (if tBad p = false ∧ tBad q = false ∧ tB p ≠ 0 ∧ tB q ≤ tB p then 1000 * tB q / tB p else 0) = shareOf p q := by
    unfold shareOf tB tBad
    cases h1 : rt p.1 p.2 <;> cases h2 : rt q.1 q.2 <;> simp
  rwa [e] at this

set_option maxRecDepth 100000 in
set_option maxHeartbeats 3200000 in
theorem sums_any (l : List (Int × Int)) (n : Int) (A : Option Addr) (c : Nat) (w : World) (hn : -9223372036854775808 ≤ n ∧ n ≤ 9223372036854775807) (hlen : l.length ≤ 9223372036854775807)
    (hr : ∀ k, (hk : k < l.length) → ∃ b o, A = some ⟨b, o, none⟩ ∧ b < w.heap.size ∧ w.cell? ⟨b, o + k * 2, none⟩ = some (.int .i64 l[k].1) ∧ w.cell? ⟨b, o + k * 2 + 1, none⟩ = some (.int .i64 l[k].2)) :
    Calls Try.prog 6 #[.slice A l.length c, .int .i64 n] w fun e w' => e = .returned (.bool true) ∧ Below w.heap.size w w' := by
  obtain ⟨ic, hic, hc0, hc1, hc2⟩ := info_parts infoC
  obtain ⟨it, hit, ht0, ht1, ht2⟩ := info_parts infoT
  have HR := hid hr; clear hr
  by_cases h100 : 100 < l.length
  · go_enter Try.func6, Try.ntmps6
    go_wp2_with fail
    refine (live_any _).mono ?_; rintro e w1 ⟨rfl, hb1⟩
    go_wp2
    go_ret
    exact ⟨rfl, hb1⟩
  · go_enter Try.func6, Try.ntmps6
    go_wp2_with fail
    go_loopw [5, 6, 7] (fun vc vt i wr => ∃ k : Nat, k ≤ l.length ∧ i = .int .i64 k ∧ wr.ownsRow w.heap.size 23 1 vc k (cellsC (clampL (l.take k))) ∧
      wr.ownsRow w.heap.size 33 3 vt k (cellsT (clampL (l.take k))) ∧ Below w.heap.size w wr) (fun _ _ i _ => l.length - (intOf i).toNat)
    case atStart => exact ⟨0, Nat.zero_le _, rfl, ⟨rfl, .inl ⟨rfl, rfl⟩⟩, ⟨rfl, .inl ⟨rfl, rfl⟩⟩, Below.refl _ _⟩
    case round =>
      obtain ⟨k, hk, rfl, hoc, hot, hb⟩ := hrel
      by_cases hlt : k < l.length
      · obtain ⟨b, o, hA, hbb, hq0, hq1⟩ := HR.out k hlt
        subst hA
        have q0 := (hb.cell (p := ⟨b, o + k * 2, none⟩) hbb).trans hq0
        have q1 := (hb.cell (p := ⟨b, o + k * 2 + 1, none⟩) hbb).trans hq1
        clear hq0 hq1
        have HS := hid (clampL_take l k hlt)
        generalize l[k].1 = p at *
        generalize l[k].2 = q at *
        have hm := fun w => lmade_any p q w
        simp only [tv_eq] at hm
        have HM := hid hm; clear hm
        go_wp2_with fail
        refine (HM.out _).mono ?_; rintro e w2 ⟨rfl, hb2⟩
        go_wp2_with fail
        have hz2 := hb2.size
        have hzr := hb.size
        have hb3 := below_then hb2 hb
        have hoc2 : w2.ownsRow w.heap.size 23 1 u5 k (cellsC (clampL (l.take k))) := hoc.kept (row := none) ⟨hb2.os, hb2.tape, hb2.output, hb2.size, fun i hi _ => hb2.block i hi⟩ (by rcases hu : u5.ownBlock with _ | g; exact .inl rfl; exact .inr (by simp))
        have hot2 : w2.ownsRow w.heap.size 33 3 u6 k (cellsT (clampL (l.take k))) := hot.kept (row := none) ⟨hb2.os, hb2.tape, hb2.output, hb2.size, fun i hi _ => hb2.block i hi⟩ (by rcases hu : u6.ownBlock with _ | g; exact .inl rfl; exact .inr (by simp))
        clear hoc hot
        generalize clampP p = x at *
        generalize clampP q = y at *
        generalize hgc : cellsC (clampL (l.take k)) = CC at *
        generalize hgt : cellsT (clampL (l.take k)) = CT at *
        have HGC := hid hgc; clear hgc
        have HGT := hid hgt; clear hgt
        generalize htn : tN (x, y) = tn at *
        generalize htb : tB (x, y) = tb at *
        generalize htp : tBad (x, y) = tp at *
        have HTN := hid htn; clear htn
        have HTB := hid htb; clear htb
        have HTP := hid htp; clear htp
        refine wp_world (fun W => W.heap.size = w2.heap.size + 1 ∧ Below w.heap.size w W ∧ W.ownsRow w.heap.size 23 1 u5 k CC ∧ W.ownsRow w.heap.size 33 3 u6 k CT ∧
            Blk W w2.heap.size 33 #[.int .i64 tn, .int .i64 tb, .bool tp]) ⟨by simp, hb3.alloc hb3.size _, hoc2.alloc _, hot2.alloc _, Blk.new _ _ _⟩ ?_
        intro W ⟨hWs, hbW, hocW, hotW, hblk⟩
        have c0 : W.cell? ⟨w2.heap.size, 0, none⟩ = some (.int .i64 tn) := hblk.cell 0
        have c1 : W.cell? ⟨w2.heap.size, 1, none⟩ = some (.int .i64 tb) := hblk.cell 1
        have c2 : W.cell? ⟨w2.heap.size, 2, none⟩ = some (.bool tp) := hblk.cell 2
        have n5 : u5.ownBlock ≠ some w2.heap.size := fun e => by have := (hoc2.lt _ e).2; omega
        have n6 : u6.ownBlock ≠ some w2.heap.size := fun e => by have := (hot2.lt _ e).2; omega
        have hlt9 : w2.heap.size < W.heap.size := by omega
        have WS := hid hWs; clear hWs
        have hne : u6.ownBlock = none ∨ u6.ownBlock ≠ u5.ownBlock := own_ne hotW hocW (by decide)
        have z5 : ∀ g, u5.ownBlock = some g → g < W.heap.size := fun g e => (hocW.lt _ e).2
        go_region_held3 (fun w' => w'.cell? ⟨w2.heap.size, 0, none⟩ = some (.int .i64 tn) ∧ w'.cell? ⟨w2.heap.size, 1, none⟩ = some (.int .i64 tb) ∧ w'.cell? ⟨w2.heap.size, 2, none⟩ = some (.bool tp))
          (first
            | go_keep
            | (refine ⟨?_, ?_, ?_⟩ <;> (rw [hgrow1.cell_far _ (by simp; omega) (Ne.symm n5)]; go_simp; done))
            | (go_split_ands; refine ⟨?_, ?_, ?_⟩ <;> (rw [hgrow2.cell_far _ (by have := hgrow1.size; simp at this; (first | omega | (simp; omega))) (Ne.symm n6)]; first | assumption | (go_simp; done))))
          (first
            | (refine step_append_lies _ (by rfl) (.tmp 32) (.tmp 34) _ (by rfl) w.heap.size 23 ic _ 1 16 Try.underlying48 hic hc0 hc1 hc2 rfl (by decide) u5 k CC (by rfl) (by first | exact hocW.alloc _ | exact (hocW.alloc _).alloc _) _ 1 1 [.complex .f64 (fI x) (fI y)] (by rfl) (by rfl) (by first | exact World.news_of_block (Blk.new _ _ _) | exact World.news_of_block ((Blk.new _ _ _).alloc _) | exact World.news_of_block (Blk.new1 _ _ _ _)) (by simp [Value.oneCell']) (by decide) (by simp only [maxLen]; omega) (by omega) (by have := hbW.size; first | omega | (simp; done) | (simp; omega)) _ rfl ?_; intro g1 cap1 w1 hown1 hgrow1 hat1 hlt1)
            | (refine step_append_lies _ (by rfl) (.tmp 36) (.tmp 38) _ (by rfl) w.heap.size 33 it _ 3 24 Try.underlying49 hit ht0 ht1 ht2 rfl (by decide) u6 k CT (by rfl) (by first | exact ((hotW.alloc _).drew.kept hgrow1 hne).alloc _ | exact ((hotW.alloc _).alloc _).drew.kept hgrow1 hne) _ 1 1 [.int .i64 tn, .int .i64 tb, .bool tp] (by rfl) (by rfl) (by first | exact World.news_of_block (Blk.new _ _ _) | exact World.news_of_block ((Blk.new _ _ _).drew.grown hgrow1 (fun e => by have := z5 _ e.symm; (first | omega | (simp at this; done) | (simp at this; omega)))) | exact World.news_of_block ((Blk.new1 _ _ _ _).drew.grown hgrow1 (fun e => by have := z5 _ e.symm; (first | omega | (simp at this; done) | (simp at this; omega)))) | exact World.news_of_block (((Blk.new _ _ _).alloc _).drew.grown hgrow1 (fun e => by have := z5 _ e.symm; (first | omega | (simp at this; done) | (simp at this; omega))))) (by simp [Value.oneCell']) (by decide) (by simp only [maxLen]; omega) (by omega) (by have := hbW.size; have := hgrow1.size; simp at this; (first | omega | (simp; omega))) _ rfl ?_; intro g2 cap2 w5 hown2 hgrow2 hat2 hlt2))
        all_goals
          have hotw1 : w1.ownsRow w.heap.size 33 3 u6 k CT := by first | exact (hotW.alloc _).drew.kept hgrow1 hne | exact ((hotW.alloc _).alloc _).drew.kept hgrow1 hne
          have hne1 := own_ne hown1 hotw1 (by decide)
          have hc5 : w5.ownsRow w.heap.size 23 1 (.slice (some ⟨g1, 0, none⟩) (k + 1) cap1) (k + 1) (CC ++ [.complex .f64 (fI x) (fI y)]) := by first | exact hown1.kept hgrow2 hne1 | exact (hown1.alloc _).kept hgrow2 hne1
          have hb1 : Below w.heap.size w w1 := by
            refine Below.grown ?_ hgrow1 ?_ (fun k e => (hocW.lt k e).1)
            · (repeat (first | exact Below.refl _ _ | assumption | (refine below_alloc ?_ _) | (refine Below.setCell ?_ (by first | omega | (simp; done) | (simp; omega)) _) | (refine Below.drew ?_) | (refine below_drewN ?_ _) | (refine below_then (by assumption) ?_)))
            · have := hbW.size; first | omega | (simp; done) | (simp; omega)
          have hb5 : Below w.heap.size w w5 := by
            first | exact hb1.grown hgrow2 hb1.size (fun k e => (hotW.lt k e).1) | exact (hb1.alloc hb1.size _).grown hgrow2 (by have := hb1.size; first | omega | (simp; omega)) (fun k e => (hotW.lt k e).1)
          have HC5 := hid hc5; clear hc5
          have HO2 := hid hown2; clear hown2
          clear hgrow1 hgrow2 hat1 hat2 hown1 hotw1 hne1 hne c0 c1 c2 q0 q1
          go_wp2
          go_roundw
          case rel =>
            refine ⟨k + 1, by omega, by go_num, ?_, ?_, hb5⟩
            · rw [HS.out, cellsC_snoc, HGC.out]; exact HC5.out
            · rw [HS.out, cellsT_snoc, HGT.out, HTN.out, HTB.out, HTP.out]; exact HO2.out
          case measure => simp [intOf]; omega
      · obtain rfl : k = l.length := by omega
        clear hlt hk
        rw [List.take_length] at hoc hot
        have hLl : (clampL l).length = l.length := by simp [clampL]
        have hLf : ∀ p ∈ clampL l, Fits p := by
          intro p hp
          obtain ⟨r, _, rfl⟩ := List.mem_map.1 hp
          have h1 := clampP_bd r.1
          have h2 := clampP_bd r.2
          simp only [Fits]; omega
        generalize clampL l = L at *
        obtain ⟨A5, c5, rfl, r5⟩ := own_reads hoc
        obtain ⟨A6, c6, rfl, r6⟩ := own_reads hot
        have R5 : ∀ k, (hk : k < L.length) → ∃ g, A5 = some ⟨g, 0, none⟩ ∧ g < wr.heap.size ∧ wr.cell? ⟨g, k, none⟩ = some (.complex .f64 (fI L[k].1) (fI L[k].2)) := by
          intro k hk
          obtain ⟨g, h1, h2, h3⟩ := r5 k (by omega)
          exact ⟨g, h1, h2, h3.trans (cellsC_get L k hk)⟩
        have R6 : ∀ k, (hk : k < L.length) → ∃ g, A6 = some ⟨g, 0, none⟩ ∧ g < wr.heap.size ∧ wr.cell? ⟨g, k * 3, none⟩ = some (.int .i64 (tN L[k])) ∧ wr.cell? ⟨g, k * 3 + 1, none⟩ = some (.int .i64 (tB L[k])) ∧ wr.cell? ⟨g, k * 3 + 2, none⟩ = some (.bool (tBad L[k])) := by
          intro k hk
          obtain ⟨g, h1, h2, h3⟩ := r6 (k * 3) (by omega)
          obtain ⟨g', h1', h2', h3'⟩ := r6 (k * 3 + 1) (by omega)
          obtain ⟨g'', h1'', h2'', h3''⟩ := r6 (k * 3 + 2) (by omega)
          obtain rfl : g = g' := by rw [h1] at h1'; simpa using h1'
          obtain rfl : g = g'' := by rw [h1] at h1''; simpa using h1''
          obtain ⟨t0, t1, t2⟩ := cellsT_get L k hk
          exact ⟨g, h1, h2, h3.trans t0, h3'.trans t1, h3''.trans t2⟩
        clear r5 r6 hoc hot
        have HR5 := hid R5; clear R5
        have HR6 := hid R6; clear R6
        have HLF := hid hLf; clear hLf
        have hN : l.length ≤ 100 := by omega
        rw [← hLl] at *
        clear HR
        go_wp2_with fail
        refine (sum_any L HLF.out A5 c5 _ (by omega) ?_).mono ?_
        · intro k hk
          obtain ⟨g, h1, h2, h3⟩ := HR5.out k hk
          exact ⟨g, 0, h1, by rw [Nat.zero_add]; exact h3⟩
        rintro e w' ⟨rfl, rfl⟩
        go_wp2_with fail
        refine (rsum_any L A6 c6 _ (by omega) ?_).mono ?_
        · intro k hk
          obtain ⟨g, h1, h2, h3, h4, h5⟩ := HR6.out k hk
          exact ⟨g, 0, h1, h2, by rw [Nat.zero_add]; exact h3, by rw [Nat.zero_add]; exact h4, by rw [Nat.zero_add]; exact h5⟩
        rintro e w2 ⟨rfl, hb2⟩
        have hS := hid (sumGo_rt L (0, 0) (by decide))
        generalize (sumGo (0, 0) L).1 = s1 at *
        generalize (sumGo (0, 0) L).2 = s2 at *
        have hb3 := below_then hb2 hb
        unfold rT
        go_wp2_with fail
        refine (as_yes s1 s2 hS.out _).mono ?_; rintro e w3 ⟨rfl, hb4⟩
        have hb5 := below_then hb4 hb3
        have hb6 : Below wr.heap.size wr w3 := below_then hb4 hb2
        clear hb2 hb3 hb4 hb
        have zz5 := hb6.size
        have S5 : ∀ k, (hk : k < L.length) → ∃ g, A5 = some ⟨g, 0, none⟩ ∧ w3.cell? ⟨g, k, none⟩ = some (.complex .f64 (fI L[k].1) (fI L[k].2)) := fun k hk => by
          obtain ⟨g, h1, h2, h3⟩ := HR5.out k hk
          exact ⟨g, h1, (hb6.cell (p := ⟨g, k, none⟩) h2).trans h3⟩
        have S6 : ∀ k, (hk : k < L.length) → ∃ g, A6 = some ⟨g, 0, none⟩ ∧ w3.cell? ⟨g, k * 3, none⟩ = some (.int .i64 (tN L[k])) ∧ w3.cell? ⟨g, k * 3 + 1, none⟩ = some (.int .i64 (tB L[k])) ∧ w3.cell? ⟨g, k * 3 + 2, none⟩ = some (.bool (tBad L[k])) := fun k hk => by
          obtain ⟨g, h1, h2, h3, h4, h5⟩ := HR6.out k hk
          exact ⟨g, h1, (hb6.cell (p := ⟨g, k * 3, none⟩) h2).trans h3, (hb6.cell (p := ⟨g, k * 3 + 1, none⟩) h2).trans h4, (hb6.cell (p := ⟨g, k * 3 + 2, none⟩) h2).trans h5⟩
        have HS5 := hid S5; clear S5 HR5
        have HS6 := hid S6; clear S6 HR6
        clear hb6 zz5 wr
        go_wp2_with fail
        go_loopw [10] (fun i wr => ∃ m : Nat, m ≤ L.length ∧ i = .int .i64 ((m : Int) + 1) ∧ Below w3.heap.size w3 wr) (fun i _ => (L.length + 1 - (intOf i).toNat))
        case atStart => exact ⟨0, Nat.zero_le _, rfl, Below.refl _ _⟩
        case round =>
          obtain ⟨m, hm, rfl, hbr⟩ := hrel
          by_cases hlt : m + 1 < L.length
          · obtain ⟨g5, hA5, x0⟩ := HS5.out m (by omega)
            obtain ⟨g5', hA5', x1⟩ := HS5.out (m + 1) (by omega)
            obtain rfl : g5 = g5' := by rw [hA5] at hA5'; simpa using hA5'
            obtain ⟨g6, hA6, y0, y1, y2⟩ := HS6.out m (by omega)
            obtain ⟨g6', hA6', z0, z1, z2⟩ := HS6.out (m + 1) (by omega)
            obtain rfl : g6 = g6' := by rw [hA6] at hA6'; simpa using hA6'
            subst hA5 hA6
            clear hA5' hA6'
            have F0 := HLF.out _ (List.getElem_mem (show m < L.length by omega))
            have F1 := HLF.out _ (List.getElem_mem (show m + 1 < L.length by omega))
            generalize L[m] = p at *
            generalize L[m + 1] = q at *
            obtain ⟨p1, p2⟩ := p
            obtain ⟨q1, q2⟩ := q
            obtain ⟨f1, f2⟩ := F0
            obtain ⟨f3, f4⟩ := F1
            have lat := fun {b o : Nat} {v : Value} (h : w3.cell? ⟨b, o, none⟩ = some v) => (Later.mk wr hbr).cell h
            have X0 := fun s : Later wr => s.cell (lat x0)
            have X1 := fun s : Later wr => s.cell (lat x1)
            have Y0 := fun s : Later wr => s.cell (lat y0)
            have Y1 := fun s : Later wr => s.cell (lat y1)
            have Y2 := fun s : Later wr => s.cell (lat y2)
            have Z0 := fun s : Later wr => s.cell (lat z0)
            have Z1 := fun s : Later wr => s.cell (lat z1)
            have Z2 := fun s : Later wr => s.cell (lat z2)
            clear x0 x1 y0 y1 y2 z0 z1 z2 lat
            have k1 : p1.natAbs < 2 ^ 53 := by rw [p53]; omega
            have k2 : p2.natAbs < 2 ^ 53 := by rw [p53]; omega
            have k3 : q1.natAbs < 2 ^ 53 := by rw [p53]; omega
            have k4 : q2.natAbs < 2 ^ 53 := by rw [p53]; omega
            have i0 : (0 : Int) ≤ (m : Int) := by omega
            have i1 : (m : Int) < (L.length : Int) := by omega
            have i2 : (m : Int) + 1 < (L.length : Int) := by omega
            have HSH := hid (share_any p1 p2 q1 q2 k1 k2 k3 k4)
            have HRS := hid (rshare_tv (p1, p2) (q1, q2))
            have HTI := hid (times_any q1 q2 n k3 k4)
            have HTR := hid (timesOf_rt q1 q2 n)
            have HRT := hid (rtimes_any q1 q2 n hn.2 _ _ _ (tv_eq q1 q2))
            generalize shareOf (p1, p2) (q1, q2) = sh at *
            generalize (timesOf q1 q2 n).1 = t1 at *
            generalize (timesOf q1 q2 n).2 = t2 at *
            have hnn : ∀ v : Int, (v != v) = false := fun v => by simp
            have hzz := zz
            have h4 : rt p1 p2 = false ∨ (rt p1 p2 = true ∧ rt q1 q2 = false) ∨ (rt p1 p2 = true ∧ rt q1 q2 = true ∧ rt (p1 - q1) (p2 - q2) = false) ∨ (rt p1 p2 = true ∧ rt q1 q2 = true ∧ rt (p1 - q1) (p2 - q2) = true) := by
              cases rt p1 p2 <;> cases rt q1 q2 <;> cases rt (p1 - q1) (p2 - q2) <;> simp
            rcases h4 with g1 | ⟨g1, g2⟩ | ⟨g1, g2, g3⟩ | ⟨g1, g2, g3⟩
            · skip
              have HW := hid (without_no1 p1 p2 q1 q2 k1 k2 g1)
              simp only [tN, tB, tBad, g1, Bool.false_eq_true, if_false, Bool.not_false] at Y0 Y1 Y2 HRS
              have G1 := hid g1; clear g1
              go_wp2_with fail
              refine wp_region_later (by kernel_rfl) (by kernel_rfl) ?_
              repeat (go_big_quiet_step ((go_at_call 20; exact later_same (HW.out _))))
              refine wpQuiet_nil ?_
              rintro W5 ⟨⟨W5', hb5⟩, rfl⟩
              have X0n := fun s : Later W5 => X0 ⟨s.at_, below_then s.below hb5⟩
              have X1n := fun s : Later W5 => X1 ⟨s.at_, below_then s.below hb5⟩
              have Y0n := fun s : Later W5 => Y0 ⟨s.at_, below_then s.below hb5⟩
              have Y1n := fun s : Later W5 => Y1 ⟨s.at_, below_then s.below hb5⟩
              have Y2n := fun s : Later W5 => Y2 ⟨s.at_, below_then s.below hb5⟩
              have Z0n := fun s : Later W5 => Z0 ⟨s.at_, below_then s.below hb5⟩
              have Z1n := fun s : Later W5 => Z1 ⟨s.at_, below_then s.below hb5⟩
              have Z2n := fun s : Later W5 => Z2 ⟨s.at_, below_then s.below hb5⟩
              go_wp2_with fail
              refine wp_region_later (by kernel_rfl) (by kernel_rfl) ?_
              repeat (go_big_quiet_step ((first | fail)))
              refine wpQuiet_nil ?_
              rintro W6 ⟨⟨W6', hb6⟩, rfl⟩
              have hb7 := below_then hb6 hb5
              have X0m := fun s : Later W6 => X0 ⟨s.at_, below_then s.below hb7⟩
              have X1m := fun s : Later W6 => X1 ⟨s.at_, below_then s.below hb7⟩
              have Y0m := fun s : Later W6 => Y0 ⟨s.at_, below_then s.below hb7⟩
              have Y1m := fun s : Later W6 => Y1 ⟨s.at_, below_then s.below hb7⟩
              have Y2m := fun s : Later W6 => Y2 ⟨s.at_, below_then s.below hb7⟩
              have Z0m := fun s : Later W6 => Z0 ⟨s.at_, below_then s.below hb7⟩
              have Z1m := fun s : Later W6 => Z1 ⟨s.at_, below_then s.below hb7⟩
              have Z2m := fun s : Later W6 => Z2 ⟨s.at_, below_then s.below hb7⟩
              go_wp2_with fail
              refine wp_region_later (by kernel_rfl) (by kernel_rfl) ?_
              repeat (go_big_quiet_step ((first | (go_at_call 22; exact later_drawn (HSH.out _)) | (go_at_call 23; exact later_of (HRS.out _)))))
              refine wpQuiet_nil ?_
              rintro W8 ⟨⟨W8', hb8⟩, rfl⟩
              have hb9 := below_then hb8 hb7
              have X0o := fun s : Later W8 => X0 ⟨s.at_, below_then s.below hb9⟩
              have X1o := fun s : Later W8 => X1 ⟨s.at_, below_then s.below hb9⟩
              have Y0o := fun s : Later W8 => Y0 ⟨s.at_, below_then s.below hb9⟩
              have Y1o := fun s : Later W8 => Y1 ⟨s.at_, below_then s.below hb9⟩
              have Y2o := fun s : Later W8 => Y2 ⟨s.at_, below_then s.below hb9⟩
              have Z0o := fun s : Later W8 => Z0 ⟨s.at_, below_then s.below hb9⟩
              have Z1o := fun s : Later W8 => Z1 ⟨s.at_, below_then s.below hb9⟩
              have Z2o := fun s : Later W8 => Z2 ⟨s.at_, below_then s.below hb9⟩
              go_wp2_with fail
              refine wp_region_later (by kernel_rfl) (by kernel_rfl) ?_
              repeat (go_big_quiet_step ((first | (go_at_call 24; exact later_same (HTI.out _)) | (go_at_call 25; exact later_of (HRT.out _)) | (go_at_call 11; exact later_of (as_yes _ _ HTR.out _)))))
              refine wpQuiet_nil ?_
              rintro W10 ⟨⟨W10', hb10⟩, rfl⟩
              have hb11 := below_then hb10 hb9
              go_wp2
              go_roundw
              case rel => exact ⟨m + 1, by omega, by go_num, below_then hb11 hbr⟩
              case measure => simp [intOf]; omega
            · skip
              have HW := hid (without_no2 p1 p2 q1 q2 k1 k2 k3 k4 g1 g2)
              simp only [tN, tB, tBad, g1, g2, Bool.false_eq_true, if_false, if_true, Bool.not_false, Bool.not_true] at Y0 Y1 Y2 Z0 Z1 Z2 HRS HRT
              have G1 := hid g1; clear g1
              have G2 := hid g2; clear g2
              go_wp2_with fail
              refine wp_region_later (by kernel_rfl) (by kernel_rfl) ?_
              repeat (go_big_quiet_step ((go_at_call 20; exact later_same (HW.out _))))
              refine wpQuiet_nil ?_
              rintro W5 ⟨⟨W5', hb5⟩, rfl⟩
              have X0n := fun s : Later W5 => X0 ⟨s.at_, below_then s.below hb5⟩
              have X1n := fun s : Later W5 => X1 ⟨s.at_, below_then s.below hb5⟩
              have Y0n := fun s : Later W5 => Y0 ⟨s.at_, below_then s.below hb5⟩
              have Y1n := fun s : Later W5 => Y1 ⟨s.at_, below_then s.below hb5⟩
              have Y2n := fun s : Later W5 => Y2 ⟨s.at_, below_then s.below hb5⟩
              have Z0n := fun s : Later W5 => Z0 ⟨s.at_, below_then s.below hb5⟩
              have Z1n := fun s : Later W5 => Z1 ⟨s.at_, below_then s.below hb5⟩
              have Z2n := fun s : Later W5 => Z2 ⟨s.at_, below_then s.below hb5⟩
              go_wp2_with fail
              refine wp_region_later (by kernel_rfl) (by kernel_rfl) ?_
              repeat (go_big_quiet_step ((first | fail)))
              refine wpQuiet_nil ?_
              rintro W6 ⟨⟨W6', hb6⟩, rfl⟩
              have hb7 := below_then hb6 hb5
              have X0m := fun s : Later W6 => X0 ⟨s.at_, below_then s.below hb7⟩
              have X1m := fun s : Later W6 => X1 ⟨s.at_, below_then s.below hb7⟩
              have Y0m := fun s : Later W6 => Y0 ⟨s.at_, below_then s.below hb7⟩
              have Y1m := fun s : Later W6 => Y1 ⟨s.at_, below_then s.below hb7⟩
              have Y2m := fun s : Later W6 => Y2 ⟨s.at_, below_then s.below hb7⟩
              have Z0m := fun s : Later W6 => Z0 ⟨s.at_, below_then s.below hb7⟩
              have Z1m := fun s : Later W6 => Z1 ⟨s.at_, below_then s.below hb7⟩
              have Z2m := fun s : Later W6 => Z2 ⟨s.at_, below_then s.below hb7⟩
              go_wp2_with fail
              refine wp_region_later (by kernel_rfl) (by kernel_rfl) ?_
              repeat (go_big_quiet_step ((first | (go_at_call 22; exact later_drawn (HSH.out _)) | (go_at_call 23; exact later_of (HRS.out _)))))
              refine wpQuiet_nil ?_
              rintro W8 ⟨⟨W8', hb8⟩, rfl⟩
              have hb9 := below_then hb8 hb7
              have X0o := fun s : Later W8 => X0 ⟨s.at_, below_then s.below hb9⟩
              have X1o := fun s : Later W8 => X1 ⟨s.at_, below_then s.below hb9⟩
              have Y0o := fun s : Later W8 => Y0 ⟨s.at_, below_then s.below hb9⟩
              have Y1o := fun s : Later W8 => Y1 ⟨s.at_, below_then s.below hb9⟩
              have Y2o := fun s : Later W8 => Y2 ⟨s.at_, below_then s.below hb9⟩
              have Z0o := fun s : Later W8 => Z0 ⟨s.at_, below_then s.below hb9⟩
              have Z1o := fun s : Later W8 => Z1 ⟨s.at_, below_then s.below hb9⟩
              have Z2o := fun s : Later W8 => Z2 ⟨s.at_, below_then s.below hb9⟩
              go_wp2_with fail
              refine wp_region_later (by kernel_rfl) (by kernel_rfl) ?_
              repeat (go_big_quiet_step ((first | (go_at_call 24; exact later_same (HTI.out _)) | (go_at_call 25; exact later_of (HRT.out _)) | (go_at_call 11; exact later_of (as_yes _ _ HTR.out _)))))
              refine wpQuiet_nil ?_
              rintro W10 ⟨⟨W10', hb10⟩, rfl⟩
              have hb11 := below_then hb10 hb9
              go_wp2
              go_roundw
              case rel => exact ⟨m + 1, by omega, by go_num, below_then hb11 hbr⟩
              case measure => simp [intOf]; omega
            · skip
              have hW := without_at p1 p2 q1 q2 g1 g2
              simp only [tN, tB, tBad, g1, g2, g3, Bool.false_eq_true, if_false, if_true, Bool.not_true] at Y0 Y1 Y2 Z0 Z1 Z2 HRS HRT hW
              have HW := hid hW; clear hW
              have hq := rright_any (p1 - q1) (p2 - q2)
              rw [g3] at hq
              have HQ := hid hq; clear hq
              have G1 := hid g1; clear g1
              have G2 := hid g2; clear g2
              have G3 := hid g3; clear g3
              go_wp2_with fail
              refine wp_region_later (by kernel_rfl) (by kernel_rfl) ?_
              repeat (go_big_quiet_step ((go_at_call 20; exact later_same (HW.out _))))
              refine wpQuiet_nil ?_
              rintro W5 ⟨⟨W5', hb5⟩, rfl⟩
              have X0n := fun s : Later W5 => X0 ⟨s.at_, below_then s.below hb5⟩
              have X1n := fun s : Later W5 => X1 ⟨s.at_, below_then s.below hb5⟩
              have Y0n := fun s : Later W5 => Y0 ⟨s.at_, below_then s.below hb5⟩
              have Y1n := fun s : Later W5 => Y1 ⟨s.at_, below_then s.below hb5⟩
              have Y2n := fun s : Later W5 => Y2 ⟨s.at_, below_then s.below hb5⟩
              have Z0n := fun s : Later W5 => Z0 ⟨s.at_, below_then s.below hb5⟩
              have Z1n := fun s : Later W5 => Z1 ⟨s.at_, below_then s.below hb5⟩
              have Z2n := fun s : Later W5 => Z2 ⟨s.at_, below_then s.below hb5⟩
              go_wp2_with fail
              refine wp_region_later (by kernel_rfl) (by kernel_rfl) ?_
              repeat (go_big_quiet_step ((first | (go_at_call 21; exact later_same (HQ.out _)))))
              refine wpQuiet_nil ?_
              rintro W6 ⟨⟨W6', hb6⟩, rfl⟩
              have hb7 := below_then hb6 hb5
              have X0m := fun s : Later W6 => X0 ⟨s.at_, below_then s.below hb7⟩
              have X1m := fun s : Later W6 => X1 ⟨s.at_, below_then s.below hb7⟩
              have Y0m := fun s : Later W6 => Y0 ⟨s.at_, below_then s.below hb7⟩
              have Y1m := fun s : Later W6 => Y1 ⟨s.at_, below_then s.below hb7⟩
              have Y2m := fun s : Later W6 => Y2 ⟨s.at_, below_then s.below hb7⟩
              have Z0m := fun s : Later W6 => Z0 ⟨s.at_, below_then s.below hb7⟩
              have Z1m := fun s : Later W6 => Z1 ⟨s.at_, below_then s.below hb7⟩
              have Z2m := fun s : Later W6 => Z2 ⟨s.at_, below_then s.below hb7⟩
              go_wp2_with fail
              refine wp_region_later (by kernel_rfl) (by kernel_rfl) ?_
              repeat (go_big_quiet_step ((first | (go_at_call 22; exact later_drawn (HSH.out _)) | (go_at_call 23; exact later_of (HRS.out _)))))
              refine wpQuiet_nil ?_
              rintro W8 ⟨⟨W8', hb8⟩, rfl⟩
              have hb9 := below_then hb8 hb7
              have X0o := fun s : Later W8 => X0 ⟨s.at_, below_then s.below hb9⟩
              have X1o := fun s : Later W8 => X1 ⟨s.at_, below_then s.below hb9⟩
              have Y0o := fun s : Later W8 => Y0 ⟨s.at_, below_then s.below hb9⟩
              have Y1o := fun s : Later W8 => Y1 ⟨s.at_, below_then s.below hb9⟩
              have Y2o := fun s : Later W8 => Y2 ⟨s.at_, below_then s.below hb9⟩
              have Z0o := fun s : Later W8 => Z0 ⟨s.at_, below_then s.below hb9⟩
              have Z1o := fun s : Later W8 => Z1 ⟨s.at_, below_then s.below hb9⟩
              have Z2o := fun s : Later W8 => Z2 ⟨s.at_, below_then s.below hb9⟩
              go_wp2_with fail
              refine wp_region_later (by kernel_rfl) (by kernel_rfl) ?_
              repeat (go_big_quiet_step ((first | (go_at_call 24; exact later_same (HTI.out _)) | (go_at_call 25; exact later_of (HRT.out _)) | (go_at_call 11; exact later_of (as_yes _ _ HTR.out _)))))
              refine wpQuiet_nil ?_
              rintro W10 ⟨⟨W10', hb10⟩, rfl⟩
              have hb11 := below_then hb10 hb9
              go_wp2
              go_roundw
              case rel => exact ⟨m + 1, by omega, by go_num, below_then hb11 hbr⟩
              case measure => simp [intOf]; omega
            · skip
              have hW := without_at p1 p2 q1 q2 g1 g2
              simp only [tN, tB, tBad, g1, g2, g3, Bool.false_eq_true, if_false, if_true, Bool.not_true] at Y0 Y1 Y2 Z0 Z1 Z2 HRS HRT hW
              have HW := hid hW; clear hW
              have hq := rright_any (p1 - q1) (p2 - q2)
              rw [g3] at hq
              have HQ := hid hq; clear hq
              have HOF := hid (rof_yes _ _ g3)
              have HAS := hid (as_yes _ _ g3)
              have G1 := hid g1; clear g1
              have G2 := hid g2; clear g2
              have G3 := hid g3; clear g3
              go_wp2_with fail
              refine wp_region_later (by kernel_rfl) (by kernel_rfl) ?_
              repeat (go_big_quiet_step ((go_at_call 20; exact later_same (HW.out _))))
              refine wpQuiet_nil ?_
              rintro W5 ⟨⟨W5', hb5⟩, rfl⟩
              have X0n := fun s : Later W5 => X0 ⟨s.at_, below_then s.below hb5⟩
              have X1n := fun s : Later W5 => X1 ⟨s.at_, below_then s.below hb5⟩
              have Y0n := fun s : Later W5 => Y0 ⟨s.at_, below_then s.below hb5⟩
              have Y1n := fun s : Later W5 => Y1 ⟨s.at_, below_then s.below hb5⟩
              have Y2n := fun s : Later W5 => Y2 ⟨s.at_, below_then s.below hb5⟩
              have Z0n := fun s : Later W5 => Z0 ⟨s.at_, below_then s.below hb5⟩
              have Z1n := fun s : Later W5 => Z1 ⟨s.at_, below_then s.below hb5⟩
              have Z2n := fun s : Later W5 => Z2 ⟨s.at_, below_then s.below hb5⟩
              go_wp2_with fail
              refine wp_region_later (by kernel_rfl) (by kernel_rfl) ?_
              repeat (go_big_quiet_step ((first | (go_at_call 21; exact later_same (HQ.out _)))))
              refine wpQuiet_nil ?_
              rintro W6 ⟨⟨W6', hb6⟩, rfl⟩
              have hb7 := below_then hb6 hb5
              have X0m := fun s : Later W6 => X0 ⟨s.at_, below_then s.below hb7⟩
              have X1m := fun s : Later W6 => X1 ⟨s.at_, below_then s.below hb7⟩
              have Y0m := fun s : Later W6 => Y0 ⟨s.at_, below_then s.below hb7⟩
              have Y1m := fun s : Later W6 => Y1 ⟨s.at_, below_then s.below hb7⟩
              have Y2m := fun s : Later W6 => Y2 ⟨s.at_, below_then s.below hb7⟩
              have Z0m := fun s : Later W6 => Z0 ⟨s.at_, below_then s.below hb7⟩
              have Z1m := fun s : Later W6 => Z1 ⟨s.at_, below_then s.below hb7⟩
              have Z2m := fun s : Later W6 => Z2 ⟨s.at_, below_then s.below hb7⟩
              go_wp2_with fail
              refine wp_region_later (by kernel_rfl) (by kernel_rfl) ?_
              repeat (go_big_quiet_step ((first | (go_at_call 10; exact later_of (HOF.out _)) | (go_at_call 11; exact later_of (HAS.out _)) | (go_at_call 22; exact later_drawn (HSH.out _)) | (go_at_call 23; exact later_of (HRS.out _)))))
              refine wpQuiet_nil ?_
              rintro W8 ⟨⟨W8', hb8⟩, rfl⟩
              have hb9 := below_then hb8 hb7
              have X0o := fun s : Later W8 => X0 ⟨s.at_, below_then s.below hb9⟩
              have X1o := fun s : Later W8 => X1 ⟨s.at_, below_then s.below hb9⟩
              have Y0o := fun s : Later W8 => Y0 ⟨s.at_, below_then s.below hb9⟩
              have Y1o := fun s : Later W8 => Y1 ⟨s.at_, below_then s.below hb9⟩
              have Y2o := fun s : Later W8 => Y2 ⟨s.at_, below_then s.below hb9⟩
              have Z0o := fun s : Later W8 => Z0 ⟨s.at_, below_then s.below hb9⟩
              have Z1o := fun s : Later W8 => Z1 ⟨s.at_, below_then s.below hb9⟩
              have Z2o := fun s : Later W8 => Z2 ⟨s.at_, below_then s.below hb9⟩
              go_wp2_with fail
              refine wp_region_later (by kernel_rfl) (by kernel_rfl) ?_
              repeat (go_big_quiet_step ((first | (go_at_call 24; exact later_same (HTI.out _)) | (go_at_call 25; exact later_of (HRT.out _)) | (go_at_call 11; exact later_of (as_yes _ _ HTR.out _)))))
              refine wpQuiet_nil ?_
              rintro W10 ⟨⟨W10', hb10⟩, rfl⟩
              have hb11 := below_then hb10 hb9
              go_wp2
              go_roundw
              case rel => exact ⟨m + 1, by omega, by go_num, below_then hb11 hbr⟩
              case measure => simp [intOf]; omega
          · clear HS5 HS6
            go_wp2_with fail
            refine (live_any _).mono ?_; rintro e w9 ⟨rfl, hb9⟩
            go_wp2
            go_ret
            exact ⟨rfl, below_then hb9 (below_then hbr hb5)⟩

theorem tallySums_walk {H : Type} (enc : TypeId × Value → H) (W : World) (base : Nat) (v0 v1 : Value) (d0 d1 : DataW H) (p0 p1 : List MemPlace)
    (k0 : DataW.Trod enc Try.prog W 0 (fun _ => true) true 47 v0 d0 p0) (k1 : DataW.Trod enc Try.prog W 0 (fun _ => true) true 3 v1 d1 p1)
    (o0 : Value.okWide Try.prog W .any base 47 v0) (o1 : Value.okWide Try.prog W .any base 3 v1) :
    Calls Try.prog 6 #[v0, v1] W fun e w' => e = .returned (.bool true) ∧ Below W.heap.size W w' := by
  obtain ⟨fuel, hf⟩ := k0
  obtain ⟨a, len, cap, rfl⟩ := Go.WideShapes.okWide_slice Try.underlying47 o0
  obtain ⟨f1, hf1⟩ := k1
  obtain ⟨n, rfl⟩ := Go.WideShapes.okWide_int Try.underlying3 o1
  obtain ⟨n', hn, hw⟩ := opens_int Try.underlying3 enc W f1 _ _ hf1
  simp [Value.cells] at hn
  subst hn
  have bn := bounds_i64 hw
  obtain ⟨y, a', c', h1, h2, h3, h4⟩ := opens_slice (A := rVec 2 1 (rInt .i64)) (sz := 2) Try.underlying47 (by kernel_rfl) (by decide) (opens_array (sz := 1) Try.underlying28 (by kernel_rfl) (by kernel_rfl) (opens_int Try.underlying3)) enc W fuel _ _ hf
  simp [Value.cells] at h1
  obtain ⟨rfl, rfl, rfl⟩ := h1
  have e := sums_any (y.map fun l => (l.getD 0 0, l.getD 1 0)) n a cap W bn (by simp; unfold maxLen at h3; omega) (by
    intro k hk
    rcases h4 with rfl | ⟨b, off, rfl, hb, hr⟩
    · simp at hk
    · have hk' : k < y.length := by simpa using hk
      obtain ⟨cs, hl, hc, g1, g2, g3⟩ := hr k y[k] (List.getElem?_eq_getElem hk')
      generalize hyk : y[k] = l at *
      refine ⟨b, off, rfl, hb, ?_⟩
      simp only [List.getElem_map, hyk]
      match l, g2 with
      | [u, v], _ =>
        obtain ⟨e0, _⟩ := g3 0 u rfl
        obtain ⟨e1, _⟩ := g3 1 v rfl
        match cs, hl with
        | [c0, c1], _ =>
          simp at e0 e1
          subst e0 e1
          exact ⟨hc 0 _ rfl, hc 1 _ rfl⟩)
  simpa using e
end Go.Proofs.Ytkhopikmejnfeaa
