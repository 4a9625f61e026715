/- Needed by pushNone_walk, part 12: texts put together by shake.py; no condition. -/
import Derived.BigQuiet
import Derived.Test.YtfddhafbhceoaaaGreatWA11
import Derived.Test.YtfddhafbhceoaaaGreatWA2
import Derived.Test.YtfddhafbhceoaaaGreatWA1
import Derived.Test.YtfddhafbhceoaaaGreatWA10
import Derived.Deep.Cut
import Derived.Deep.CutRange
import Derived.Test.YtfddhafbhceoaaaGreatWA8
import Derived.Test.YtfddhafbhceoaaaGreatWA3
namespace Go.Proofs.YtfddhafbhceoaaaGreat
open Go.RowKit Go.Bs Go.Maps
set_option linter.unusedVariables false
set_option linter.unusedSimpArgs false

abbrev FeedJ1 (w : World) (g : Nat) (v0 : Value) (B : List UInt8) (a : Option Addr) (c : Nat) (s0 : PSt) (S' : PSt) (EE : List Ev) (a' : Act) (W : World) : Prop := ∃ (s : PSt) (i : Nat) (E0 : List Ev) (v : Value) (aO : Option Addr) (nO cO : Nat), FeedI w g v0 B a c s v (E0.map Ev.x) (.slice aO nO cO) W ∧ (i ≤ B.length ∧ s.fed = s0.fed + i ∧ s.buf.length ≤ s0.buf.length + i ∧ s.first ≤ s.fed ∧ E0.length ≤ i ∧ s.ended = 0 ∧ nO = E0.length) ∧ Hid (((feedP s (B.drop i)).1, E0 ++ (feedP s (B.drop i)).2) = (S', EE)) ∧ ∃ u : Nat → Value, a' = { tmps := #[.pointer (some ⟨g, 0, none⟩), .slice a B.length c, (u 2), (u 3), .slice none 0 0, .slice aO nO cO, .pointer (some ⟨w.heap.size, 0, none⟩), .pointer (some ⟨w.heap.size + 1, 0, none⟩), .int .i64 (i : Int), (u 9), (u 10), (u 11), (u 12), (u 13), (u 14), (u 15), (u 16), (u 17), (u 18), (u 19), (u 20), (u 21), (u 22), (u 23), (u 24), (u 25), (u 26), (u 27), (u 28), (u 29), (u 30), (u 31), (u 32), (u 33), (u 34), (u 35), (u 36), (u 37), (u 38), (u 39), (u 40), (u 41), (u 42), (u 43), (u 44), (u 45), (u 46), (u 47), (u 48), (u 49), (u 50), (u 51), (u 52), (u 53), (u 54), (u 55), (u 56), (u 57), (u 58), (u 59), (u 60), (u 61), (u 62), (u 63), (u 64), (u 65), (u 66), (u 67), (u 68), (u 69), (u 70), (u 71), (u 72), (u 73), (u 74), (u 75), (u 76), (u 77), (u 78), (u 79), (u 80), (u 81), (u 82), (u 83), (u 84), (u 85), (u 86), (u 87), (u 88), (u 89), (u 90), (u 91), (u 92), (u 93), (u 94), (u 95), (u 96), (u 97), (u 98), (u 99), (u 100), (u 101), (u 102), (u 103), (u 104), (u 105), (u 106), (u 107), (u 108), (u 109), (u 110), (u 111), (u 112), (u 113), (u 114), (u 115), (u 116)], defers := [] }
abbrev FeedJ2 (w : World) (g : Nat) (v0 : Value) (B : List UInt8) (a : Option Addr) (c : Nat) (s0 : PSt) (S' : PSt) (EE : List Ev) (a' : Act) (W : World) : Prop := ∃ (s : PSt) (i : Nat) (E0 : List Ev) (v : Value) (aO : Option Addr) (nO cO : Nat), FeedI w g v0 B a c s v (E0.map Ev.x) (.slice aO nO cO) W ∧ ((i ≤ B.length ∧ s.fed = s0.fed + i ∧ s.buf.length ≤ s0.buf.length + i ∧ s.first ≤ s.fed ∧ E0.length ≤ i ∧ s.ended = 0 ∧ nO = E0.length) ∧ E0.length < i) ∧ Hid (goP (restP s) E0 (B.drop i) = (S', EE)) ∧ ∃ u : Nat → Value, a' = { tmps := #[.pointer (some ⟨g, 0, none⟩), .slice a B.length c, (u 2), (u 3), .slice none 0 0, .slice aO nO cO, .pointer (some ⟨w.heap.size, 0, none⟩), .pointer (some ⟨w.heap.size + 1, 0, none⟩), .int .i64 (i : Int), (u 9), (u 10), (u 11), (u 12), (u 13), (u 14), (u 15), (u 16), (u 17), (u 18), (u 19), (u 20), (u 21), (u 22), (u 23), (u 24), (u 25), (u 26), (u 27), (u 28), (u 29), (u 30), (u 31), (u 32), (u 33), (u 34), (u 35), (u 36), (u 37), (u 38), (u 39), (u 40), (u 41), (u 42), (u 43), (u 44), (u 45), (u 46), (u 47), (u 48), (u 49), (u 50), (u 51), (u 52), (u 53), (u 54), (u 55), (u 56), (u 57), (u 58), (u 59), (u 60), (u 61), (u 62), (u 63), (u 64), (u 65), (u 66), (u 67), (u 68), (u 69), (u 70), (u 71), (u 72), (u 73), (u 74), (u 75), (u 76), (u 77), (u 78), (u 79), (u 80), (u 81), (u 82), (u 83), (u 84), (u 85), (u 86), (u 87), (u 88), (u 89), (u 90), (u 91), (u 92), (u 93), (u 94), (u 95), (u 96), (u 97), (u 98), (u 99), (u 100), (u 101), (u 102), (u 103), (u 104), (u 105), (u 106), (u 107), (u 108), (u 109), (u 110), (u 111), (u 112), (u 113), (u 114), (u 115), (u 116)], defers := [] }
abbrev FeedJ3 (w : World) (g : Nat) (v0 : Value) (B : List UInt8) (a : Option Addr) (c : Nat) (s0 : PSt) (S' : PSt) (EE : List Ev) (a' : Act) (W : World) : Prop := ∃ (s : PSt) (i : Nat) (E0 : List Ev) (v : Value) (aO : Option Addr) (nO cO : Nat) (k f : Int), FeedI w g v0 B a c s v (E0.map Ev.x) (.slice aO nO cO) W ∧ (i ≤ B.length ∧ s.fed = s0.fed + i ∧ s.buf.length ≤ s0.buf.length + i ∧ s.first ≤ s.fed ∧ E0.length ≤ i ∧ s.ended = 0 ∧ nO = E0.length) ∧ Blk W (w.heap.size + 1) 65 #[.int .i64 k, .int .i64 f] ∧ k ≠ 0 ∧ Hid ((⟨[], s.first, s.fed, s.need, 4⟩, E0 ++ [evBad (wrap64 (f + (s.first : Int))) k]) = (S', EE)) ∧ ∃ u : Nat → Value, a' = { tmps := #[.pointer (some ⟨g, 0, none⟩), .slice a B.length c, (u 2), (u 3), .slice none 0 0, .slice aO nO cO, .pointer (some ⟨w.heap.size, 0, none⟩), .pointer (some ⟨w.heap.size + 1, 0, none⟩), .int .i64 (i : Int), (u 9), (u 10), (u 11), (u 12), (u 13), (u 14), (u 15), (u 16), (u 17), (u 18), (u 19), (u 20), (u 21), (u 22), (u 23), (u 24), (u 25), (u 26), (u 27), (u 28), (u 29), (u 30), (u 31), (u 32), (u 33), (u 34), (u 35), (u 36), (u 37), (u 38), (u 39), (u 40), (u 41), (u 42), (u 43), (u 44), (u 45), (u 46), (u 47), (u 48), (u 49), (u 50), (u 51), (u 52), (u 53), (u 54), (u 55), (u 56), (u 57), (u 58), (u 59), (u 60), (u 61), (u 62), (u 63), (u 64), (u 65), (u 66), (u 67), (u 68), (u 69), (u 70), (u 71), (u 72), (u 73), (u 74), (u 75), (u 76), (u 77), (u 78), (u 79), (u 80), (u 81), (u 82), (u 83), (u 84), (u 85), (u 86), (u 87), (u 88), (u 89), (u 90), (u 91), (u 92), (u 93), (u 94), (u 95), (u 96), (u 97), (u 98), (u 99), (u 100), (u 101), (u 102), (u 103), (u 104), (u 105), (u 106), (u 107), (u 108), (u 109), (u 110), (u 111), (u 112), (u 113), (u 114), (u 115), (u 116)], defers := [] }
abbrev FeedJ0 (w : World) (g : Nat) (v0 : Value) (B : List UInt8) (a : Option Addr) (c : Nat) (s0 : PSt) (S' : PSt) (EE : List Ev) (a' : Act) (W : World) : Prop := ∃ (i : Nat) (E0 : List Ev) (v : Value) (aO : Option Addr) (nO cO : Nat), FeedI w g v0 B a c S' v (E0.map Ev.x) (.slice aO nO cO) W ∧ E0 = EE ∧ nO = E0.length ∧ ∃ u : Nat → Value, a' = { tmps := #[.pointer (some ⟨g, 0, none⟩), .slice a B.length c, (u 2), (u 3), .slice none 0 0, .slice aO nO cO, .pointer (some ⟨w.heap.size, 0, none⟩), .pointer (some ⟨w.heap.size + 1, 0, none⟩), .int .i64 (i : Int), (u 9), (u 10), (u 11), (u 12), (u 13), (u 14), (u 15), (u 16), (u 17), (u 18), (u 19), (u 20), (u 21), (u 22), (u 23), (u 24), (u 25), (u 26), (u 27), (u 28), (u 29), (u 30), (u 31), (u 32), (u 33), (u 34), (u 35), (u 36), (u 37), (u 38), (u 39), (u 40), (u 41), (u 42), (u 43), (u 44), (u 45), (u 46), (u 47), (u 48), (u 49), (u 50), (u 51), (u 52), (u 53), (u 54), (u 55), (u 56), (u 57), (u 58), (u 59), (u 60), (u 61), (u 62), (u 63), (u 64), (u 65), (u 66), (u 67), (u 68), (u 69), (u 70), (u 71), (u 72), (u 73), (u 74), (u 75), (u 76), (u 77), (u 78), (u 79), (u 80), (u 81), (u 82), (u 83), (u 84), (u 85), (u 86), (u 87), (u 88), (u 89), (u 90), (u 91), (u 92), (u 93), (u 94), (u 95), (u 96), (u 97), (u 98), (u 99), (u 100), (u 101), (u 102), (u 103), (u 104), (u 105), (u 106), (u 107), (u 108), (u 109), (u 110), (u 111), (u 112), (u 113), (u 114), (u 115), (u 116)], defers := [] }
def feedMu (L l : Nat) (a : Act) : Nat := if l = 1 then 4 * (L - (intOf (a.tmps.getD 8 (.int .i64 0))).toNat) + 2 else if l = 2 then 4 * (L - (intOf (a.tmps.getD 8 (.int .i64 0))).toNat) + 3 else if l = 3 then 1 else 0
theorem fr_mk {w : World} {g : Nat} {B : List UInt8} {a : Option Addr} {c : Nat} {aO : Option Addr} {nO cO : Nat} {i : Int} {t2 t3 t9 t10 t11 t12 t13 t14 t15 t16 t17 t18 t19 t20 t21 t22 t23 t24 t25 t26 t27 t28 t29 t30 t31 t32 t33 t34 t35 t36 t37 t38 t39 t40 t41 t42 t43 t44 t45 t46 t47 t48 t49 t50 t51 t52 t53 t54 t55 t56 t57 t58 t59 t60 t61 t62 t63 t64 t65 t66 t67 t68 t69 t70 t71 t72 t73 t74 t75 t76 t77 t78 t79 t80 t81 t82 t83 t84 t85 t86 t87 t88 t89 t90 t91 t92 t93 t94 t95 t96 t97 t98 t99 t100 t101 t102 t103 t104 t105 t106 t107 t108 t109 t110 t111 t112 t113 t114 t115 t116 : Value} : ∃ u : Nat → Value, ({ tmps := #[.pointer (some ⟨g, 0, none⟩), .slice a B.length c, t2, t3, .slice none 0 0, .slice aO nO cO, .pointer (some ⟨w.heap.size, 0, none⟩), .pointer (some ⟨w.heap.size + 1, 0, none⟩), .int .i64 (i), t9, t10, t11, t12, t13, t14, t15, t16, t17, t18, t19, t20, t21, t22, t23, t24, t25, t26, t27, t28, t29, t30, t31, t32, t33, t34, t35, t36, t37, t38, t39, t40, t41, t42, t43, t44, t45, t46, t47, t48, t49, t50, t51, t52, t53, t54, t55, t56, t57, t58, t59, t60, t61, t62, t63, t64, t65, t66, t67, t68, t69, t70, t71, t72, t73, t74, t75, t76, t77, t78, t79, t80, t81, t82, t83, t84, t85, t86, t87, t88, t89, t90, t91, t92, t93, t94, t95, t96, t97, t98, t99, t100, t101, t102, t103, t104, t105, t106, t107, t108, t109, t110, t111, t112, t113, t114, t115, t116], defers := [] } : Act) = { tmps := #[.pointer (some ⟨g, 0, none⟩), .slice a B.length c, (u 2), (u 3), .slice none 0 0, .slice aO nO cO, .pointer (some ⟨w.heap.size, 0, none⟩), .pointer (some ⟨w.heap.size + 1, 0, none⟩), .int .i64 (i : Int), (u 9), (u 10), (u 11), (u 12), (u 13), (u 14), (u 15), (u 16), (u 17), (u 18), (u 19), (u 20), (u 21), (u 22), (u 23), (u 24), (u 25), (u 26), (u 27), (u 28), (u 29), (u 30), (u 31), (u 32), (u 33), (u 34), (u 35), (u 36), (u 37), (u 38), (u 39), (u 40), (u 41), (u 42), (u 43), (u 44), (u 45), (u 46), (u 47), (u 48), (u 49), (u 50), (u 51), (u 52), (u 53), (u 54), (u 55), (u 56), (u 57), (u 58), (u 59), (u 60), (u 61), (u 62), (u 63), (u 64), (u 65), (u 66), (u 67), (u 68), (u 69), (u 70), (u 71), (u 72), (u 73), (u 74), (u 75), (u 76), (u 77), (u 78), (u 79), (u 80), (u 81), (u 82), (u 83), (u 84), (u 85), (u 86), (u 87), (u 88), (u 89), (u 90), (u 91), (u 92), (u 93), (u 94), (u 95), (u 96), (u 97), (u 98), (u 99), (u 100), (u 101), (u 102), (u 103), (u 104), (u 105), (u 106), (u 107), (u 108), (u 109), (u 110), (u 111), (u 112), (u 113), (u 114), (u 115), (u 116)], defers := [] } :=
  ⟨fun n => ([undef, undef, t2, t3, undef, undef, undef, undef, undef, t9, t10, t11, t12, t13, t14, t15, t16, t17, t18, t19, t20, t21, t22, t23, t24, t25, t26, t27, t28, t29, t30, t31, t32, t33, t34, t35, t36, t37, t38, t39, t40, t41, t42, t43, t44, t45, t46, t47, t48, t49, t50, t51, t52, t53, t54, t55, t56, t57, t58, t59, t60, t61, t62, t63, t64, t65, t66, t67, t68, t69, t70, t71, t72, t73, t74, t75, t76, t77, t78, t79, t80, t81, t82, t83, t84, t85, t86, t87, t88, t89, t90, t91, t92, t93, t94, t95, t96, t97, t98, t99, t100, t101, t102, t103, t104, t105, t106, t107, t108, t109, t110, t111, t112, t113, t114, t115, t116] : List Value).getD n undef, rfl⟩
theorem info14 : (Tryz.prog.info? 45).map (fun i => (i.zero, i.size)) = some (some (.agg #[.int .i64 0, .int .u64 0, .int .u64 0, .int .u64 0, .int .i64 0, .int .i64 0, .slice none 0 0, .slice none 0 0, .slice none 0 0, .int .u64 0, .int .u64 0, .int .u64 0, .int .u64 0, .slice none 0 0]), 14) := by kernel_rfl
theorem drop_at {B : List UInt8} {i : Nat} (h : i < B.length) : B.drop i = B[i] :: B.drop (i + 1) := List.drop_eq_getElem_cons h

set_option maxRecDepth 100000 in
set_option maxHeartbeats 12800000 in
theorem push_feed (w : World) {g : Nat} {v0 : Value} {s0 : PSt} (h : ParAt w g v0 s0) (B : List UInt8) (a : Option Addr) (n c : Nat) (hl : rBytes.r (fun q => q < w.heap.size ∧ q ≠ g ∧ v0.ownBlock ≠ some q) w [.slice a n c] B) (hB : B.length ≤ 100000000) (hf : s0.fed ≤ 100000000) (hbf : s0.buf.length ≤ 100000000) (hfi : s0.first ≤ s0.fed) :
    Calls Tryz.prog 20 #[.pointer (some ⟨g, 0, none⟩), .slice a n c] w fun r w' => ∃ v' vo, r = .returned vo ∧ ParAt w' g v' (feedO s0 B).1 ∧ OutEv w v' w' vo ((feedO s0 B).2.map Ev.x) ∧ (v'.ownBlock = v0.ownBlock ∨ ∀ q, v'.ownBlock = some q → w.heap.size ≤ q) ∧ Tch (fun q => q = g ∨ v0.ownBlock = some q) w w' := by
  obtain ⟨rfl, hmx, hcc, hcm⟩ := sl_len hl
  obtain ⟨i0, hi, hz0, hz1, hz2⟩ := info_parts info8
  obtain ⟨j0, hj, hy0, hy1, hy2⟩ := info_parts infoEvt
  have HO := hid (push_open ((w.alloc (.cells #[.int .i64 0, .int .u64 0, .int .u64 0, .int .u64 0, .int .i64 0, .int .i64 0, .slice none 0 0, .slice none 0 0, .slice none 0 0, .int .u64 0, .int .u64 0, .int .u64 0, .int .u64 0, .slice none 0 0] 45)).alloc (.cells #[.int .i64 0, .int .i64 0] 65)) ((h.blk.alloc (.cells #[.int .i64 0, .int .u64 0, .int .u64 0, .int .u64 0, .int .i64 0, .int .i64 0, .slice none 0 0, .slice none 0 0, .slice none 0 0, .int .u64 0, .int .u64 0, .int .u64 0, .int .u64 0, .slice none 0 0] 45)).alloc (.cells #[.int .i64 0, .int .i64 0] 65)))
  have hgl := h.blk.lt
  have HP := hid h
  have HL := hid hl
  unfold feedO
  by_cases he : s0.ended = 0
  · rw [if_pos he]
    rw [decide_eq_true he, Bool.true_and] at HO
    have HE := hid he
    obtain ⟨R, hR⟩ : ∃ R, R = feedP s0 B := ⟨_, rfl⟩
    rw [← hR]
    obtain ⟨S', EE⟩ := R
    have HR := hid hR.symm
    dsimp only
    clear hl h he hR
    go_enter Tryz.func20, Tryz.ntmps20
    go_wp2
    refine wp_scope_manyE 1 (fun l a' W => (l = 1 ∧ FeedJ1 w g v0 B a c s0 S' EE a' W) ∨ (l = 2 ∧ FeedJ2 w g v0 B a c s0 S' EE a' W) ∨ (l = 3 ∧ FeedJ3 w g v0 B a c s0 S' EE a' W) ∨ (l = 0 ∧ FeedJ0 w g v0 B a c s0 S' EE a' W)) (fun l a' _ => feedMu B.length l a') rfl ?pass ?first
    case pass =>
      rintro l a' W (⟨rfl, s, i, E0, v, aO, nO, cO, hI, ⟨hil, hfd, hbl, hfr, hEl, hse, rfl⟩, hrel, u, rfl⟩ | ⟨rfl, s, i, E0, v, aO, nO, cO, hI, ⟨⟨hil, hfd, hbl, hfr, hEl, hse, rfl⟩, hEl2⟩, hrel, u, rfl⟩ | ⟨rfl, s, i, E0, v, aO, nO, cO, k, f, hI, ⟨hil, hfd, hbl, hfr, hEl, hse, rfl⟩, hF, hk, hrel, u, rfl⟩ | ⟨rfl, i, E0, v, aO, nO, cO, hI, hEE, rfl, u, rfl⟩)
      · refine ⟨_, rfl, ?_⟩
        have HFD := hid hfd
        have hfq : s.fed ≤ 200000000 := by omega
        clear hfd
        obtain ⟨aJ, cJ, rfl⟩ := hI.par.buf.form
        have hsz := hI.sz
        have HI := hid hI
        have HSE := hid hse
        clear hI hse
        by_cases hlt : i < B.length
        · have e0 : ((i : Int) == (B.length : Int)) = false := by rw [beq_eq_false_iff_ne]; omega
          have i1 : (i : Int) < (B.length : Int) := by omega
          have hst := hrel.out
          rw [drop_at hlt, feedP_go] at hst
          obtain ⟨b, o, hA, hbS, hc⟩ := byte_at HI.out.dat hlt
          subst hA
          generalize B[i] = x at *
          have HST := hid hst
          clear hst hrel
          obtain ⟨y0, y1, y2, y3, y4, y5, ly⟩ := par_blk HI.out.par.blk
          go_wp2_with fail
          refine wp_region_last_held (fun w' => w'.cell? ⟨g, 1, none⟩ = some (.slice aJ s.buf.length cJ) ∧ w'.cell? ⟨b, o + i, none⟩ = some (.int .u8 (x.toNat : Int))) _ (by kernel_rfl) rfl (by kernel_rfl) ⟨y1, hc⟩ (fun hHeld => ?_)
          simp only [noopLast, noopOf]
          refine wpAnyH_take (i := 0) (oi := _) (v := ?_) rfl (by decide +kernel) (by decide +kernel) (by decide +kernel) (fun _ _ _ h => h) (Or.inl ⟨by rfl, ?_⟩) (by assumption) ?_
          rotate_left
          · (intro w hSw; (try dsimp only at hSw); go_simp <;> with_reducible rfl)
          (try simp only [Act.put, List.setIfInBounds_toArray, List.set_cons_zero, List.set_cons_succ])
          refine wpAnyH_take (i := 1) (oi := _) (v := ?_) rfl (by decide +kernel) (by decide +kernel) (by decide +kernel) (fun _ _ _ h => h) (Or.inl ⟨by rfl, ?_⟩) (by assumption) ?_
          rotate_left
          · (intro w hSw; (try dsimp only at hSw); go_simp <;> with_reducible rfl)
          (try simp only [Act.put, List.setIfInBounds_toArray, List.set_cons_zero, List.set_cons_succ])
          refine wpAnyH_take (i := 2) (oi := _) (v := ?_) rfl (by decide +kernel) (by decide +kernel) (by decide +kernel) (fun _ _ _ h => h) (Or.inl ⟨by rfl, ?_⟩) (by assumption) ?_
          rotate_left
          · (intro w hSw; (try dsimp only at hSw); go_simp <;> with_reducible rfl)
          (try simp only [Act.put, List.setIfInBounds_toArray, List.set_cons_zero, List.set_cons_succ])
          refine wpAnyH_take (i := 3) (oi := _) (v := ?_) rfl (by decide +kernel) (by decide +kernel) (by decide +kernel) (fun _ _ _ h => h) (Or.inl ⟨by rfl, ?_⟩) (by assumption) ?_
          rotate_left
          · (intro w hSw; (try dsimp only at hSw); go_simp <;> with_reducible rfl)
          (try simp only [Act.put, List.setIfInBounds_toArray, List.set_cons_zero, List.set_cons_succ])
          refine wpAnyH_take (i := 4) (oi := _) (v := ?_) rfl (by decide +kernel) (by decide +kernel) (by decide +kernel) (fun _ _ _ h => h) (Or.inl ⟨by rfl, ?_⟩) (by assumption) ?_
          rotate_left
          · (intro w hSw; (try dsimp only at hSw); go_simp <;> with_reducible rfl)
          (try simp only [Act.put, List.setIfInBounds_toArray, List.set_cons_zero, List.set_cons_succ])
          refine wpAnyH_take (i := 5) (oi := _) (v := ?_) rfl (by decide +kernel) (by decide +kernel) (by decide +kernel) (fun _ _ _ h => h) (Or.inl ⟨by rfl, ?_⟩) (by assumption) ?_
          rotate_left
          · (intro w hSw; (try dsimp only at hSw); go_simp <;> with_reducible rfl)
          (try simp only [Act.put, List.setIfInBounds_toArray, List.set_cons_zero, List.set_cons_succ])
          refine wpAnyH_take (i := 6) (oi := _) (v := ?_) rfl (by decide +kernel) (by decide +kernel) (by decide +kernel) (fun _ _ _ h => h) (Or.inl ⟨by rfl, ?_⟩) (by assumption) ?_
          rotate_left
          · (intro w hSw; (try dsimp only at hSw); go_simp <;> with_reducible rfl)
          (try simp only [Act.put, List.setIfInBounds_toArray, List.set_cons_zero, List.set_cons_succ])
          refine wpAnyH_take (i := 7) (oi := _) (v := ?_) rfl (by decide +kernel) (by decide +kernel) (by decide +kernel) (fun _ _ _ h => h) (Or.inl ⟨by rfl, ?_⟩) (by assumption) ?_
          rotate_left
          · (intro w hSw; (try dsimp only at hSw); go_simp <;> with_reducible rfl)
          (try simp only [Act.put, List.setIfInBounds_toArray, List.set_cons_zero, List.set_cons_succ])
          refine wpAnyH_take (i := 8) (oi := _) (v := ?_) rfl (by decide +kernel) (by decide +kernel) (by decide +kernel) (fun _ _ _ h => h) (Or.inl ⟨by rfl, ?_⟩) (by assumption) ?_
          rotate_left
          · (intro w hSw; (try dsimp only at hSw); go_simp <;> with_reducible rfl)
          (try simp only [Act.put, List.setIfInBounds_toArray, List.set_cons_zero, List.set_cons_succ])
          refine wpAnyH_ready (rs := [9]) (by decide +kernel) (by simp) ?_
          refine AllReadyH.cons (o := _) rfl (fun K hK => ?_) AllReadyH.nil
          go_simp
          refine hK.out _ _ ?_ (fun hHeld => ?_)
          · ((try dsimp only); refine ⟨?_, ?_⟩ <;> (first | with_reducible assumption | (with_reducible refine Blk.alloc (Blk.drew ?_) _; with_reducible assumption) | (go_keep; done)))
          clear hK K
          (try simp only [Act.put, List.setIfInBounds_toArray, List.set_cons_zero, List.set_cons_succ])
          have hb9 : Below W.heap.size W (W.drew.alloc (.cells #[.int .u8 (x.toNat : Int)] 5)) := by (repeat (first | with_reducible exact Below.refl _ _ | with_reducible assumption | (with_reducible refine below_alloc ?_ _) | (with_reducible refine Below.setCell ?_ (by first | omega | (simp; done) | (simp; omega)) _) | (with_reducible refine Below.drew ?_) | (with_reducible refine below_drewN ?_ _) | (refine below_then (by with_reducible assumption) ?_)))
          have HI9 := hid (HI.out.later hb9)
          have hz9 : g + 1 ≤ (W.drew.alloc (.cells #[.int .u8 (x.toNat : Int)] 5)).heap.size := by simp; omega
          clear hb9
          refine wpAnyH_ready (rs := [10]) (by decide +kernel) (by simp) ?_
          refine AllReadyH.cons (o := _) rfl (fun K hK => ?_) AllReadyH.nil
          (refine step_append_src (by rfl) _ _ _ (by rfl) (g + 1) 5 i0 (.int .u8 0) 1 1 Tryz.underlying22 hi hz0 hz1 hz2 rfl (by decide) (.slice aJ s.buf.length cJ) s.buf.length (byteCells s.buf) (by rfl) HI9.out.par.buf (some ⟨W.heap.size, 0, none⟩) 1 1 [.int .u8 (x.toNat : Int)] (by rfl) (src_new1 W.drew 5 _ (by rfl) (by rfl) rfl) (by intro u hu; simp at hu; subst hu; rfl) (by simp only [maxLen]; omega) (by omega) hz9 ?_; intro a9 c9 w9 hown9 hgrow9 hat9; have HI10 := hid (HI9.out.put hown9 hgrow9 hat9); have hG10 := HI9.out.par.blk.grown hgrow9 (fun e => (HI9.out.vq g e.symm).1 rfl); have m1 : w9.cell? ⟨g, 1, none⟩ = some (.slice aJ s.buf.length cJ) := hG10.cell 1; have m2 : w9.frozen? ⟨g, 1, none⟩ = false := hG10.free 1; have m3 : w9.cell? ⟨b, o + i, none⟩ = some (.int .u8 (x.toNat : Int)) := (World.cell?_of_block (a := ⟨b, o + i, none⟩) ((hgrow9.block b (by have := hbS.1; simp; omega) (fun e => by rcases (HI9.out.vq b e.symm).2.2 with h1 | h1 <;> first | exact hbS.2.2 h1 | (have := hbS.1; omega))))).trans ((World.cell?_of_block (a := ⟨b, o + i, none⟩) (Below.heap_alloc W.drew _ b (by have := hbS.1; show b < W.heap.size; omega))).trans hc); clear hown9 hgrow9 hat9 hG10; (try dsimp only))
          refine hK.out _ _ ?_ (fun hHeld => ?_)
          · ((try dsimp only); refine ⟨?_, ?_⟩ <;> (first | with_reducible assumption | (with_reducible refine Blk.alloc (Blk.drew ?_) _; with_reducible assumption) | (go_keep; done)))
          clear hK K
          (try simp only [Act.put, List.setIfInBounds_toArray, List.set_cons_zero, List.set_cons_succ])
          refine wpAnyH_take (i := 11) (oi := _) (v := ?_) rfl (by decide +kernel) (by decide +kernel) (by decide +kernel) (fun _ _ _ h => h) (Or.inl ⟨by rfl, ?_⟩) (by assumption) ?_
          rotate_left
          · (intro w hSw; (try dsimp only at hSw); go_simp <;> with_reducible rfl)
          (try simp only [Act.put, List.setIfInBounds_toArray, List.set_cons_zero, List.set_cons_succ])
          refine wpAnyH_take (i := 12) (oi := _) (v := ?_) rfl (by decide +kernel) (by decide +kernel) (by decide +kernel) (fun _ _ _ h => h) (Or.inl ⟨by rfl, ?_⟩) (by assumption) ?_
          rotate_left
          · (intro w hSw; (try dsimp only at hSw); go_simp <;> with_reducible rfl)
          (try simp only [Act.put, List.setIfInBounds_toArray, List.set_cons_zero, List.set_cons_succ])
          refine wpAnyH_take (i := 13) (oi := _) (v := ?_) rfl (by decide +kernel) (by decide +kernel) (by decide +kernel) (fun _ _ _ h => h) (Or.inl ⟨by rfl, ?_⟩) (by assumption) ?_
          rotate_left
          · (intro w hSw; (try dsimp only at hSw); go_simp <;> with_reducible rfl)
          (try simp only [Act.put, List.setIfInBounds_toArray, List.set_cons_zero, List.set_cons_succ])
          refine wpAnyH_done (by kernel_rfl) ?_ _
          show wpList _ _ _ _ _ _
          go_upto_region 9 with (fail)
          generalize w9.setCell ⟨g, 1, none⟩ (.slice a9 (s.buf.length + 1) c9) = w10 at *
          clear y0 y1 y2 y3 y4 y5 ly m1 m2 m3 hc HI9 hz9
          obtain ⟨y0, y1, y2, y3, y4, y5, ly⟩ := par_blk HI10.out.par.blk
          obtain ⟨z0, z1, z2, z3, z4, z5⟩ := par_free HI10.out.par.blk
          dsimp only at y0 y1 y2 y3 y4 y5
          go_upto_region 11 with (fail)
          have HI11 := hid HI10.out.setfed
          dsimp only at HI11
          generalize w10.setCell ⟨g, 3, none⟩ (.int .i64 ((s.fed : Int) + 1)) = w11 at *
          clear y0 y1 y2 y3 y4 y5 ly z0 z1 z2 z3 z4 z5 HI10
          have hDl : (s.buf ++ [x]).length = s.buf.length + 1 := by simp
          obtain ⟨y0, y1, y2, y3, y4, y5, ly⟩ := par_blk HI11.out.par.blk
          obtain ⟨z0, z1, z2, z3, z4, z5⟩ := par_free HI11.out.par.blk
          dsimp only at y0 y1 y2 y3 y4 y5
          by_cases hn : 0 < s.need
          · have d1 : decide ((0 : Int) < (s.need : Int)) = true := decide_eq_true (by omega)
            have d1n : decide (0 < s.need) = true := decide_eq_true hn
            have hstp := HST.out
            rw [stepP_need hn HSE.out] at hstp
            have HST2 := hid hstp
            clear hstp HST hn
            go_wp2
            go_step3
            have hfd := HFD.out
            exact ⟨.inr (.inl ⟨rfl, _, i + 1, E0, _, aO, _, cO, HI11.out, ⟨⟨by omega, by dsimp only; omega, by dsimp only; omega, by dsimp only; omega, by omega, HSE.out, rfl⟩, by omega⟩, HST2, fr_mk⟩), by show 4 * (B.length - (intOf (.int .i64 ((i : Int) + 1))).toNat) + 3 < 4 * (B.length - (intOf (.int .i64 (i : Int))).toNat) + 2; simp [intOf]; omega⟩
          · have d1 : decide ((0 : Int) < (s.need : Int)) = false := decide_eq_false (by omega)
            have d1n : decide (0 < s.need) = false := decide_eq_false hn
            have HB11 := HI11.out.par.buf.read
            dsimp only at HB11
            have HWH := hid (frame_whole w11 (s.buf ++ [x]) a9 _ c9 (rBytes.mono HB11 fun q hq => hq.2) (by omega))
            clear HB11
            go_wp2_with fail
            refine HWH.out.mono ?_
            rintro r w12 ⟨rfl, hb12⟩
            have HI12 := hid (HI11.out.later hb12)
            clear y0 y1 y2 y3 y4 y5 ly z0 z1 z2 z3 z4 z5 HI11 HWH hb12
            obtain ⟨y0, y1, y2, y3, y4, y5, ly⟩ := par_blk HI12.out.par.blk
            obtain ⟨z0, z1, z2, z3, z4, z5⟩ := par_free HI12.out.par.blk
            dsimp only at y0 y1 y2 y3 y4 y5
            go_upto_region 13 with (fail)
            have HI13 := hid (HI12.out.setneed (wholeN (s.buf ++ [x])))
            dsimp only at HI13
            generalize w12.setCell ⟨g, 4, none⟩ (.int .i64 (wholeN (s.buf ++ [x]) : Int)) = w13 at *
            clear y0 y1 y2 y3 y4 y5 ly z0 z1 z2 z3 z4 z5 HI12
            obtain ⟨y0, y1, y2, y3, y4, y5, ly⟩ := par_blk HI13.out.par.blk
            dsimp only at y0 y1 y2 y3 y4 y5
            by_cases hw : 0 < wholeN (s.buf ++ [x])
            · have d2 : decide ((0 : Int) < (wholeN (s.buf ++ [x]) : Int)) = true := decide_eq_true (by omega)
              have d2n : decide (0 < wholeN (s.buf ++ [x])) = true := decide_eq_true hw
              have hstp := HST.out
              rw [stepP_whole hn HSE.out hw] at hstp
              have HST2 := hid hstp
              clear hstp HST hw hn
              go_wp2
              go_step3
              have hfd := HFD.out
              exact ⟨.inr (.inl ⟨rfl, _, i + 1, E0, _, aO, _, cO, HI13.out, ⟨⟨by omega, by dsimp only; omega, by dsimp only; omega, by dsimp only; omega, by omega, HSE.out, rfl⟩, by omega⟩, HST2, fr_mk⟩), by show 4 * (B.length - (intOf (.int .i64 ((i : Int) + 1))).toNat) + 3 < 4 * (B.length - (intOf (.int .i64 (i : Int))).toNat) + 2; simp [intOf]; omega⟩
            · have d2 : decide ((0 : Int) < (wholeN (s.buf ++ [x]) : Int)) = false := decide_eq_false (by omega)
              have d2n : decide (0 < wholeN (s.buf ++ [x])) = false := decide_eq_false hw
              have HB13 := HI13.out.par.buf.read
              dsimp only at HB13
              have hWR := push_wrong w13 (s.buf ++ [x]) a9 _ c9 (rBytes.mono HB13 fun q hq => hq.2) (by omega)
              clear HB13
              by_cases hk : (intD (s.buf ++ [x])).1.k = 1
              · rw [if_pos hk, if_pos hk] at hWR
                have HWR := hid hWR
                have HG := hid (fun (W' : World) => fault_good W' 0 0)
                have hstp := HST.out
                rw [stepP_wait hn HSE.out hw hk, goP_go (s := ⟨s.buf ++ [x], s.first, s.fed + 1, wholeN (s.buf ++ [x]), s.ended⟩) HSE.out, List.append_nil] at hstp
                have HST2 := hid hstp
                clear hstp HST hw hn hk hWR
                go_wp2_with fail
                refine HWR.out.mono ?_
                rintro r w14 ⟨rfl, hb14⟩
                have HI14 := hid (HI13.out.later hb14)
                obtain ⟨k0, f0, hF14⟩ := HI14.out.fb
                obtain ⟨r0, r1, r2, r3, lr⟩ := f_blk hF14
                clear y0 y1 y2 y3 y4 y5 ly HI13 HWR hb14 hF14
                go_upto_region 15 with (fail)
                obtain ⟨hI15, hF15⟩ := HI14.out.setf 0 0
                have HI15 := hid hI15
                generalize (w14.setCell ⟨w.heap.size + 1, 0, none⟩ (.int .i64 0)).setCell ⟨w.heap.size + 1, 1, none⟩ (.int .i64 0) = w15 at *
                clear hI15 HI14 r0 r1 r2 r3 lr
                obtain ⟨r0, r1, r2, r3, lr⟩ := f_blk hF15
                go_wp2_with fail
                refine (HG.out _).mono ?_
                rintro r w16 ⟨rfl, hb16⟩
                have HI16 := hid (HI15.out.later hb16)
                go_wp2
                go_step3
                have hfd := HFD.out
                exact ⟨.inl ⟨rfl, _, i + 1, E0, _, aO, _, cO, HI16.out, ⟨by omega, by dsimp only; omega, by dsimp only; omega, by dsimp only; omega, by omega, HSE.out, rfl⟩, HST2, fr_mk⟩, by show 4 * (B.length - (intOf (.int .i64 ((i : Int) + 1))).toNat) + 2 < 4 * (B.length - (intOf (.int .i64 (i : Int))).toNat) + 2; simp [intOf]; omega⟩
              · rw [if_neg hk, if_neg hk] at hWR
                have hk0 := intD_bad hw
                have hstp := HST.out
                rw [stepP_bad hn HSE.out hw hk, goP_bad (s := ⟨[], s.first, s.fed + 1, wholeN (s.buf ++ [x]), 4⟩) (show (4 : Int) ≠ 0 by decide)] at hstp
                generalize (intD (s.buf ++ [x])).1.k = k at *
                generalize (intD (s.buf ++ [x])).1.f = f at *
                have HWR := hid hWR
                have HG := hid (fun (W' : World) => (by have := fault_good W' k f; rw [decide_eq_false hk0] at this; exact this : Calls Tryz.prog 65 #[.agg #[.int .i64 k, .int .i64 f]] W' fun r w' => r = .returned (.bool false) ∧ Below W'.heap.size W' w'))
                have HST2 := hid hstp
                have HK0 := hid hk0
                clear hstp HST hw hn hk hWR hk0
                go_wp2_with fail
                refine HWR.out.mono ?_
                rintro r w14 ⟨rfl, hb14⟩
                have HI14 := hid (HI13.out.later hb14)
                obtain ⟨k0, f0, hF14⟩ := HI14.out.fb
                obtain ⟨r0, r1, r2, r3, lr⟩ := f_blk hF14
                clear y0 y1 y2 y3 y4 y5 ly HI13 HWR hb14 hF14
                go_upto_region 15 with (fail)
                obtain ⟨hI15, hF15⟩ := HI14.out.setf k f
                have HI15 := hid hI15
                generalize (w14.setCell ⟨w.heap.size + 1, 0, none⟩ (.int .i64 k)).setCell ⟨w.heap.size + 1, 1, none⟩ (.int .i64 f) = w15 at *
                clear hI15 HI14 r0 r1 r2 r3 lr
                have HF15 := hid hF15
                obtain ⟨r0, r1, r2, r3, lr⟩ := f_blk hF15
                clear hF15
                go_wp2_with fail
                refine (HG.out _).mono ?_
                rintro r w16 ⟨rfl, hb16⟩
                have HI16 := hid (HI15.out.later hb16)
                have HF16 := hid (HF15.out.later hb16)
                go_wp2
                go_step3
                have hfd := HFD.out
                exact ⟨.inr (.inr (.inl ⟨rfl, _, i + 1, E0, _, aO, _, cO, k, f, HI16.out, ⟨by omega, by dsimp only; omega, by dsimp only; omega, by dsimp only; omega, by omega, HSE.out, rfl⟩, HF16.out, HK0.out, HST2, fr_mk⟩)), by show 1 < 4 * (B.length - (intOf (.int .i64 (i : Int))).toNat) + 2; omega⟩
        · obtain rfl : i = B.length := by omega
          have e0 : ((B.length : Int) == (B.length : Int)) = true := by simp
          have hst := hrel.out
          rw [List.drop_length, feedP_nil, List.append_nil] at hst
          simp only [Prod.mk.injEq] at hst
          obtain ⟨rfl, rfl⟩ := hst
          clear hrel
          go_wp2
          go_step3
          have hfd := HFD.out
          exact ⟨.inr (.inr (.inr ⟨rfl, B.length, E0, _, aO, _, cO, HI.out, rfl, rfl, fr_mk⟩)), by show 0 < 4 * _ + 2; omega⟩
      · refine ⟨_, rfl, ?_⟩
        have HFD := hid hfd
        have hfq : s.fed ≤ 200000000 := by omega
        clear hfd
        obtain ⟨aJ, cJ, rfl⟩ := hI.par.buf.form
        have hsz := hI.sz
        have HI := hid hI
        have HSE := hid hse
        have HBU := hid hI.par.buf.read
        have HNV : Hid (∀ q, (Value.slice aJ s.buf.length cJ).ownBlock = some q → W.heap.size ≤ q → False) := hid fun q e h => by have := (hI.par.at_ q e).2; omega
        have HNO : Hid (∀ q, (Value.slice aO E0.length cO).ownBlock = some q → W.heap.size ≤ q → False) := hid fun q e h => by
          obtain ⟨cells, hc⟩ := hI.own
          have := (own_lt2 hc.1 q e).2
          omega
        clear hI hse
        obtain ⟨y0, y1, y2, y3, y4, y5, ly⟩ := par_blk HI.out.par.blk
        by_cases hq : s.buf.length < s.need
        · have d1 : decide ((s.buf.length : Int) < (s.need : Int)) = true := decide_eq_true (by omega)
          have d1n : decide (s.buf.length < s.need) = true := decide_eq_true hq
          have hst := hrel.out
          have hr : restP s = (s, []) := by unfold restP; rw [if_pos hq]
          rw [hr, goP_go HSE.out, List.append_nil] at hst
          have HST := hid hst
          clear hst hrel hr hq
          go_wp2_with fail
          go_quiet (fail)
          go_wp2
          go_step3
          have hfd := HFD.out
          exact ⟨.inl ⟨rfl, s, i, E0, _, aO, _, cO, HI.out.later (below_drewN (Below.refl _ _) nq), ⟨hil, hfd, hbl, hfr, by omega, HSE.out, rfl⟩, HST, fr_mk⟩, Nat.lt_succ_self _⟩
        · have d1 : decide ((s.buf.length : Int) < (s.need : Int)) = false := decide_eq_false (by omega)
          have d1n : decide (s.buf.length < s.need) = false := decide_eq_false hq
          have hst := hrel.out
          unfold restP at hst
          rw [if_neg hq] at hst
          generalize hG : getMS s.buf = G at *
          obtain ⟨m, q, nn, k, f⟩ := G
          dsimp only at hst
          have HGT := hid (fun (W' : World) (hW : Below W.heap.size W W') => rpc_getS W' s.buf aJ _ cJ (rBytes.mono (rBytes.keep HBU.out fun q hq => hW.block q hq.2) fun q hq => Nat.lt_of_lt_of_le hq.2 hW.size) (by omega) hG)
          have HST := hid hst
          clear hst hrel hq hG HBU
          go_wp2_with fail
          go_quiet (fail)
          go_wp2_with fail
          refine (HGT.out _ (below_drewN (Below.refl _ _) nq)).mono ?_
          rintro r w1 ⟨a1, a1', a2, a2', a3, a3', a4, a4', rfl, hm1, hb1⟩
          have HI1 := hid (HI.out.later (below_then hb1 (below_drewN (Below.refl _ _) nq)))
          have X1 : Hid (MsgIn (fun q => W.heap.size ≤ q ∧ q < w1.heap.size) w1 m a1 a1' a2 a2' a3 a3' a4 a4') := hid hm1
          clear y0 y1 y2 y3 y4 y5 ly HGT hb1 hm1
          obtain ⟨u0, u1, u2, u3, u4, u5, u6, u7, u8, u9, u10, u11, u12, u13, hM⟩ := HI1.out.mb
          obtain ⟨k0, f0, hF⟩ := HI1.out.fb
          have HM := hid hM
          have HF := hid hF
          have H14 := hid (show (Tryz.prog.info? 45).map (·.size) = some (#[.int .i64 m.kind, .int .u64 m.epoch, .int .u64 m.seq, .int .u64 m.pos, .int .i64 m.count, .int .i64 m.state, .slice a1 m.streams.length a1', .slice a2 m.links.length a2', .slice a3 m.data.length a3', .int .u64 m.sea.epoch, .int .u64 m.sea.node, .int .u64 m.sea.tail, .int .u64 m.proj.epoch, .slice a4 m.proj.stripes.length a4'] : Array Value).size from (zero_of_info info14).2)
          have HONE := hid (show (#[.int .i64 m.kind, .int .u64 m.epoch, .int .u64 m.seq, .int .u64 m.pos, .int .i64 m.count, .int .i64 m.state, .slice a1 m.streams.length a1', .slice a2 m.links.length a2', .slice a3 m.data.length a3', .int .u64 m.sea.epoch, .int .u64 m.sea.node, .int .u64 m.sea.tail, .int .u64 m.proj.epoch, .slice a4 m.proj.stripes.length a4'] : Array Value).all (·.oneCell') = true by simp [Value.oneCell'])
          clear hM hF
          go_upto_region 18 with (refine wpList_store_row rfl 45 _ _ rfl w.heap.size #[.int .i64 m.kind, .int .u64 m.epoch, .int .u64 m.seq, .int .u64 m.pos, .int .i64 m.count, .int .i64 m.state, .slice a1 m.streams.length a1', .slice a2 m.links.length a2', .slice a3 m.data.length a3', .int .u64 m.sea.epoch, .int .u64 m.sea.node, .int .u64 m.sea.tail, .int .u64 m.proj.epoch, .slice a4 m.proj.stripes.length a4'] rfl rfl 45 _ HM.out H14.out rfl HONE.out ?_; have hM5 := Blk.row #[.int .i64 m.kind, .int .u64 m.epoch, .int .u64 m.seq, .int .u64 m.pos, .int .i64 m.count, .int .i64 m.state, .slice a1 m.streams.length a1', .slice a2 m.links.length a2', .slice a3 m.data.length a3', .int .u64 m.sea.epoch, .int .u64 m.sea.node, .int .u64 m.sea.tail, .int .u64 m.proj.epoch, .slice a4 m.proj.stripes.length a4'] HM.out; have hT5 := Tch.row w1 w.heap.size #[.int .i64 m.kind, .int .u64 m.epoch, .int .u64 m.seq, .int .u64 m.pos, .int .i64 m.count, .int .i64 m.state, .slice a1 m.streams.length a1', .slice a2 m.links.length a2', .slice a3 m.data.length a3', .int .u64 m.sea.epoch, .int .u64 m.sea.node, .int .u64 m.sea.tail, .int .u64 m.proj.epoch, .slice a4 m.proj.stripes.length a4']; generalize w1.setRow w.heap.size #[.int .i64 m.kind, .int .u64 m.epoch, .int .u64 m.seq, .int .u64 m.pos, .int .i64 m.count, .int .i64 m.state, .slice a1 m.streams.length a1', .slice a2 m.links.length a2', .slice a3 m.data.length a3', .int .u64 m.sea.epoch, .int .u64 m.sea.node, .int .u64 m.sea.tail, .int .u64 m.proj.epoch, .slice a4 m.proj.stripes.length a4'] = w5 at *; have hF5 := HF.out.tch hT5 (by omega); obtain ⟨r0, r1, r2, r3, lr⟩ := f_blk hF5; have HM5 := hid hM5; have HT5 := hid hT5; have HF5 := hid hF5; clear hM5 hT5 hF5)
          have hM2 : Blk ((w5.setCell ⟨w.heap.size + 1, 0, none⟩ (.int .i64 k)).setCell ⟨w.heap.size + 1, 1, none⟩ (.int .i64 f)) w.heap.size 45 #[.int .i64 m.kind, .int .u64 m.epoch, .int .u64 m.seq, .int .u64 m.pos, .int .i64 m.count, .int .i64 m.state, .slice a1 m.streams.length a1', .slice a2 m.links.length a2', .slice a3 m.data.length a3', .int .u64 m.sea.epoch, .int .u64 m.sea.node, .int .u64 m.sea.tail, .int .u64 m.proj.epoch, .slice a4 m.proj.stripes.length a4'] := (HM5.out.far (by dsimp only; omega) _).far (by dsimp only; omega) _
          have hF2 : Blk ((w5.setCell ⟨w.heap.size + 1, 0, none⟩ (.int .i64 k)).setCell ⟨w.heap.size + 1, 1, none⟩ (.int .i64 f)) (w.heap.size + 1) 65 #[.int .i64 k, .int .i64 f] := (HF5.out.set 0 (.int .i64 k)).set 1 (.int .i64 f)
          have ht2 : Tch (fun b => b = w.heap.size ∨ b = w.heap.size + 1) w1 ((w5.setCell ⟨w.heap.size + 1, 0, none⟩ (.int .i64 k)).setCell ⟨w.heap.size + 1, 1, none⟩ (.int .i64 f)) := ((HT5.out.mono (G := fun b => b = w.heap.size ∨ b = w.heap.size + 1) (fun b _ e => Or.inl e)).setCell (p := ⟨w.heap.size + 1, 0, none⟩) (fun _ => .inr rfl) _).setCell (p := ⟨w.heap.size + 1, 1, none⟩) (fun _ => .inr rfl) _
          generalize ((w5.setCell ⟨w.heap.size + 1, 0, none⟩ (.int .i64 k)).setCell ⟨w.heap.size + 1, 1, none⟩ (.int .i64 f)) = w2 at *
          clear r0 r1 r2 r3 lr HM5 HF5 HT5 HM HF HONE
          have HI2 := hid (HI1.out.mf ht2 ⟨_, _, _, _, _, _, _, _, _, _, _, _, _, _, hM2⟩ ⟨k, f, hF2⟩)
          have X2 := hid (MsgIn.keepS (S' := fun q => W.heap.size ≤ q ∧ q < w2.heap.size) X1.out (fun q hq => ht2.block q hq.2 (by omega)) (fun q hq => ⟨hq.1, Nat.lt_of_lt_of_le hq.2 ht2.size⟩))
          have HM2 := hid hM2
          have HF2 := hid hF2
          obtain ⟨r0, r1, r2, r3, lr⟩ := f_blk hF2
          clear hM2 hF2 ht2 X1 HI1
          by_cases hk : k = 0
          · subst hk
            simp only [if_true] at HST
            have HG := hid (fun (W' : World) => (by have := fault_good W' 0 f; exact this : Calls Tryz.prog 65 #[.agg #[.int .i64 0, .int .i64 f]] W' fun r w' => r = .returned (.bool true) ∧ Below W'.heap.size W' w'))
            go_wp2_with fail
            refine (HG.out _).mono ?_
            rintro r w3 ⟨rfl, hb3⟩
            have HI3 := hid (HI2.out.later hb3)
            have hM3 := HM2.out.later hb3
            have X3 := hid (MsgIn.keepS (S' := fun q => W.heap.size ≤ q ∧ q < w3.heap.size) X2.out (fun q hq => hb3.block q hq.2) (fun q hq => ⟨hq.1, Nat.lt_of_lt_of_le hq.2 hb3.size⟩))
            clear hb3 HI2 HM2 HF2 X2 r0 r1 r2 r3 lr HG
            obtain ⟨y0, y1, y2, y3, y4, y5, ly⟩ := par_blk HI3.out.par.blk
            go_wp2_with fail
            refine wp_region_held_drew (S := fun w' => Blk w' w.heap.size 45 #[.int .i64 m.kind, .int .u64 m.epoch, .int .u64 m.seq, .int .u64 m.pos, .int .i64 m.count, .int .i64 m.state, .slice a1 m.streams.length a1', .slice a2 m.links.length a2', .slice a3 m.data.length a3', .int .u64 m.sea.epoch, .int .u64 m.sea.node, .int .u64 m.sea.tail, .int .u64 m.proj.epoch, .slice a4 m.proj.stripes.length a4'] ∧ w'.cell? ⟨g, 2, none⟩ = some (.int .i64 (s.first : Int))) (by kernel_rfl) ⟨hM3, y2⟩ (fun hHeld => ?_)
            (try simp only [List.getElem_toArray, List.getElem_cons_zero, List.getElem_cons_succ, Act.put, List.setIfInBounds_toArray, List.set_cons_zero, List.set_cons_succ])
            refine wpAnyH_take (i := 0) (oi := _) (v := ?_) rfl (by decide +kernel) (by decide +kernel) (by decide +kernel) (fun _ _ _ h => h) (Or.inl ⟨by rfl, ?_⟩) (by assumption) ?_
            rotate_left
            · (intro w hSw; (try dsimp only at hSw); go_simp <;> with_reducible rfl)
            (try simp only [Act.put, List.setIfInBounds_toArray, List.set_cons_zero, List.set_cons_succ])
            refine wpAnyH_take (i := 1) (oi := _) (v := ?_) rfl (by decide +kernel) (by decide +kernel) (by decide +kernel) (fun _ _ _ h => h) (Or.inl ⟨by rfl, ?_⟩) (by assumption) ?_
            rotate_left
            · (intro w hSw; (try dsimp only at hSw); go_simp <;> with_reducible rfl)
            (try simp only [Act.put, List.setIfInBounds_toArray, List.set_cons_zero, List.set_cons_succ])
            refine wpAnyH_take (i := 2) (oi := _) (v := ?_) rfl (by decide +kernel) (by decide +kernel) (by decide +kernel) (fun _ _ _ h => h) (Or.inl ⟨by rfl, ?_⟩) (by assumption) ?_
            rotate_left
            · (intro w hSw; (try dsimp only at hSw); go_simp <;> with_reducible rfl)
            (try simp only [Act.put, List.setIfInBounds_toArray, List.set_cons_zero, List.set_cons_succ])
            refine wpAnyH_take (i := 3) (oi := _) (v := ?_) rfl (by decide +kernel) (by decide +kernel) (by decide +kernel) (fun _ _ _ h => h) (Or.inl ⟨by rfl, ?_⟩) (by assumption) ?_
            rotate_left
            · (intro w hSw; (try dsimp only at hSw); go_simp <;> with_reducible rfl)
            (try simp only [Act.put, List.setIfInBounds_toArray, List.set_cons_zero, List.set_cons_succ])
            refine wpAnyH_take (i := 4) (oi := _) (v := ?_) rfl (by decide +kernel) (by decide +kernel) (by decide +kernel) (fun _ _ _ h => h) (Or.inl ⟨by rfl, ?_⟩) (by assumption) ?_
            rotate_left
            · (intro w hSw; (try dsimp only at hSw); go_simp <;> with_reducible rfl)
            (try simp only [Act.put, List.setIfInBounds_toArray, List.set_cons_zero, List.set_cons_succ])
            (try simp only [List.getElem_toArray, List.getElem_cons_zero, List.getElem_cons_succ, Act.put, List.setIfInBounds_toArray, List.set_cons_zero, List.set_cons_succ])
            refine wpAnyH_take (i := 5) (oi := _) (v := ?_) rfl (by decide +kernel) (by decide +kernel) (by decide +kernel) (fun _ _ _ h => h) (Or.inl ⟨by kernel_rfl, ?_⟩) (by assumption) ?_
            rotate_left
            · (intro w hSw; (try dsimp only at hSw); (have qq := m_blk hSw.1; obtain ⟨q0, q1, q2, q3, q4, q5, q6, q7, q8, q9, q10, q11, q12, q13, ql⟩ := qq); go_simp <;> with_reducible rfl)
            (try simp only [Act.put, List.setIfInBounds_toArray, List.set_cons_zero, List.set_cons_succ])
            (try simp only [List.getElem_toArray, List.getElem_cons_zero, List.getElem_cons_succ, Act.put, List.setIfInBounds_toArray, List.set_cons_zero, List.set_cons_succ])
            refine wpAnyH_take (i := 6) (oi := _) (v := ?_) rfl (by decide +kernel) (by decide +kernel) (by decide +kernel) (fun _ _ _ h => h) (Or.inl ⟨by rfl, ?_⟩) (by assumption) ?_
            rotate_left
            · (intro w hSw; (try dsimp only at hSw); go_simp <;> with_reducible rfl)
            (try simp only [Act.put, List.setIfInBounds_toArray, List.set_cons_zero, List.set_cons_succ])
            (try simp only [List.getElem_toArray, List.getElem_cons_zero, List.getElem_cons_succ, Act.put, List.setIfInBounds_toArray, List.set_cons_zero, List.set_cons_succ])
            refine wpAnyH_ready (rs := [7]) (by decide +kernel) (by simp) ?_
            refine AllReadyH.cons (o := _) rfl (fun K hK => ?_) AllReadyH.nil
            (go_simp; have hM4 : Blk ((w3.alloc (.cells #[.int .i64 1, .int .i64 (s.first : Int), .int .i64 0, .int .i64 m.kind, .int .u64 m.epoch, .int .u64 m.seq, .int .u64 m.pos, .int .i64 m.count, .int .i64 m.state, .slice a1 m.streams.length a1', .slice a2 m.links.length a2', .slice a3 m.data.length a3', .int .u64 m.sea.epoch, .int .u64 m.sea.node, .int .u64 m.sea.tail, .int .u64 m.proj.epoch, .slice a4 m.proj.stripes.length a4', .int .u64 0, .int .u64 0, .slice none 0 0] 50)).drew) w.heap.size 45 #[.int .i64 m.kind, .int .u64 m.epoch, .int .u64 m.seq, .int .u64 m.pos, .int .i64 m.count, .int .i64 m.state, .slice a1 m.streams.length a1', .slice a2 m.links.length a2', .slice a3 m.data.length a3', .int .u64 m.sea.epoch, .int .u64 m.sea.node, .int .u64 m.sea.tail, .int .u64 m.proj.epoch, .slice a4 m.proj.stripes.length a4'] := (hM3.alloc _).drew; have y24 : ((w3.alloc (.cells #[.int .i64 1, .int .i64 (s.first : Int), .int .i64 0, .int .i64 m.kind, .int .u64 m.epoch, .int .u64 m.seq, .int .u64 m.pos, .int .i64 m.count, .int .i64 m.state, .slice a1 m.streams.length a1', .slice a2 m.links.length a2', .slice a3 m.data.length a3', .int .u64 m.sea.epoch, .int .u64 m.sea.node, .int .u64 m.sea.tail, .int .u64 m.proj.epoch, .slice a4 m.proj.stripes.length a4', .int .u64 0, .int .u64 0, .slice none 0 0] 50)).drew).cell? ⟨g, 2, none⟩ = some (.int .i64 (s.first : Int)) := ((HI3.out.par.blk.alloc _).drew).cell 2)
            refine hK.out _ _ ?_ (fun hHeld => ?_)
            · ((try dsimp only); refine ⟨?_, ?_⟩ <;> (first | with_reducible assumption | (with_reducible refine Blk.alloc (Blk.drew ?_) _; with_reducible assumption) | (go_keep; done)))
            clear hK K
            (try simp only [Act.put, List.setIfInBounds_toArray, List.set_cons_zero, List.set_cons_succ])
            clear hM4 y24
            have hb4 : Below w3.heap.size w3 ((w3.alloc (.cells #[.int .i64 1, .int .i64 (s.first : Int), .int .i64 0, .int .i64 m.kind, .int .u64 m.epoch, .int .u64 m.seq, .int .u64 m.pos, .int .i64 m.count, .int .i64 m.state, .slice a1 m.streams.length a1', .slice a2 m.links.length a2', .slice a3 m.data.length a3', .int .u64 m.sea.epoch, .int .u64 m.sea.node, .int .u64 m.sea.tail, .int .u64 m.proj.epoch, .slice a4 m.proj.stripes.length a4', .int .u64 0, .int .u64 0, .slice none 0 0] 50)).drew) := by (repeat (first | with_reducible exact Below.refl _ _ | with_reducible assumption | (with_reducible refine below_alloc ?_ _) | (with_reducible refine Below.setCell ?_ (by first | omega | (simp; done) | (simp; omega)) _) | (with_reducible refine Below.drew ?_) | (with_reducible refine below_drewN ?_ _) | (refine below_then (by with_reducible assumption) ?_)))
            have HI4 := hid (HI3.out.later hb4)
            obtain ⟨cells, hcE⟩ := HI4.out.own
            have hrow := hcE.1
            rw [List.length_map] at hrow
            have HROW := hid hrow
            have HCE := hid hcE
            have X4 := hid (MsgIn.keepS (S' := fun q => W.heap.size ≤ q ∧ q < ((w3.alloc (.cells #[.int .i64 1, .int .i64 (s.first : Int), .int .i64 0, .int .i64 m.kind, .int .u64 m.epoch, .int .u64 m.seq, .int .u64 m.pos, .int .i64 m.count, .int .i64 m.state, .slice a1 m.streams.length a1', .slice a2 m.links.length a2', .slice a3 m.data.length a3', .int .u64 m.sea.epoch, .int .u64 m.sea.node, .int .u64 m.sea.tail, .int .u64 m.proj.epoch, .slice a4 m.proj.stripes.length a4', .int .u64 0, .int .u64 0, .slice none 0 0] 50)).drew).heap.size) X3.out (fun q hq => hb4.block q hq.2) (fun q hq => ⟨hq.1, Nat.lt_of_lt_of_le hq.2 hb4.size⟩))
            have hz4 : w.heap.size + 2 ≤ ((w3.alloc (.cells #[.int .i64 1, .int .i64 (s.first : Int), .int .i64 0, .int .i64 m.kind, .int .u64 m.epoch, .int .u64 m.seq, .int .u64 m.pos, .int .i64 m.count, .int .i64 m.state, .slice a1 m.streams.length a1', .slice a2 m.links.length a2', .slice a3 m.data.length a3', .int .u64 m.sea.epoch, .int .u64 m.sea.node, .int .u64 m.sea.tail, .int .u64 m.proj.epoch, .slice a4 m.proj.stripes.length a4', .int .u64 0, .int .u64 0, .slice none 0 0] 50)).drew).heap.size := HI4.out.sz
            have hwn : ∀ q, W.heap.size ≤ q → (Value.slice aJ s.buf.length cJ).ownBlock ≠ some q ∧ (Value.slice aO E0.length cO).ownBlock ≠ some q := fun q hq => ⟨fun e => HNV.out q e hq, fun e => HNO.out q e hq⟩
            have hx4 : rEvX.r (fun q => (w.heap.size + 2 ≤ q ∧ q < ((w3.alloc (.cells #[.int .i64 1, .int .i64 (s.first : Int), .int .i64 0, .int .i64 m.kind, .int .u64 m.epoch, .int .u64 m.seq, .int .u64 m.pos, .int .i64 m.count, .int .i64 m.state, .slice a1 m.streams.length a1', .slice a2 m.links.length a2', .slice a3 m.data.length a3', .int .u64 m.sea.epoch, .int .u64 m.sea.node, .int .u64 m.sea.tail, .int .u64 m.proj.epoch, .slice a4 m.proj.stripes.length a4', .int .u64 0, .int .u64 0, .slice none 0 0] 50)).drew).heap.size ∧ (Value.slice aJ s.buf.length cJ).ownBlock ≠ some q) ∧ (Value.slice aO E0.length cO).ownBlock ≠ some q) ((w3.alloc (.cells #[.int .i64 1, .int .i64 (s.first : Int), .int .i64 0, .int .i64 m.kind, .int .u64 m.epoch, .int .u64 m.seq, .int .u64 m.pos, .int .i64 m.count, .int .i64 m.state, .slice a1 m.streams.length a1', .slice a2 m.links.length a2', .slice a3 m.data.length a3', .int .u64 m.sea.epoch, .int .u64 m.sea.node, .int .u64 m.sea.tail, .int .u64 m.proj.epoch, .slice a4 m.proj.stripes.length a4', .int .u64 0, .int .u64 0, .slice none 0 0] 50)).drew) (evCells (Ev.x (evItem s.first m)) a1 a1' a2 a2' a3 a3' a4 a4' none 0) (Ev.x (evItem s.first m)) :=
              rEvX.mono (ev_mk ⟨X4.out, inU_z, inU_z, rSl_mk (xs := []) rfl (Nat.le_refl _) (Nat.zero_le _) (.inl rfl)⟩) fun q hq => ⟨⟨by omega, hq.2, (hwn q hq.1).1⟩, (hwn q hq.1).2⟩
            have HX4 := hid hx4
            clear hx4 hwn X4 X3 hcE hrow hb4 HI3
            refine wpAnyH_ready (rs := [8]) (by decide +kernel) (by simp) ?_
            refine AllReadyH.cons (o := _) rfl (fun K hK => ?_) AllReadyH.nil
            (refine step_append_src (by rfl) _ _ _ (by rfl) (w.heap.size + 2) 50 j0 (.agg #[.int .i64 0, .int .i64 0, .int .i64 0, .int .i64 0, .int .u64 0, .int .u64 0, .int .u64 0, .int .i64 0, .int .i64 0, .slice none 0 0, .slice none 0 0, .slice none 0 0, .int .u64 0, .int .u64 0, .int .u64 0, .int .u64 0, .slice none 0 0, .int .u64 0, .int .u64 0, .slice none 0 0]) 20 240 Tryz.underlying25 hj hy0 hy1 hy2 rfl (by decide) (.slice aO E0.length cO) E0.length cells.flatten (by rfl) HROW.out (some ⟨w3.heap.size, 0, none⟩) 1 1 (evCells (Ev.x (evItem s.first m)) a1 a1' a2 a2' a3 a3' a4 a4' none 0) (by rfl) (src_new1 w3.drew 50 _ (by rfl) (by rfl) rfl) ev_ones (by simp only [maxLen]; omega) (by omega) hz4 ?_; intro a9 c9 w9 hown9 hgrow9 hat9; have HI9 := hid (HI4.out.tell HCE.out (x := Ev.x (evItem s.first m)) rfl HX4.out (by rw [List.length_map]; exact hown9) hgrow9 hat9); have hM9 := (hM3.later (show Below w3.heap.size w3 ((w3.alloc (.cells #[.int .i64 1, .int .i64 (s.first : Int), .int .i64 0, .int .i64 m.kind, .int .u64 m.epoch, .int .u64 m.seq, .int .u64 m.pos, .int .i64 m.count, .int .i64 m.state, .slice a1 m.streams.length a1', .slice a2 m.links.length a2', .slice a3 m.data.length a3', .int .u64 m.sea.epoch, .int .u64 m.sea.node, .int .u64 m.sea.tail, .int .u64 m.proj.epoch, .slice a4 m.proj.stripes.length a4', .int .u64 0, .int .u64 0, .slice none 0 0] 50)).drew) by (repeat (first | with_reducible exact Below.refl _ _ | with_reducible assumption | (with_reducible refine below_alloc ?_ _) | (with_reducible refine Below.setCell ?_ (by first | omega | (simp; done) | (simp; omega)) _) | (with_reducible refine Below.drew ?_) | (with_reducible refine below_drewN ?_ _) | (refine below_then (by with_reducible assumption) ?_))))).grown hgrow9 (fun e => by have := (own_lt2 HROW.out _ e.symm).1; omega); have hG9 := HI9.out.par.blk.cell 2; have m2 : w9.cell? ⟨g, 2, none⟩ = some (.int .i64 (s.first : Int)) := hG9; clear hown9 hgrow9 hat9 hG9; (try dsimp only))
            refine hK.out _ _ ?_ (fun hHeld => ?_)
            · ((try dsimp only); refine ⟨?_, ?_⟩ <;> (first | with_reducible assumption | (with_reducible refine Blk.alloc (Blk.drew ?_) _; with_reducible assumption) | (go_keep; done)))
            clear hK K
            (try simp only [Act.put, List.setIfInBounds_toArray, List.set_cons_zero, List.set_cons_succ])
            (try simp only [List.getElem_toArray, List.getElem_cons_zero, List.getElem_cons_succ, Act.put, List.setIfInBounds_toArray, List.set_cons_zero, List.set_cons_succ])
            refine wpAnyH_take (i := 9) (oi := _) (v := ?_) rfl (by decide +kernel) (by decide +kernel) (by decide +kernel) (fun _ _ _ h => h) (Or.inl ⟨by rfl, ?_⟩) (by assumption) ?_
            rotate_left
            · (intro w hSw; (try dsimp only at hSw); go_simp <;> with_reducible rfl)
            (try simp only [Act.put, List.setIfInBounds_toArray, List.set_cons_zero, List.set_cons_succ])
            refine wpAnyH_done (by kernel_rfl) ?_ _
            clear y0 y1 y2 y3 y4 y5 ly m2 hM9 hM3 HI4 HROW HCE HX4
            obtain ⟨y0, y1, y2, y3, y4, y5, ly⟩ := par_blk HI9.out.par.blk
            obtain ⟨z0, z1, z2, z3, z4, z5⟩ := par_free HI9.out.par.blk
            have hI11 := ((HI9.out.setfirst s.fed).setneed 0).drop
            dsimp only at hI11
            have em : E0.map Ev.x ++ [Ev.x (evItem s.first m)] = (E0 ++ [evItem s.first m]).map Ev.x := by simp
            rw [em] at hI11
            have HI11 := hid hI11
            have hst := HST.out
            rw [goP_go (s := ⟨[], s.fed, s.fed, 0, s.ended⟩) HSE.out] at hst
            have HST2 := hid hst
            clear hI11 em HST hst HI9
            go_wp2
            go_step3
            have hfd := HFD.out
            exact ⟨.inl ⟨rfl, ⟨[], s.fed, s.fed, 0, s.ended⟩, i, E0 ++ [evItem s.first m], .slice none 0 0, a9, _, c9, HI11.out, ⟨hil, hfd, by dsimp only [List.length_nil]; omega, Nat.le_refl _, by rw [List.length_append]; simp; omega, HSE.out, by rw [List.length_append]; rfl⟩, HST2, fr_mk⟩, Nat.lt_succ_self _⟩
          · have HG := hid (fun (W' : World) => (by have := fault_good W' k f; rw [decide_eq_false hk] at this; exact this : Calls Tryz.prog 65 #[.agg #[.int .i64 k, .int .i64 f]] W' fun r w' => r = .returned (.bool false) ∧ Below W'.heap.size W' w'))
            have hst := HST.out
            rw [if_neg hk, goP_bad (s := ⟨[], s.first, s.fed, s.need, 4⟩) (show (4 : Int) ≠ 0 by decide)] at hst
            have HST2 := hid hst
            have HK := hid hk
            clear hst HST hk
            go_wp2_with fail
            refine (HG.out _).mono ?_
            rintro r w3 ⟨rfl, hb3⟩
            have HI3 := hid (HI2.out.later hb3)
            have HF3 := hid (HF2.out.later hb3)
            go_wp2
            go_step3
            have hfd := HFD.out
            exact ⟨.inr (.inr (.inl ⟨rfl, s, i, E0, _, aO, _, cO, k, f, HI3.out, ⟨hil, hfd, hbl, hfr, by omega, HSE.out, rfl⟩, HF3.out, HK.out, HST2, fr_mk⟩)), by show 1 < 4 * _ + 3; omega⟩
      · refine ⟨_, rfl, ?_⟩
        have HFD := hid hfd
        have hfq : s.fed ≤ 200000000 := by omega
        clear hfd
        have hsz := hI.sz
        have HI := hid hI
        have HBD := hid (push_bad1 W hI.par k f hk)
        obtain ⟨r0, r1, r2, r3, lr⟩ := f_blk hF
        have hst := hrel.out
        simp only [Prod.mk.injEq] at hst
        obtain ⟨rfl, rfl⟩ := hst
        clear hI hF hk hrel
        go_wp2_with fail
        refine HBD.out.mono ?_
        rintro r w1 ⟨rfl, hp1, ht1⟩
        have HI2 := hid ((HI.out.bad hp1 ht1).later (show Below w1.heap.size w1 (w1.alloc (.cells #[.int .i64 4, .int .i64 (wrap64 (f + (s.first : Int))), .int .i64 k, .int .i64 0, .int .u64 0, .int .u64 0, .int .u64 0, .int .i64 0, .int .i64 0, .slice none 0 0, .slice none 0 0, .slice none 0 0, .int .u64 0, .int .u64 0, .int .u64 0, .int .u64 0, .slice none 0 0, .int .u64 0, .int .u64 0, .slice none 0 0] 50)) by (repeat (first | with_reducible exact Below.refl _ _ | with_reducible assumption | (with_reducible refine below_alloc ?_ _) | (with_reducible refine Below.setCell ?_ (by first | omega | (simp; done) | (simp; omega)) _) | (with_reducible refine Below.drew ?_) | (with_reducible refine below_drewN ?_ _) | (refine below_then (by with_reducible assumption) ?_)))))
        obtain ⟨cells, hcE⟩ := HI2.out.own
        have hrow := hcE.1
        rw [List.length_map] at hrow
        have HROW := hid hrow
        have HCE := hid hcE
        have hz2 : w.heap.size + 2 ≤ (w1.alloc (.cells #[.int .i64 4, .int .i64 (wrap64 (f + (s.first : Int))), .int .i64 k, .int .i64 0, .int .u64 0, .int .u64 0, .int .u64 0, .int .i64 0, .int .i64 0, .slice none 0 0, .slice none 0 0, .slice none 0 0, .int .u64 0, .int .u64 0, .int .u64 0, .int .u64 0, .slice none 0 0, .int .u64 0, .int .u64 0, .slice none 0 0] 50)).heap.size := HI2.out.sz
        have HX := hid (show rEvX.r (fun q => (w.heap.size + 2 ≤ q ∧ q < (w1.alloc (.cells #[.int .i64 4, .int .i64 (wrap64 (f + (s.first : Int))), .int .i64 k, .int .i64 0, .int .u64 0, .int .u64 0, .int .u64 0, .int .i64 0, .int .i64 0, .slice none 0 0, .slice none 0 0, .slice none 0 0, .int .u64 0, .int .u64 0, .int .u64 0, .int .u64 0, .slice none 0 0, .int .u64 0, .int .u64 0, .slice none 0 0] 50)).heap.size ∧ (Value.slice none 0 0).ownBlock ≠ some q) ∧ (Value.slice aO E0.length cO).ownBlock ≠ some q) (w1.alloc (.cells #[.int .i64 4, .int .i64 (wrap64 (f + (s.first : Int))), .int .i64 k, .int .i64 0, .int .u64 0, .int .u64 0, .int .u64 0, .int .i64 0, .int .i64 0, .slice none 0 0, .slice none 0 0, .slice none 0 0, .int .u64 0, .int .u64 0, .int .u64 0, .int .u64 0, .slice none 0 0, .int .u64 0, .int .u64 0, .slice none 0 0] 50)) (evCells (Ev.x (evBad (wrap64 (f + (s.first : Int))) k)) none 0 none 0 none 0 none 0 none 0) (Ev.x (evBad (wrap64 (f + (s.first : Int))) k)) from ev_mk evIn_flat)
        clear hp1 ht1 hcE hrow r0 r1 r2 r3 lr HBD HI
        generalize hFV : wrap64 (f + (s.first : Int)) = FV at *
        have HFV := hid hFV
        clear hFV
        go_wp2_with (at_builtin; go_loud (refine wpList_append_src rfl _ _ _ rfl (w.heap.size + 2) 50 j0 (.agg #[.int .i64 0, .int .i64 0, .int .i64 0, .int .i64 0, .int .u64 0, .int .u64 0, .int .u64 0, .int .i64 0, .int .i64 0, .slice none 0 0, .slice none 0 0, .slice none 0 0, .int .u64 0, .int .u64 0, .int .u64 0, .int .u64 0, .slice none 0 0, .int .u64 0, .int .u64 0, .slice none 0 0]) 20 240 Tryz.underlying25 hj hy0 hy1 hy2 rfl (by decide) (.slice aO E0.length cO) E0.length cells.flatten rfl HROW.out (some ⟨w1.heap.size, 0, none⟩) 1 1 (evCells (Ev.x (evBad FV k)) none 0 none 0 none 0 none 0 none 0) rfl (src_new1 w1 50 _ rfl rfl rfl) ev_ones (by simp only [maxLen]; omega) (by omega) hz2 ?_; intro v5 w5 hown5 hgrow5 hat5; obtain ⟨a5, c5, rfl⟩ := own_form hown5; have HI5 := hid (HI2.out.tell HCE.out (x := Ev.x (evBad FV k)) rfl HX.out (by rw [List.length_map]; exact hown5) hgrow5 hat5); clear hown5 hgrow5 hat5))
        go_step3
        go_wp2
        simp only [manyX]
        go_ret
        have hFV := HFV.out
        subst hFV
        have hI5 := HI5.out
        have em : E0.map Ev.x ++ [Ev.x (evBad (wrap64 (f + (s.first : Int))) k)] = (E0 ++ [evBad (wrap64 (f + (s.first : Int))) k]).map Ev.x := by simp
        rw [em] at hI5
        exact ⟨.slice none 0 0, _, rfl, hI5.par, hI5.told, hI5.vb.imp id (fun h q e => by have := h q e; omega), hI5.tch⟩
      · refine ⟨_, rfl, ?_⟩
        subst hEE
        have HI := hid hI
        clear hI
        go_wp2
        simp only [manyX]
        go_ret
        exact ⟨v, _, rfl, HI.out.par, HI.out.told, HI.out.vb.imp id (fun h q e => by have := h q e; omega), HI.out.tch⟩
    case first =>
      intro K hK
      go_wp2_with fail
      refine HO.out.mono ?_
      rintro r w1 ⟨rfl, rfl⟩
      have hW : Below w.heap.size w ((w.alloc (.cells #[.int .i64 0, .int .u64 0, .int .u64 0, .int .u64 0, .int .i64 0, .int .i64 0, .slice none 0 0, .slice none 0 0, .slice none 0 0, .int .u64 0, .int .u64 0, .int .u64 0, .int .u64 0, .slice none 0 0] 45)).alloc (.cells #[.int .i64 0, .int .i64 0] 65)) := by (repeat (first | with_reducible exact Below.refl _ _ | with_reducible assumption | (with_reducible refine below_alloc ?_ _) | (with_reducible refine Below.setCell ?_ (by first | omega | (simp; done) | (simp; omega)) _) | (with_reducible refine Below.drew ?_) | (with_reducible refine below_drewN ?_ _) | (refine below_then (by with_reducible assumption) ?_)))
      have hI : FeedI w g v0 B a c s0 v0 [] (.slice none 0 0) ((w.alloc (.cells #[.int .i64 0, .int .u64 0, .int .u64 0, .int .u64 0, .int .i64 0, .int .i64 0, .slice none 0 0, .slice none 0 0, .slice none 0 0, .int .u64 0, .int .u64 0, .int .u64 0, .int .u64 0, .slice none 0 0] 45)).alloc (.cells #[.int .i64 0, .int .i64 0] 65)) :=
        ⟨HP.out.later hW, .inl rfl, ⟨[], OwnElsF.nil⟩, (fun q e => by cases e), ⟨_, _, _, _, _, _, _, _, _, _, _, _, _, _, by (repeat (first | assumption | exact Blk.newAt _ _ _ (by first | (simp; done) | (simp; omega)) | refine Blk.alloc ?_ _ | refine Blk.drew ?_ | refine Blk.drewN ?_ _ | refine Blk.far ?_ (by first | (simp; done) | (simp; omega)) _))⟩, ⟨0, 0, by (repeat (first | assumption | exact Blk.newAt _ _ _ (by first | (simp; done) | (simp; omega)) | refine Blk.alloc ?_ _ | refine Blk.drew ?_ | refine Blk.drewN ?_ _ | refine Blk.far ?_ (by first | (simp; done) | (simp; omega)) _))⟩, rBytes.keep HL.out fun q hq => hW.block q hq.1, ((Tch.refl _ _).alloc _).alloc _, by simp, hgl, fun q e => (HP.out.at_ q e).2⟩
      have HI := hid hI
      clear hI hW
      go_wp2
      go_step3
      rename_i hkk
      exact hkk _ _ (hK _ _ (.inl ⟨(by trivial), s0, 0, [], v0, none, 0, 0, HI.out, ⟨Nat.zero_le _, rfl, Nat.le_refl _, hfi, Nat.le_refl _, HE.out, rfl⟩, hid (by rw [List.drop_zero, List.nil_append]; exact HR.out), fr_mk⟩))
  · rw [if_neg he]
    rw [decide_eq_false he, Bool.true_and] at HO
    clear hl h he
    go_enter Tryz.func20, Tryz.ntmps20
    go_wp2
    refine wp_scope_straight ?_
    go_wp2_with fail
    refine HO.out.mono ?_
    rintro r w1 ⟨rfl, rfl⟩
    go_wp2_with fail
    simp only [Exit.noGoto]
    go_ret
    exact ⟨v0, _, rfl, HP.out.later (by (repeat (first | with_reducible exact Below.refl _ _ | with_reducible assumption | (with_reducible refine below_alloc ?_ _) | (with_reducible refine Below.setCell ?_ (by first | omega | (simp; done) | (simp; omega)) _) | (with_reducible refine Below.drew ?_) | (with_reducible refine below_drewN ?_ _) | (refine below_then (by with_reducible assumption) ?_)))), OutEv.nil, .inl rfl, ((Tch.refl _ _).alloc _).alloc _⟩
end Go.Proofs.YtfddhafbhceoaaaGreat
namespace Go.Bs
open Go.RowKit
set_option linter.unusedVariables false
theorem OwnElsF.app {α : Type} {w w' : World} {F : Nat → Prop} {A : Rp α} {base : Nat} {e : TypeId} {sz : Nat} {v v' : Value} {xs ys : List α} {news : List (List Value)} {cells : List (List Value)} (h : OwnElsF F A base e sz w v xs cells) (hF : ∀ b, F b → b < w.heap.size)
    (hl : news.length = ys.length) (hn : ∀ c ∈ news, c.length = sz) (hx : ∀ (i : Nat) cs y, news[i]? = some cs → ys[i]? = some y → A.r (fun b => F b ∧ v.ownBlock ≠ some b) w cs y)
    (hown : w'.ownsRow base e sz v' (xs.length + ys.length) (cells.flatten ++ news.flatten)) (hg : w.grownBy w' v.ownBlock) (hat : v'.ownBlock = v.ownBlock ∨ v'.ownBlock = some w.heap.size) : OwnElsF F A base e sz w' v' (xs ++ ys) (cells ++ news) := by
  obtain ⟨ho, hlen, hsz, hA⟩ := h
  have lift : ∀ cs y, A.r (fun b => F b ∧ v.ownBlock ≠ some b) w cs y → A.r (fun b => F b ∧ v'.ownBlock ≠ some b) w' cs y := fun cs y hr =>
    A.mono (A.keep hr fun b hb => hg.block b (hF b hb.1) (fun e => hb.2 e.symm)) fun b hb => ⟨hb.1, fun e => by
      rcases hat with h | h
      · exact hb.2 (h ▸ e)
      · rw [h] at e; have := Option.some.inj e; have := hF b hb.1; omega⟩
  refine ⟨?_, by simp [hlen, hl], ?_, ?_⟩
  · rw [List.flatten_append, List.length_append]
    exact hown
  · intro c hc
    rcases List.mem_append.1 hc with h | h
    · exact hsz c h
    · exact hn c h
  · intro i cs y hi hy
    by_cases hlt : i < xs.length
    · rw [List.getElem?_append_left (by omega)] at hi
      rw [List.getElem?_append_left hlt] at hy
      exact lift _ _ (hA i cs y hi hy)
    · rw [List.getElem?_append_right (by omega), hlen] at hi
      rw [List.getElem?_append_right (by omega)] at hy
      exact lift _ _ (hx _ _ _ hi hy)
theorem sl_cells {α : Type} {sz : Nat} {A : Rp α} {S : Nat → Prop} {w : World} {a : Option Addr} {n c : Nat} {xs : List α} (h : (rSl sz A).r S w [.slice a n c] xs) (hone : ∀ cs x, A.r S w cs x → ∀ u ∈ cs, u.oneCell' = true) :
    ∃ cells : List (List Value), cells.length = xs.length ∧ (∀ c ∈ cells, c.length = sz) ∧ (∀ (i : Nat) cs x, cells[i]? = some cs → xs[i]? = some x → A.r S w cs x) ∧ (∀ w' : World, (∀ q, S q → w'.heap[q]? = w.heap[q]?) → Src w' a xs.length sz cells.flatten) ∧ ∀ u ∈ cells.flatten, u.oneCell' = true := by
  obtain ⟨a', c', e, h1, h2, h3⟩ := h
  simp at e
  obtain ⟨rfl, rfl, rfl⟩ := e
  rcases h3 with rfl | ⟨b, off, rfl, hS, hr⟩
  · exact ⟨[], rfl, by simp, by simp, fun _ _ => ⟨by simp, .inl rfl⟩, by simp⟩
  · have hc : ∀ i : Fin xs.length, ∃ cs : List Value, cs.length = sz ∧ (∀ j v, cs[j]? = some v → w.cell? ⟨b, off + i.1 * sz + j, none⟩ = some v) ∧ A.r S w cs xs[i] := fun i => hr i.1 xs[i] (List.getElem?_eq_getElem i.2)
    obtain ⟨f, hf⟩ := Classical.axiomOfChoice hc
    have hlen : ∀ c ∈ List.ofFn f, c.length = sz := fun c hc => by
      obtain ⟨i, rfl⟩ := List.mem_ofFn.1 hc
      exact (hf i).1
    refine ⟨List.ofFn f, by simp, hlen, fun i cs x hi hx => ?_, fun w' hkp => ⟨?_, .inr ⟨b, off, rfl, fun j u hu => ?_⟩⟩, fun u hu => ?_⟩
    · have hil := (List.getElem?_eq_some_iff.1 hx).1
      rw [List.getElem?_ofFn, dif_pos hil] at hi
      injection hi with hi
      subst hi
      rw [List.getElem?_eq_getElem hil] at hx
      injection hx with hx
      subst hx
      exact (hf ⟨i, hil⟩).2.2
    · rw [flatten_len sz _ hlen]; simp
    · have hj := (List.getElem?_eq_some_iff.1 hu).1
      rw [flatten_len sz _ hlen, List.length_ofFn] at hj
      have hs0 : 0 < sz := by exact (Nat.eq_zero_or_pos sz).elim (fun h => by subst h; simp at hj) id
      have hi : j / sz < xs.length := by rw [Nat.div_lt_iff_lt_mul hs0]; exact hj
      have hk : j % sz < (f ⟨j / sz, hi⟩).length := by rw [(hf _).1]; exact Nat.mod_lt _ hs0
      have e2 := flatten_at sz (List.ofFn f) hlen (j / sz) (j % sz) (f ⟨j / sz, hi⟩) _ (by rw [List.getElem?_ofFn, dif_pos hi]) (List.getElem?_eq_getElem hk)
      have e3 : j / sz * sz + j % sz = j := by rw [Nat.mul_comm]; exact Nat.div_add_mod j sz
      rw [e3, hu] at e2
      have e4 := (hf ⟨j / sz, hi⟩).2.1 (j % sz) u (by rw [List.getElem?_eq_getElem hk, ← e2])
      rw [show off + j = off + j / sz * sz + j % sz by omega]
      exact (World.cell?_of_block (a := ⟨b, off + j / sz * sz + j % sz, none⟩) (hkp b hS)).trans e4
    · obtain ⟨c, hc, hu⟩ := List.mem_flatten.1 hu
      obtain ⟨i, rfl⟩ := List.mem_ofFn.1 hc
      exact hone _ _ (hf i).2.2 u hu
end Go.Bs
namespace Go.Proofs.YtfddhafbhceoaaaGreat
open Go.RowKit Go.Bs Go.Maps
set_option linter.unusedVariables false
set_option linter.unusedSimpArgs false

theorem evx_one {S : Nat → Prop} {w : World} (cs : List Value) (x : EvX) (h : rEvX.r S w cs x) : ∀ u ∈ cs, u.oneCell' = true := by
  obtain ⟨a1, c1, a2, c2, a3, c3, a4, c4, a5, c5, rfl, _⟩ := ev_cells h
  exact ev_ones
theorem OutEv.tch {F : Nat → Prop} {w w1 w2 : World} {vb vo : Value} {E : List EvX} (h : OutEv w vb w1 vo E) (ht : Tch F w1 w2) (hF : ∀ q, w.heap.size ≤ q → q < w1.heap.size → ¬ F q) : OutEv w vb w2 vo E := by
  obtain ⟨cells, hc⟩ := h.own
  exact ⟨⟨cells, (hc.keep (fun b e => ht.block b e.2.1 (hF b e.1 e.2.1)) (fun q e => ht.block q (own_lt2 hc.1 q e).2 (hF q (own_lt2 hc.1 q e).1 (own_lt2 hc.1 q e).2))).mono fun b e => ⟨e.1, Nat.lt_of_lt_of_le e.2.1 ht.size, e.2.2⟩⟩, h.ne⟩
set_option maxRecDepth 100000 in
set_option maxHeartbeats 6400000 in
theorem push_all1 (w : World) (B : List UInt8) (a : Option Addr) (n c : Nat) (hl : rBytes.r (· < w.heap.size) w [.slice a n c] B) (hB : B.length ≤ 100000000) :
    Calls Tryz.prog 18 #[.slice a n c] w fun r w' => ∃ vo, r = .returned vo ∧ rEvs.r (fun q => w.heap.size ≤ q ∧ q < w'.heap.size) w' [vo] ((allE B).map Ev.x) ∧ Below w.heap.size w w' := by
  obtain ⟨rfl, hmx, hcc, hcm⟩ := sl_len hl
  obtain ⟨j0, hj, hy0, hy1, hy2⟩ := info_parts infoEvt
  have HL := hid hl
  have HN := hid (push_new w)
  have hlen := (feedP_fed B newP).2.2
  have hcl := closeP_len (feedP newP B).1
  have hal := hid (show (allE B).map Ev.x = (feedP newP B).2.map Ev.x ++ (closeP (feedP newP B).1).2.map Ev.x by unfold allE; rw [List.map_append])
  have HF := hid (fun (W : World) (h : ParAt W w.heap.size (.slice none 0 0) newP) (hb : rBytes.r (fun q => q < W.heap.size ∧ q ≠ w.heap.size ∧ (Value.slice none 0 0).ownBlock ≠ some q) W [.slice a B.length c] B) => push_feed W h B a _ c hb hB (Nat.zero_le _) (Nat.zero_le _) (Nat.le_refl _))
  have hfo : feedO newP B = feedP newP B := if_pos rfl
  rw [hfo] at HF
  generalize feedP newP B = R at *
  obtain ⟨s1, E1⟩ := R
  dsimp only at hlen hcl hal HF
  have HC := hid (fun (W : World) (v : Value) (h : ParAt W w.heap.size v s1) => push_close W h)
  generalize closeP s1 = Q at *
  obtain ⟨s2, E2⟩ := Q
  dsimp only at hcl hal HC
  have hl1 : (E1.map Ev.x).length ≤ B.length := by rw [List.length_map]; exact hlen
  have hl2 : (E2.map Ev.x).length ≤ 1 := by rw [List.length_map]; exact hcl
  generalize E1.map Ev.x = L1 at *
  generalize E2.map Ev.x = L2 at *
  clear hl hlen hcl hfo
  go_enter Tryz.func18, Tryz.ntmps18
  go_wp2_with fail
  refine HN.out.mono ?_
  rintro r w1 ⟨rfl, hp1, hb1⟩
  have hz1 : w.heap.size < w1.heap.size := hp1.blk.lt
  have HD := hid (show rBytes.r (fun q => q < w1.heap.size ∧ q ≠ w.heap.size ∧ (Value.slice none 0 0).ownBlock ≠ some q) w1 [.slice a B.length c] B from rBytes.mono (rBytes.keep HL.out fun q hq => hb1.block q hq) fun q hq => ⟨by omega, by omega, fun e => by cases e⟩)
  have HP1 := hid hp1
  have HB1 := hid hb1
  clear hp1 hb1
  go_wp2_with fail
  refine (HF.out w1 HP1.out HD.out).mono ?_
  rintro r w2 ⟨v2, vo, rfl, hp2, ho2, hv2, ht2⟩
  have HP2 := hid hp2
  have HO2 := hid ho2
  have hz2 := ht2.size
  have HB2 := hid (HB1.out.trans (ht2.to_below HB1.out.size fun b hb e => by rcases e with e | e <;> first | omega | cases e))
  clear hp2 ho2 hv2 ht2
  go_wp2_with fail
  refine (HC.out w2 v2 HP2.out).mono ?_
  rintro r w3 ⟨v3, vc, rfl, hr3, hp3, hv3, ht3⟩
  have hz3 := ht3.size
  have HB3 := hid (HB2.out.trans (ht3.to_below HB2.out.size fun b hb e => by omega))
  obtain ⟨cells0, hc0⟩ := HO2.out.own
  have hlo0 := own_lt2 hc0.1
  clear hc0
  obtain ⟨cells, hc3⟩ := (HO2.out.tch ht3 (fun q h1 h2 e => by omega)).own
  obtain ⟨aO, cO, rfl⟩ := own_form hc3.1
  obtain ⟨aC, cC, hfv, hr3', _⟩ := sl_form hr3
  simp only [List.cons.injEq, and_true] at hfv
  subst hfv
  obtain ⟨news, n1, n2, n3, n4, n5⟩ := sl_cells hr3' (fun cs x h => evx_one cs x h)
  have HN1 := hid n1
  have HN2 := hid n2
  have HN3 := hid n3
  have HN4 := hid (n4 w3 (fun q _ => rfl))
  have HN5 := hid n5
  have HC3 := hid hc3
  have hlo := hid hlo0
  clear hlo0
  clear n1 n2 n3 n4 n5 hc3 hr3 hr3' hp3 hv3 ht3 HO2 HP2 HP1
  go_wp2_with (at_builtin; go_loud (refine wpList_append_src rfl _ _ _ rfl w1.heap.size 50 j0 (.agg #[.int .i64 0, .int .i64 0, .int .i64 0, .int .i64 0, .int .u64 0, .int .u64 0, .int .u64 0, .int .i64 0, .int .i64 0, .slice none 0 0, .slice none 0 0, .slice none 0 0, .int .u64 0, .int .u64 0, .int .u64 0, .int .u64 0, .slice none 0 0, .int .u64 0, .int .u64 0, .slice none 0 0]) 20 240 Tryz.underlying25 hj hy0 hy1 hy2 rfl (by decide) (.slice aO L1.length cO) L1.length cells.flatten rfl HC3.out.1 aC L2.length cC news.flatten rfl HN4.out HN5.out (by simp only [maxLen]; omega) (by omega) (by omega) ?_; intro v5 w5 hown5 hgrow5 hat5; have HO5 := hid (OwnElsF.app (F := fun q => w.heap.size ≤ q ∧ q < w3.heap.size) (HC3.out.mono fun b e => ⟨by omega, e.2.1⟩) (fun b e => e.2) HN1.out HN2.out (fun i cs y h1 h2 => rEvX.mono (HN3.out i cs y h1 h2) fun b e => ⟨⟨by omega, e.2⟩, fun e2 => by have := (hlo.out b e2).2; omega⟩) hown5 hgrow5 hat5); have HB5 := hid (Below.grown HB3.out hgrow5 (by omega) (fun g e => by have := (hlo.out g e).1; omega)); have hz5 := hgrow5.size; clear hown5 hgrow5 hat5))
  go_ret
  rw [hal.out]
  exact ⟨_, rfl, rEvs.mono HO5.out.slice fun b e => by
    rcases e with e | e
    · omega
    · have := own_lt2 HO5.out.1 b e
      omega, HB5.out⟩

theorem pushD_quiet {S : List UInt8} {f p : Nat} (hp : p < S.length) (h : QuietP (S.drop p)) : pushD S (f + 1) p = ([], p, 0) := by
  rw [pushD_succ, if_pos hp]
  rcases h with h | ⟨h1, h2⟩
  · rw [if_neg (fun hh => hh.2 h), if_pos (.inl (wholeN_short h))]
  · rw [if_neg (fun hh => by omega), if_pos (.inr h2)]
theorem push_live {m : Msg} (hN : MsgN m) (hR : rpcR m = true) (hs : inU m.seq) :
    allE (frameB (payB m) ++ (frameB (payB m)).take ((frameB (payB m)).length - 1)) = [evItem 0 m, ⟨3, ((frameB (payB m) ++ (frameB (payB m)).take ((frameB (payB m)).length - 1)).length : Nat), 1, noMsg⟩] := by
  have h5 := frameB_low (payB m)
  have hw := (wholeN_frame (rest := []) (payB_most hR)).1
  rw [List.append_nil] at hw
  have hall : allB [m] = frameB (payB m) := by simp [allB]
  generalize hF : frameB (payB m) = F at *
  have hq : QuietP (F.take (F.length - 1)) := quiet_part hw (by omega)
  have hTl : (F.take (F.length - 1)).length = F.length - 1 := by rw [List.length_take]; omega
  generalize F.take (F.length - 1) = T at *
  have h := pushD_all (F ++ T) [m] T ((F ++ T).length + 1) 0 (fun x hx => by
    rw [List.mem_singleton] at hx
    subst hx
    exact ⟨hN, hR, hs⟩) (by rw [List.drop_zero, hall]) (Nat.zero_le _) (by simp)
  have hd : (F ++ T).drop F.length = T := List.drop_left
  have hlt : F.length < (F ++ T).length := by rw [List.length_append]; omega
  obtain ⟨g, hg⟩ : ∃ g, (F ++ T).length + 1 - [m].length = g + 1 := ⟨(F ++ T).length - 1, by simp; omega⟩
  have e0 : pushD (F ++ T) (g + 1) (0 + (allB [m]).length) = ([], F.length, 0) := by
    rw [hall, Nat.zero_add]
    exact pushD_quiet hlt (by rw [hd]; exact hq)
  rw [hg, e0] at h
  rw [all_doc]
  unfold docE
  rw [h]
  dsimp only
  rw [if_pos ⟨rfl, rfl⟩, if_pos hlt, List.append_nil]
  rfl

def Bare (m : Msg) : Prop := hasK m.kind 8 = false ∧ hasK m.kind 16 = false ∧ hasK m.kind 64 = false ∧ hasK m.kind 128 = false ∧ blockK m.kind m.state = false
set_option maxRecDepth 100000 in
set_option maxHeartbeats 6400000 in
theorem body_putb (w : World) {g base most : Nat} {J : List UInt8} {a : Option Addr} {c : Nat} (h : PenAt w g base most J a c) (m : Msg) (a1 : Option Addr) (c1 : Nat) (a2 : Option Addr) (c2 : Nat) (a3 : Option Addr) (c3 : Nat) (a4 : Option Addr) (c4 : Nat) (hd : MsgIn (fun q => q < w.heap.size ∧ ¬ PenF g a q) w m a1 c1 a2 c2 a3 c3 a4 c4)
    (hbk : ∀ x ∈ m.links, x.backs.length ≤ 1000000) (hR : msgR m = true) (hno : Bare m) (hfit : J.length + (msgB m).length ≤ most) (hln : J.length + (msgB m).length ≤ 100000000000000) :
    Calls Tryz.prog 234 #[.pointer (some ⟨g, 0, none⟩), .agg #[.int .i64 m.kind, .int .u64 m.epoch, .int .u64 m.seq, .int .u64 m.pos, .int .i64 m.count, .int .i64 m.state, .slice a1 m.streams.length c1, .slice a2 m.links.length c2, .slice a3 m.data.length c3, .int .u64 m.sea.epoch, .int .u64 m.sea.node, .int .u64 m.sea.tail, .int .u64 m.proj.epoch, .slice a4 m.proj.stripes.length c4]] w fun r w' => r = .returned (.tuple #[]) ∧ PenStep w g base most (J ++ msgB m) a w' := by
  have hml : (msgB m).length = (partB (hasK m.kind 1) (varB m.pos.toNat)).length + (partB (hasK m.kind 2) (varB m.count.toNat)).length + (partB (hasK m.kind 4) ([UInt8.ofNat m.state.toNat])).length + (partB (hasK m.kind 8) (setB m.streams)).length + (partB (hasK m.kind 16) (linksB m.pos m.links)).length + (partB (blockK m.kind m.state) (blockB m.data)).length + (partB (hasK m.kind 64) (sealB m.sea)).length + (partB (hasK m.kind 128) (projB m.proj)).length := by simp only [msgB, List.length_append]
  rw [hml] at hfit hln
  have hmb : msgB m = partB (hasK m.kind 1) (varB m.pos.toNat) ++ partB (hasK m.kind 2) (varB m.count.toNat) ++ partB (hasK m.kind 4) ([UInt8.ofNat m.state.toNat]) ++ partB (hasK m.kind 8) (setB m.streams) ++ partB (hasK m.kind 16) (linksB m.pos m.links) ++ partB (blockK m.kind m.state) (blockB m.data) ++ partB (hasK m.kind 64) (sealB m.sea) ++ partB (hasK m.kind 128) (projB m.proj) := rfl
  have HRT := hid (fun (W : World) (hW : Below w.heap.size w W) => body_right m a1 c1 a2 c2 a3 c3 a4 c4 W (MsgIn.lift (MsgIn.low hd) hW) (fun x hx => by have := hbk x hx; omega))
  rw [hR] at HRT
  have HHD := hid (fun (W : World) => body_hasdata m a1 c1 a2 c2 a3 c3 a4 c4 W)
  have HM := hid (msgR_parts hR)
  have HBK := hid hbk
  have HNO := hid hno
  have HP := hid h
  have HD := hid hd
  have HLT := hid (fun q (hq : PenF g a q) => (h.own_lt hq).2)
  have hdl := HM.out.data
  clear h hd hR hbk hml hno
  go_enter Tryz.func234, Tryz.ntmps234
  go_wp2_with fail
  refine (HRT.out _ (by (repeat (first | with_reducible exact Below.refl _ _ | with_reducible assumption | (with_reducible refine below_alloc ?_ _) | (with_reducible refine Below.setCell ?_ (by first | omega | (simp; done) | (simp; omega)) _) | (with_reducible refine Below.drew ?_) | (with_reducible refine below_drewN ?_ _) | (refine below_then (by with_reducible assumption) ?_))))).mono ?_
  rintro r w1 ⟨rfl, hb1⟩
  have hbw1 : Below w.heap.size w w1 := by (repeat (first | with_reducible exact Below.refl _ _ | with_reducible assumption | (with_reducible refine below_alloc ?_ _) | (with_reducible refine Below.setCell ?_ (by first | omega | (simp; done) | (simp; omega)) _) | (with_reducible refine Below.drew ?_) | (with_reducible refine below_drewN ?_ _) | (refine below_then (by with_reducible assumption) ?_)))
  have hI1 : PutI w1 g base most J a c w.heap.size (w.heap.size + 1) m a1 c1 a2 c2 a3 c3 a4 c4 := ⟨HP.out.later hbw1, Blk.later ((Blk.newAt w 202 #[.pointer (some ⟨g, 0, none⟩)] rfl).alloc _) hb1, Blk.later (Blk.newAt _ 45 #[.int .i64 m.kind, .int .u64 m.epoch, .int .u64 m.seq, .int .u64 m.pos, .int .i64 m.count, .int .i64 m.state, .slice a1 m.streams.length c1, .slice a2 m.links.length c2, .slice a3 m.data.length c3, .int .u64 m.sea.epoch, .int .u64 m.sea.node, .int .u64 m.sea.tail, .int .u64 m.proj.epoch, .slice a4 m.proj.stripes.length c4] (by simp)) hb1, fun hf => by have := HLT.out _ hf; omega, fun hf => by have := HLT.out _ hf; omega, MsgIn.tr (fun A cs x hx => pen_later hbw1 hx) HD.out⟩
  have HBW1 := hid hbw1
  clear hb1 hbw1
  have q1_0 : w1.cell? ⟨w.heap.size, 0, none⟩ = some (.pointer (some ⟨g, 0, none⟩)) := hI1.pa.cell 0
  have HC1 := hid (put_has1 hI1 (varB m.pos.toNat) (fun hh W hW => put_pos (hI1.later hW) (HM.out.pos hh) (by (try simp only [List.length_append]); have := partB_true (X := (varB m.pos.toNat)) hh; omega) (by (try simp only [List.length_append]); have := partB_true (X := (varB m.pos.toNat)) hh; omega)))
  have HI1 := hid hI1
  clear hI1
  go_wp2_with fail
  refine HC1.out.mono ?_
  rintro r w2 ⟨rfl, hst⟩
  obtain ⟨a2', c2', hI2, ht, ha⟩ := HI1.out.step hst
  have HT1 := hid (And.intro ht ha)
  clear hst ht ha
  have q2_0 : w2.cell? ⟨w.heap.size, 0, none⟩ = some (.pointer (some ⟨g, 0, none⟩)) := hI2.pa.cell 0
  have HC2 := hid (put_has2 hI2 (varB m.count.toNat) (fun hh W hW => put_count (hI2.later hW) (HM.out.count hh) (by (try simp only [List.length_append]); have := partB_true (X := (varB m.count.toNat)) hh; omega) (by (try simp only [List.length_append]); have := partB_true (X := (varB m.count.toNat)) hh; omega)))
  have HI2 := hid hI2
  clear hI2
  go_wp2_with fail
  refine HC2.out.mono ?_
  rintro r w3 ⟨rfl, hst⟩
  obtain ⟨a3', c3', hI3, ht, ha⟩ := HI2.out.step hst
  have HT2 := hid (And.intro ht ha)
  clear hst ht ha
  have q3_0 : w3.cell? ⟨w.heap.size, 0, none⟩ = some (.pointer (some ⟨g, 0, none⟩)) := hI3.pa.cell 0
  have HC3 := hid (put_has4 hI3 ([UInt8.ofNat m.state.toNat]) (fun hh W hW => put_state (hI3.later hW) (by have := HM.out.state hh; have := mostK_le m.kind; omega) (by (try simp only [List.length_append]); have := partB_true (X := ([UInt8.ofNat m.state.toNat])) hh; omega) (by (try simp only [List.length_append]); have := partB_true (X := ([UInt8.ofNat m.state.toNat])) hh; omega)))
  have HI3 := hid hI3
  clear hI3
  go_wp2_with fail
  refine HC3.out.mono ?_
  rintro r w4 ⟨rfl, hst⟩
  obtain ⟨a4', c4', hI4, ht, ha⟩ := HI3.out.step hst
  have HT3 := hid (And.intro ht ha)
  clear hst ht ha
  have q4_0 : w4.cell? ⟨w.heap.size, 0, none⟩ = some (.pointer (some ⟨g, 0, none⟩)) := hI4.pa.cell 0
  have HC4 := hid (put_has8 hI4 (setB m.streams) (fun hh => absurd hh (by rw [HNO.out.1]; decide)))
  have HI4 := hid hI4
  clear hI4
  go_wp2_with fail
  refine HC4.out.mono ?_
  rintro r w5 ⟨rfl, hst⟩
  obtain ⟨a5', c5', hI5, ht, ha⟩ := HI4.out.step hst
  have HT4 := hid (And.intro ht ha)
  clear hst ht ha
  have q5_0 : w5.cell? ⟨w.heap.size, 0, none⟩ = some (.pointer (some ⟨g, 0, none⟩)) := hI5.pa.cell 0
  have HC5 := hid (put_has16 hI5 (linksB m.pos m.links) (fun hh => absurd hh (by rw [HNO.out.2.1]; decide)))
  have HI5 := hid hI5
  clear hI5
  go_wp2_with fail
  refine HC5.out.mono ?_
  rintro r w6 ⟨rfl, hst⟩
  obtain ⟨a6', c6', hI6, ht, ha⟩ := HI5.out.step hst
  have HT5 := hid (And.intro ht ha)
  clear hst ht ha
  have q6_0 : w6.cell? ⟨w.heap.size, 0, none⟩ = some (.pointer (some ⟨g, 0, none⟩)) := hI6.pa.cell 0
  have z6_0 : w6.cell? ⟨w.heap.size + 1, 0, none⟩ = some (.int .i64 m.kind) := hI6.pb.cell 0
  have z6_1 : w6.cell? ⟨w.heap.size + 1, 1, none⟩ = some (.int .u64 m.epoch) := hI6.pb.cell 1
  have z6_2 : w6.cell? ⟨w.heap.size + 1, 2, none⟩ = some (.int .u64 m.seq) := hI6.pb.cell 2
  have z6_3 : w6.cell? ⟨w.heap.size + 1, 3, none⟩ = some (.int .u64 m.pos) := hI6.pb.cell 3
  have z6_4 : w6.cell? ⟨w.heap.size + 1, 4, none⟩ = some (.int .i64 m.count) := hI6.pb.cell 4
  have z6_5 : w6.cell? ⟨w.heap.size + 1, 5, none⟩ = some (.int .i64 m.state) := hI6.pb.cell 5
  have z6_6 : w6.cell? ⟨w.heap.size + 1, 6, none⟩ = some (.slice a1 m.streams.length c1) := hI6.pb.cell 6
  have z6_7 : w6.cell? ⟨w.heap.size + 1, 7, none⟩ = some (.slice a2 m.links.length c2) := hI6.pb.cell 7
  have z6_8 : w6.cell? ⟨w.heap.size + 1, 8, none⟩ = some (.slice a3 m.data.length c3) := hI6.pb.cell 8
  have z6_9 : w6.cell? ⟨w.heap.size + 1, 9, none⟩ = some (.int .u64 m.sea.epoch) := hI6.pb.cell 9
  have z6_10 : w6.cell? ⟨w.heap.size + 1, 10, none⟩ = some (.int .u64 m.sea.node) := hI6.pb.cell 10
  have z6_11 : w6.cell? ⟨w.heap.size + 1, 11, none⟩ = some (.int .u64 m.sea.tail) := hI6.pb.cell 11
  have z6_12 : w6.cell? ⟨w.heap.size + 1, 12, none⟩ = some (.int .u64 m.proj.epoch) := hI6.pb.cell 12
  have z6_13 : w6.cell? ⟨w.heap.size + 1, 13, none⟩ = some (.slice a4 m.proj.stripes.length c4) := hI6.pb.cell 13
  have HI6 := hid hI6
  clear hI6
  go_wp2_with fail
  refine (HHD.out _).mono ?_
  rintro r v6 ⟨rfl, hb6⟩
  have hJ6 := HI6.out.later hb6
  clear z6_0 z6_1 z6_2 z6_3 z6_4 z6_5 z6_6 z6_7 z6_8 z6_9 z6_10 z6_11 z6_12 z6_13
  have u6_0 : v6.cell? ⟨w.heap.size, 0, none⟩ = some (.pointer (some ⟨g, 0, none⟩)) := hJ6.pa.cell 0
  have u6_8 : v6.cell? ⟨w.heap.size + 1, 8, none⟩ = some (.slice a3 m.data.length c3) := hJ6.pb.cell 8
  have HK6 : Hid (blockK m.kind m.state = true → Calls Tryz.prog 276 #[.pointer (some ⟨g, 0, none⟩), .slice a3 m.data.length c3] v6 fun r w' => r = .returned (.tuple #[]) ∧ PenStep v6 g base most (J ++ partB (hasK m.kind 1) (varB m.pos.toNat) ++ partB (hasK m.kind 2) (varB m.count.toNat) ++ partB (hasK m.kind 4) ([UInt8.ofNat m.state.toNat]) ++ partB (hasK m.kind 8) (setB m.streams) ++ partB (hasK m.kind 16) (linksB m.pos m.links) ++ blockB m.data) a6' w') := hid (fun hh => absurd hh (by rw [HNO.out.2.2.2.2]; decide))
  have HJ6 := hid hJ6
  have HB6 := hid hb6
  clear hJ6 hb6
  go_upto_if 27 with (fail)
  go_cut [27] from 28 to 31 (fun s27 V => ∃ a' c', PutI V g base most (J ++ partB (hasK m.kind 1) (varB m.pos.toNat) ++ partB (hasK m.kind 2) (varB m.count.toNat) ++ partB (hasK m.kind 4) ([UInt8.ofNat m.state.toNat]) ++ partB (hasK m.kind 8) (setB m.streams) ++ partB (hasK m.kind 16) (linksB m.pos m.links) ++ partB (blockK m.kind m.state) (blockB m.data)) a' c' w.heap.size (w.heap.size + 1) m a1 c1 a2 c2 a3 c3 a4 c4 ∧ Tch (PenF g a6') v6 V ∧ (a'.map Addr.block = a6'.map Addr.block ∨ ∃ q, a'.map Addr.block = some q ∧ v6.heap.size ≤ q))
  case first =>
    have HK := HK6.out
    have hq : blockK m.kind m.state = true ∨ blockK m.kind m.state = false := by cases blockK m.kind m.state <;> simp
    rcases hq with hq | hq
    · have HKK := hid (HK hq)
      clear HK
      rw [hq]
      go_wp2_with fail
      refine HKK.out.mono ?_
      rintro r x1 ⟨rfl, hst⟩
      obtain ⟨a', c', hI, ht, ha⟩ := HJ6.out.step hst
      go_wp2_with fail
      go_meet
      case rel => exact ⟨a', c', by simpa [partB, hq] using hI, ht, ha⟩
    · clear HK
      rw [hq]
      go_wp2_with fail
      go_meet
      case rel => exact ⟨a6', c6', by simpa [partB, hq] using HJ6.out, Tch.refl _ _, .inl rfl⟩
  case rest =>
  obtain ⟨a7', c7', hI7, ht, ha⟩ := hcut
  obtain ⟨w7, hwn⟩ : ∃ W : World, W = wc := ⟨_, rfl⟩
  subst hwn
  have HT6 := hid (And.intro ht ha)
  clear ht ha
  have q7_0 : w7.cell? ⟨w.heap.size, 0, none⟩ = some (.pointer (some ⟨g, 0, none⟩)) := hI7.pa.cell 0
  have HC7 := hid (put_has64 hI7 (sealB m.sea) (fun hh => absurd hh (by rw [HNO.out.2.2.1]; decide)))
  have HI7 := hid hI7
  clear hI7
  go_wp2_with fail
  refine HC7.out.mono ?_
  rintro r w8 ⟨rfl, hst⟩
  obtain ⟨a8', c8', hI8, ht, ha⟩ := HI7.out.step hst
  have HT7 := hid (And.intro ht ha)
  clear hst ht ha
  have q8_0 : w8.cell? ⟨w.heap.size, 0, none⟩ = some (.pointer (some ⟨g, 0, none⟩)) := hI8.pa.cell 0
  have HC8 := hid (put_has128 hI8 (projB m.proj) (fun hh => absurd hh (by rw [HNO.out.2.2.2.1]; decide)))
  have HI8 := hid hI8
  clear hI8
  go_wp2_with fail
  refine HC8.out.mono ?_
  rintro r w9 ⟨rfl, hst⟩
  obtain ⟨a9', c9', hI9, ht, ha⟩ := HI8.out.step hst
  have HT8 := hid (And.intro ht ha)
  clear hst ht ha
  have hn := PenStep.refl hI9.pen
  have hn := PenStep.trans (J := J) HT8.out.1 HT8.out.2 hn
  have hn := PenStep.trans (J := J) HT7.out.1 HT7.out.2 hn
  have hn := PenStep.trans (J := J) HT6.out.1 HT6.out.2 hn
  have hn := PenStep.later HB6.out hn
  have hn := PenStep.trans (J := J) HT5.out.1 HT5.out.2 hn
  have hn := PenStep.trans (J := J) HT4.out.1 HT4.out.2 hn
  have hn := PenStep.trans (J := J) HT3.out.1 HT3.out.2 hn
  have hn := PenStep.trans (J := J) HT2.out.1 HT2.out.2 hn
  have hn := PenStep.trans (J := J) HT1.out.1 HT1.out.2 hn
  have hn := PenStep.later HBW1.out hn
  have HST := hid hn
  clear hn hI9
  go_wp2_with fail
  first | go_end0 | refine bodyPost_ret (results_none rfl _ _ _) rfl ?_
  refine ⟨rfl, ?_⟩
  have := HST.out
  rw [hmb]
  simpa only [List.append_assoc] using this
set_option maxRecDepth 100000 in
set_option maxHeartbeats 6400000 in
theorem body_bytesb (w : World) (m : Msg) (a1 : Option Addr) (c1 : Nat) (a2 : Option Addr) (c2 : Nat) (a3 : Option Addr) (c3 : Nat) (a4 : Option Addr) (c4 : Nat) (hd : MsgIn (· < w.heap.size) w m a1 c1 a2 c2 a3 c3 a4 c4) (hbk : ∀ x ∈ m.links, x.backs.length ≤ 1000000) (hln : m.data.length ≤ 10000000000) (hR : msgR m = true) (hno : Bare m) :
    Calls Tryz.prog 159 #[.agg #[.int .i64 m.kind, .int .u64 m.epoch, .int .u64 m.seq, .int .u64 m.pos, .int .i64 m.count, .int .i64 m.state, .slice a1 m.streams.length c1, .slice a2 m.links.length c2, .slice a3 m.data.length c3, .int .u64 m.sea.epoch, .int .u64 m.sea.node, .int .u64 m.sea.tail, .int .u64 m.proj.epoch, .slice a4 m.proj.stripes.length c4]] w fun r w' => ∃ v, r = .returned (.tuple #[v, .int .i64 (msgBytes m).2]) ∧ rBytes.r (fun q => w.heap.size ≤ q ∧ q < w'.heap.size) w' [v] (msgBytes m).1 ∧ Below w.heap.size w w' := by
  have HD := hid hd
  have hmo : (65536 : Int) + (m.data.length : Int) = ((65536 + m.data.length : Nat) : Int) := by omega
  have HN := hid (fun W : World => (by have := pen_new W (65536 + m.data.length) (by omega); rw [← hmo] at this; exact this : Calls Tryz.prog 160 #[.int .i64 ((65536 : Int) + (m.data.length : Int))] W fun r w' => r = .returned (.pointer (some ⟨W.heap.size, 0, none⟩)) ∧ PenAt w' W.heap.size W.heap.size (65536 + m.data.length) [] none 0 ∧ Below W.heap.size W w'))
  unfold msgBytes
  have HBX : Hid (Blk (w.alloc (.cells #[.int .i64 m.kind, .int .u64 m.epoch, .int .u64 m.seq, .int .u64 m.pos, .int .i64 m.count, .int .i64 m.state, .slice a1 m.streams.length c1, .slice a2 m.links.length c2, .slice a3 m.data.length c3, .int .u64 m.sea.epoch, .int .u64 m.sea.node, .int .u64 m.sea.tail, .int .u64 m.proj.epoch, .slice a4 m.proj.stripes.length c4] 45)) w.heap.size 45 #[.int .i64 m.kind, .int .u64 m.epoch, .int .u64 m.seq, .int .u64 m.pos, .int .i64 m.count, .int .i64 m.state, .slice a1 m.streams.length c1, .slice a2 m.links.length c2, .slice a3 m.data.length c3, .int .u64 m.sea.epoch, .int .u64 m.sea.node, .int .u64 m.sea.tail, .int .u64 m.proj.epoch, .slice a4 m.proj.stripes.length c4]) := hid (Blk.new w _ _)
  have hb0 : Below w.heap.size w (w.alloc (.cells #[.int .i64 m.kind, .int .u64 m.epoch, .int .u64 m.seq, .int .u64 m.pos, .int .i64 m.count, .int .i64 m.state, .slice a1 m.streams.length c1, .slice a2 m.links.length c2, .slice a3 m.data.length c3, .int .u64 m.sea.epoch, .int .u64 m.sea.node, .int .u64 m.sea.tail, .int .u64 m.proj.epoch, .slice a4 m.proj.stripes.length c4] 45)) := by (repeat (first | exact Below.refl _ _ | assumption | (refine below_alloc ?_ _) | (refine Below.setCell ?_ (by first | omega | (simp; done) | (simp; omega)) _) | (refine Below.drew ?_) | (refine below_drewN ?_ _) | (refine below_then (by assumption) ?_)))
  rw [if_pos hR]
  have hbl := msgB_len hR
  have HPT := hid (fun (W : World) {g base most : Nat} {a : Option Addr} {c : Nat} (h : PenAt W g base most [] a c) (hW : MsgIn (fun q => q < W.heap.size ∧ ¬ PenF g a q) W m a1 c1 a2 c2 a3 c3 a4 c4) (hf : (msgB m).length ≤ most) => body_putb W h m a1 c1 a2 c2 a3 c3 a4 c4 hW hbk hR hno (by simpa using hf) (by simp; omega))
  have hfit : (msgB m).length ≤ 65536 + m.data.length := by omega
  generalize msgB m = K at *
  clear hd hR hbk hmo hbl hno
  go_enter Tryz.func159, Tryz.ntmps159
  go_wp2_with fail
  generalize w.alloc (.cells #[.int .i64 m.kind, .int .u64 m.epoch, .int .u64 m.seq, .int .u64 m.pos, .int .i64 m.count, .int .i64 m.state, .slice a1 m.streams.length c1, .slice a2 m.links.length c2, .slice a3 m.data.length c3, .int .u64 m.sea.epoch, .int .u64 m.sea.node, .int .u64 m.sea.tail, .int .u64 m.proj.epoch, .slice a4 m.proj.stripes.length c4] 45) = w0 at *
  refine (HN.out _).mono ?_
  rintro r w2 ⟨rfl, hp2, hb2⟩
  have hB2 := HBX.out.later hb2
  have y0 : w2.cell? ⟨w.heap.size, 0, none⟩ = some (.int .i64 m.kind) := hB2.cell 0
  have y1 : w2.cell? ⟨w.heap.size, 1, none⟩ = some (.int .u64 m.epoch) := hB2.cell 1
  have y2 : w2.cell? ⟨w.heap.size, 2, none⟩ = some (.int .u64 m.seq) := hB2.cell 2
  have y3 : w2.cell? ⟨w.heap.size, 3, none⟩ = some (.int .u64 m.pos) := hB2.cell 3
  have y4 : w2.cell? ⟨w.heap.size, 4, none⟩ = some (.int .i64 m.count) := hB2.cell 4
  have y5 : w2.cell? ⟨w.heap.size, 5, none⟩ = some (.int .i64 m.state) := hB2.cell 5
  have y6 : w2.cell? ⟨w.heap.size, 6, none⟩ = some (.slice a1 m.streams.length c1) := hB2.cell 6
  have y7 : w2.cell? ⟨w.heap.size, 7, none⟩ = some (.slice a2 m.links.length c2) := hB2.cell 7
  have y8 : w2.cell? ⟨w.heap.size, 8, none⟩ = some (.slice a3 m.data.length c3) := hB2.cell 8
  have y9 : w2.cell? ⟨w.heap.size, 9, none⟩ = some (.int .u64 m.sea.epoch) := hB2.cell 9
  have y10 : w2.cell? ⟨w.heap.size, 10, none⟩ = some (.int .u64 m.sea.node) := hB2.cell 10
  have y11 : w2.cell? ⟨w.heap.size, 11, none⟩ = some (.int .u64 m.sea.tail) := hB2.cell 11
  have y12 : w2.cell? ⟨w.heap.size, 12, none⟩ = some (.int .u64 m.proj.epoch) := hB2.cell 12
  have y13 : w2.cell? ⟨w.heap.size, 13, none⟩ = some (.slice a4 m.proj.stripes.length c4) := hB2.cell 13
  have hbw2 := below_then hb2 hb0
  have hs1 := hb0.size
  have HPA := hid hp2
  have HP2 := hid (HPT.out w2 hp2 (MsgIn.tr (fun A cs x hx => A.mono (A.keep hx fun q hq => hbw2.block q hq) fun q hq => ⟨by have := hbw2.size; omega, fun hf => by have := (hp2.own_lt hf).1; omega⟩) HD.out) hfit)
  clear hp2 hB2
  go_wp2_with fail
  refine HP2.out.mono ?_
  rintro r w3 ⟨rfl, hst⟩
  rw [List.nil_append] at hst
  have hbw3 : Below w.heap.size w w3 := hbw2.trans (HPA.out.below hs1 hbw2.size hst)
  obtain ⟨a9, c9, hp3, _, _⟩ := hst
  have HB := hid (pen_bytes w3 hp3)
  have hs3 := hbw3.size
  clear hp3 y0 y1 y2 y3 y4 y5 y6 y7 y8 y9 y10 y11 y12 y13
  go_wp2_with fail
  refine HB.out.mono ?_
  rintro r w4 ⟨v, rfl, hv, hb4⟩
  have hbe := below_then hb4 hbw3
  have HV := hid (rBytes.mono (S' := fun q => w.heap.size ≤ q ∧ q < w4.heap.size) hv fun q hq => ⟨by have := hq.1; omega, hq.2⟩)
  clear hv
  go_wp2_with fail
  go_ret2
  exact ⟨_, rfl, HV.out, hbe⟩

def liveM29 : Msg := ⟨7, 3, 5, 0, 0, 0, [], [], [], ⟨0, 0, 0⟩, ⟨0, []⟩⟩
theorem liveM29_bytes : ∃ l : List UInt8, rpcBytes liveM29 = (3 :: l, 0) ∧ l.length = 7 := ⟨(rpcBytes liveM29).1.tail, by decide +kernel, by decide +kernel⟩

set_option maxRecDepth 100000 in
set_option maxHeartbeats 6400000 in
theorem rpc_payloadb (w : World) (m : Msg) (a1 : Option Addr) (c1 : Nat) (a2 : Option Addr) (c2 : Nat) (a3 : Option Addr) (c3 : Nat) (a4 : Option Addr) (c4 : Nat) (hd : MsgIn (· < w.heap.size) w m a1 c1 a2 c2 a3 c3 a4 c4) (hbk : ∀ x ∈ m.links, x.backs.length ≤ 1000000) (hln : m.data.length ≤ 10000000000) (hR : rpcR m = true) (hno : Bare m) :
    Calls Tryz.prog 99 #[.agg #[.int .i64 m.kind, .int .u64 m.epoch, .int .u64 m.seq, .int .u64 m.pos, .int .i64 m.count, .int .i64 m.state, .slice a1 m.streams.length c1, .slice a2 m.links.length c2, .slice a3 m.data.length c3, .int .u64 m.sea.epoch, .int .u64 m.sea.node, .int .u64 m.sea.tail, .int .u64 m.proj.epoch, .slice a4 m.proj.stripes.length c4]] w fun r w' => ∃ v, r = .returned (.tuple #[v, .int .i64 (payBytes m).2]) ∧ rBytes.r (fun q => w.heap.size ≤ q ∧ q < w'.heap.size) w' [v] (payBytes m).1 ∧ Below w.heap.size w w' := by
  have HRT := hid (fun (W : World) (hW : Below w.heap.size w W) => rpc_right m a1 c1 a2 c2 a3 c3 a4 c4 W (MsgIn.lift hd hW) hbk)
  have HBX : Hid (Blk (w.alloc (.cells #[.int .i64 m.kind, .int .u64 m.epoch, .int .u64 m.seq, .int .u64 m.pos, .int .i64 m.count, .int .i64 m.state, .slice a1 m.streams.length c1, .slice a2 m.links.length c2, .slice a3 m.data.length c3, .int .u64 m.sea.epoch, .int .u64 m.sea.node, .int .u64 m.sea.tail, .int .u64 m.proj.epoch, .slice a4 m.proj.stripes.length c4] 45)) w.heap.size 45 #[.int .i64 m.kind, .int .u64 m.epoch, .int .u64 m.seq, .int .u64 m.pos, .int .i64 m.count, .int .i64 m.state, .slice a1 m.streams.length c1, .slice a2 m.links.length c2, .slice a3 m.data.length c3, .int .u64 m.sea.epoch, .int .u64 m.sea.node, .int .u64 m.sea.tail, .int .u64 m.proj.epoch, .slice a4 m.proj.stripes.length c4]) := hid (Blk.new w _ _)
  have hb0 : Below w.heap.size w (w.alloc (.cells #[.int .i64 m.kind, .int .u64 m.epoch, .int .u64 m.seq, .int .u64 m.pos, .int .i64 m.count, .int .i64 m.state, .slice a1 m.streams.length c1, .slice a2 m.links.length c2, .slice a3 m.data.length c3, .int .u64 m.sea.epoch, .int .u64 m.sea.node, .int .u64 m.sea.tail, .int .u64 m.proj.epoch, .slice a4 m.proj.stripes.length c4] 45)) := by (repeat (first | exact Below.refl _ _ | assumption | (refine below_alloc ?_ _) | (refine Below.setCell ?_ (by first | omega | (simp; done) | (simp; omega)) _) | (refine Below.drew ?_) | (refine below_drewN ?_ _) | (refine below_then (by assumption) ?_)))
  unfold payBytes
  rw [if_pos hR]
  rw [hR] at HRT
  have hR' := hR
  simp only [rpcR, Bool.and_eq_true] at hR'
  obtain ⟨hm, hep⟩ := hR'
  have hk : 1 ≤ m.kind ∧ m.kind ≤ 14 := (msgR_parts hm).kind
  have HBY := hid (fun (W : World) (hW : Below w.heap.size w W) => body_bytesb W m a1 c1 a2 c2 a3 c3 a4 c4 (MsgIn.lift hd hW) hbk hln hm hno)
  unfold msgBytes at HBY
  rw [hm] at HBY
  simp only [if_true] at HBY
  have hml := msgB_len hm
  have hvl := (varB_len m.epoch.toNat).1
  have hsl := (varB_len m.seq.toNat).1
  have he0 := hd.epoch
  have hs0 := hd.seq
  have hpb : payB m = [UInt8.ofNat m.kind.toNat] ++ varB m.epoch.toNat ++ varB m.seq.toNat ++ msgB m := rfl
  rw [hpb]
  generalize msgB m = K at *
  have hmo : (20 : Int) + (K.length : Int) = ((20 + K.length : Nat) : Int) := by omega
  have HN := hid (fun W : World => (by have := pen_new W (20 + K.length) (by omega); rw [← hmo] at this; exact this : Calls Tryz.prog 160 #[.int .i64 ((20 : Int) + (K.length : Int))] W fun r w' => r = .returned (.pointer (some ⟨W.heap.size, 0, none⟩)) ∧ PenAt w' W.heap.size W.heap.size (20 + K.length) [] none 0 ∧ Below W.heap.size W w'))
  have hKl : K.length ≤ 20000000000 := by omega
  have hkz : 0 ≤ m.kind := by omega
  have hky : m.kind ≤ 14 := hk.2
  have hkk : m.kind = ((UInt8.ofNat m.kind.toNat).toNat : Int) := by
    have := byte_small (x := m.kind.toNat) (by omega)
    rw [toNat_cast hkz] at this
    exact this
  have HLT := hid (fun W : World => (by have := lit_one W (UInt8.ofNat m.kind.toNat); rw [← hkk] at this; exact this : rBytes.r (· < (W.alloc (.cells #[.int .u8 m.kind] 5)).heap.size) (W.alloc (.cells #[.int .u8 m.kind] 5)) [.slice (some ⟨W.heap.size, 0, none⟩) 1 1] [UInt8.ofNat m.kind.toNat]))
  have HP1 := hid (fun (W : World) (g base : Nat) (h : PenAt W g base (20 + K.length) [] none 0) (ad : Option Addr) (hD : rBytes.r (· < W.heap.size) W [.slice ad 1 1] [UInt8.ofNat m.kind.toNat]) => pen_put W h [UInt8.ofNat m.kind.toNat] ad 1 1 hD (by simp; omega) (by simp))
  have HP2 := hid (fun (W : World) (g base : Nat) (a : Option Addr) (c : Nat) (h : PenAt W g base (20 + K.length) [UInt8.ofNat m.kind.toNat] a c) => (by have := epoch_put W h m.epoch.toNat (by rw [toNat_cast he0.1]; exact hep) (by simp; simp only [epR, decide_eq_true_eq] at hep; have := varB_ep hep; omega) (by simp; omega); rw [toNat_cast he0.1] at this; exact this : Calls Tryz.prog 162 #[.pointer (some ⟨g, 0, none⟩), .int .u64 m.epoch] W fun r w' => r = .returned (.tuple #[]) ∧ PenStep W g base (20 + K.length) ([UInt8.ofNat m.kind.toNat] ++ varB m.epoch.toNat) a w'))
  have HP3 := hid (fun (W : World) (g base : Nat) (a : Option Addr) (c : Nat) (h : PenAt W g base (20 + K.length) ([UInt8.ofNat m.kind.toNat] ++ varB m.epoch.toNat) a c) => (by have := varint_put W h m.seq.toNat (by have := hs0.2; omega) (by simp; simp only [epR, decide_eq_true_eq] at hep; have := varB_ep hep; omega) (by simp; omega); rw [toNat_cast hs0.1] at this; exact this : Calls Tryz.prog 163 #[.pointer (some ⟨g, 0, none⟩), .int .u64 m.seq] W fun r w' => r = .returned (.tuple #[]) ∧ PenStep W g base (20 + K.length) ([UInt8.ofNat m.kind.toNat] ++ varB m.epoch.toNat ++ varB m.seq.toNat) a w'))
  have HP4 := hid (fun (W : World) (g base : Nat) (a : Option Addr) (c : Nat) (h : PenAt W g base (20 + K.length) ([UInt8.ofNat m.kind.toNat] ++ varB m.epoch.toNat ++ varB m.seq.toNat) a c) (ad : Option Addr) (cd : Nat) (hD : rBytes.r (· < W.heap.size) W [.slice ad K.length cd] K) => pen_put W h K ad _ cd hD (by simp; simp only [epR, decide_eq_true_eq] at hep; have := varB_ep hep; omega) (by simp; omega))
  generalize [UInt8.ofNat m.kind.toNat] = KB at *
  generalize varB m.epoch.toNat = VE at *
  generalize varB m.seq.toNat = VS at *
  clear hno hd hbk hln hR hm hep hk hml hvl hsl hpb hmo he0 hs0 hkk
  go_enter Tryz.func99, Tryz.ntmps99
  go_wp2_with fail
  generalize (w.alloc (.cells #[.int .i64 m.kind, .int .u64 m.epoch, .int .u64 m.seq, .int .u64 m.pos, .int .i64 m.count, .int .i64 m.state, .slice a1 m.streams.length c1, .slice a2 m.links.length c2, .slice a3 m.data.length c3, .int .u64 m.sea.epoch, .int .u64 m.sea.node, .int .u64 m.sea.tail, .int .u64 m.proj.epoch, .slice a4 m.proj.stripes.length c4] 45)) = w0 at *
  refine (HRT.out _ hb0).mono ?_
  rintro r w1 ⟨rfl, hb1⟩
  have hbw1 := below_then hb1 hb0
  have B1 := HBX.out.later hb1
  have y0 : w1.cell? ⟨w.heap.size, 0, none⟩ = some (.int .i64 m.kind) := B1.cell 0
  have y1 : w1.cell? ⟨w.heap.size, 1, none⟩ = some (.int .u64 m.epoch) := B1.cell 1
  have y2 : w1.cell? ⟨w.heap.size, 2, none⟩ = some (.int .u64 m.seq) := B1.cell 2
  have y3 : w1.cell? ⟨w.heap.size, 3, none⟩ = some (.int .u64 m.pos) := B1.cell 3
  have y4 : w1.cell? ⟨w.heap.size, 4, none⟩ = some (.int .i64 m.count) := B1.cell 4
  have y5 : w1.cell? ⟨w.heap.size, 5, none⟩ = some (.int .i64 m.state) := B1.cell 5
  have y6 : w1.cell? ⟨w.heap.size, 6, none⟩ = some (.slice a1 m.streams.length c1) := B1.cell 6
  have y7 : w1.cell? ⟨w.heap.size, 7, none⟩ = some (.slice a2 m.links.length c2) := B1.cell 7
  have y8 : w1.cell? ⟨w.heap.size, 8, none⟩ = some (.slice a3 m.data.length c3) := B1.cell 8
  have y9 : w1.cell? ⟨w.heap.size, 9, none⟩ = some (.int .u64 m.sea.epoch) := B1.cell 9
  have y10 : w1.cell? ⟨w.heap.size, 10, none⟩ = some (.int .u64 m.sea.node) := B1.cell 10
  have y11 : w1.cell? ⟨w.heap.size, 11, none⟩ = some (.int .u64 m.sea.tail) := B1.cell 11
  have y12 : w1.cell? ⟨w.heap.size, 12, none⟩ = some (.int .u64 m.proj.epoch) := B1.cell 12
  have y13 : w1.cell? ⟨w.heap.size, 13, none⟩ = some (.slice a4 m.proj.stripes.length c4) := B1.cell 13
  go_wp2_with fail
  refine (HBY.out _ hbw1).mono ?_
  rintro r w2 ⟨v2, rfl, hr2, hb2⟩
  obtain ⟨e2, k2, hv2, hr2', _⟩ := sl_form hr2
  simp only [List.cons.injEq, and_true] at hv2
  subst hv2
  have HR2 := hid hr2'
  have hbw2 := below_then hb2 hbw1
  have B2 := B1.later hb2
  have hs1 := hbw1.size
  clear hr2 hr2' y0 y1 y2 y3 y4 y5 y6 y7 y8 y9 y10 y11 y12 y13 B1
  go_wp2_with fail
  refine (HN.out w2).mono ?_
  rintro r w3 ⟨rfl, hp3, hb3⟩
  have B3 := B2.later hb3
  have y0 : w3.cell? ⟨w.heap.size, 0, none⟩ = some (.int .i64 m.kind) := B3.cell 0
  have hbw3 := below_then hb3 hbw2
  have hlb := B2.lt
  have HB3 := hid B3
  have HP := hid hp3
  have HD3 := hid (rp_laterM rBytes HR2.out hb3)
  have hs2 := hbw2.size
  have hs3 := hb3.size
  have HAL := hid (below_alloc (Below.refl w3.heap.size w3) (.cells #[.int .u8 m.kind] 5))
  have HQ1 := hid (HP1.out _ _ _ (HP.out.later HAL.out) _ (HLT.out w3))
  clear hp3 B2 B3
  go_wp2_with fail
  refine HQ1.out.mono ?_
  rintro r w4 ⟨rfl, hst4⟩
  have hst4' := PenStep.later HAL.out hst4
  rw [List.nil_append] at hst4'
  obtain ⟨e4, k4, hp4, ht4, ha4⟩ := hst4'
  have B4 := HB3.out.tch ht4 (fun hf => by rcases penF_is.1 hf with e | e <;> first | omega | (simp at e))
  have y1 : w4.cell? ⟨w.heap.size, 1, none⟩ = some (.int .u64 m.epoch) := B4.cell 1
  have HD4 := hid (rBytes.keep HD3.out fun q hq => ht4.block q (by have := hq.2; omega) (fun hf => by have := hq.2; rcases penF_is.1 hf with e | e <;> first | omega | (simp at e)))
  have HN4 := hid (fun (q : Nat) (h1 : q < w2.heap.size) (hf : PenF w2.heap.size e4 q) => penF_old ha4 (show q < w3.heap.size by omega) (fun hf => by rcases penF_is.1 hf with e | e <;> first | omega | (simp at e)) hf)
  have HB4 := hid B4
  have HQ2 := hid (HP2.out _ _ _ _ _ hp4)
  have hs4 := ht4.size
  have HT4 := hid (And.intro ht4 ha4)
  clear hst4 hp4 ht4 ha4 B4 y0
  go_wp2_with fail
  refine HQ2.out.mono ?_
  rintro r w5 ⟨rfl, e5, k5, hp5, ht5, ha5⟩
  have B5 := HB4.out.tch ht5 (fun hf => HN4.out _ hlb hf)
  have y2 : w5.cell? ⟨w.heap.size, 2, none⟩ = some (.int .u64 m.seq) := B5.cell 2
  have HD5 := hid (rBytes.keep HD4.out fun q hq => ht5.block q (by have := hq.2; omega) (fun hf => HN4.out q hq.2 hf))
  have HN5 := hid (fun (q : Nat) (h1 : q < w2.heap.size) (hf : PenF w2.heap.size e5 q) => penF_old ha5 (show q < w4.heap.size by omega) (fun hf => HN4.out q h1 hf) hf)
  have HQ3 := hid (HP3.out _ _ _ _ _ hp5)
  have hs5 := ht5.size
  have HT5 := hid (And.intro ht5 ha5)
  clear hp5 ht5 ha5 B5 y1
  go_wp2_with fail
  refine HQ3.out.mono ?_
  rintro r w6 ⟨rfl, e6, k6, hp6, ht6, ha6⟩
  have HD6 := hid (rBytes.keep HD5.out fun q hq => ht6.block q (by have := hq.2; omega) (fun hf => HN5.out q hq.2 hf))
  have hs6 := ht6.size
  have HQ4 := hid (HP4.out _ _ _ _ _ hp6 e2 k2 (rBytes.mono HD6.out fun q hq => by have := hq.2; omega))
  have HT6 := hid (And.intro ht6 ha6)
  clear hp6 ht6 ha6 y2
  go_wp2_with fail
  refine HQ4.out.mono ?_
  rintro r w7 ⟨rfl, e7, k7, hp7, ht7, ha7⟩
  have HF := hid (pen_fail0 w7 hp7)
  have HT7 := hid (And.intro ht7 ha7)
  clear hp7 ht7 ha7
  go_wp2_with fail
  refine HF.out.mono ?_
  rintro r w8 ⟨rfl, hst8⟩
  have hst := PenStep.trans (J := KB) HT4.out.1 HT4.out.2 (PenStep.trans (J := KB) HT5.out.1 HT5.out.2 (PenStep.trans (J := KB) HT6.out.1 HT6.out.2 (PenStep.trans (J := KB) HT7.out.1 HT7.out.2 hst8)))
  have hbw8 : Below w.heap.size w w8 := hbw3.trans (HP.out.below (by omega) hbw3.size hst)
  obtain ⟨e8, k8, hp8, _, _⟩ := hst
  have HBB := hid (pen_bytes w8 hp8)
  have hs8 := hbw8.size
  clear hp8 hst8
  go_wp2_with fail
  refine HBB.out.mono ?_
  rintro r w9 ⟨v, rfl, hv, hb9⟩
  have hbe := below_then hb9 hbw8
  have HV := hid (rBytes.mono (S' := fun q => w.heap.size ≤ q ∧ q < w9.heap.size) hv fun q hq => ⟨by have := hq.1; omega, hq.2⟩)
  clear hv
  go_wp2_with fail
  go_ret2
  exact ⟨_, rfl, HV.out, hbe⟩
set_option maxRecDepth 100000 in
set_option maxHeartbeats 6400000 in
theorem rpc_bytesb (w : World) (m : Msg) (a1 : Option Addr) (c1 : Nat) (a2 : Option Addr) (c2 : Nat) (a3 : Option Addr) (c3 : Nat) (a4 : Option Addr) (c4 : Nat) (hd : MsgIn (· < w.heap.size) w m a1 c1 a2 c2 a3 c3 a4 c4) (hbk : ∀ x ∈ m.links, x.backs.length ≤ 1000000) (hln : m.data.length ≤ 2000000) (hR : rpcR m = true) (hno : Bare m) :
    Calls Tryz.prog 56 #[.agg #[.int .i64 m.kind, .int .u64 m.epoch, .int .u64 m.seq, .int .u64 m.pos, .int .i64 m.count, .int .i64 m.state, .slice a1 m.streams.length c1, .slice a2 m.links.length c2, .slice a3 m.data.length c3, .int .u64 m.sea.epoch, .int .u64 m.sea.node, .int .u64 m.sea.tail, .int .u64 m.proj.epoch, .slice a4 m.proj.stripes.length c4]] w fun r w' => ∃ v, r = .returned (.tuple #[v, .int .i64 (rpcBytes m).2]) ∧ rBytes.r (fun q => w.heap.size ≤ q ∧ q < w'.heap.size) w' [v] (rpcBytes m).1 ∧ Below w.heap.size w w' := by
  have HPY := hid (fun (W : World) (hW : Below w.heap.size w W) => rpc_payloadb W m a1 c1 a2 c2 a3 c3 a4 c4 (MsgIn.lift hd hW) hbk (by omega) hR hno)
  have hb0 : Below w.heap.size w (w.alloc (.cells #[.int .i64 m.kind, .int .u64 m.epoch, .int .u64 m.seq, .int .u64 m.pos, .int .i64 m.count, .int .i64 m.state, .slice a1 m.streams.length c1, .slice a2 m.links.length c2, .slice a3 m.data.length c3, .int .u64 m.sea.epoch, .int .u64 m.sea.node, .int .u64 m.sea.tail, .int .u64 m.proj.epoch, .slice a4 m.proj.stripes.length c4] 45)) := by (repeat (first | exact Below.refl _ _ | assumption | (refine below_alloc ?_ _) | (refine Below.setCell ?_ (by first | omega | (simp; done) | (simp; omega)) _) | (refine Below.drew ?_) | (refine below_drewN ?_ _) | (refine below_then (by assumption) ?_)))
  unfold rpcBytes
  unfold payBytes at HPY
  rw [if_pos hR]
  rw [hR] at HPY
  simp only [if_true] at HPY
  have hpl := payB_len hR
  have HFB := hid (fun (W : World) (ad : Option Addr) (cd : Nat) (hD : rBytes.r (· < W.heap.size) W [.slice ad (payB m).length cd] (payB m)) => frame_bytes W (payB m) ad _ cd hD (by omega))
  generalize payB m = P at *
  clear hno hd hbk hR hpl
  go_enter Tryz.func56, Tryz.ntmps56
  go_wp2_with fail
  generalize (w.alloc (.cells #[.int .i64 m.kind, .int .u64 m.epoch, .int .u64 m.seq, .int .u64 m.pos, .int .i64 m.count, .int .i64 m.state, .slice a1 m.streams.length c1, .slice a2 m.links.length c2, .slice a3 m.data.length c3, .int .u64 m.sea.epoch, .int .u64 m.sea.node, .int .u64 m.sea.tail, .int .u64 m.proj.epoch, .slice a4 m.proj.stripes.length c4] 45)) = w0 at *
  refine (HPY.out _ hb0).mono ?_
  rintro r w1 ⟨v1, rfl, hr1, hb1⟩
  obtain ⟨e1, k1, hv1, hr1', _⟩ := sl_form hr1
  simp only [List.cons.injEq, and_true] at hv1
  subst hv1
  have hbw1 := below_then hb1 hb0
  have HFF := hid (HFB.out w1 e1 k1 (rBytes.mono hr1' fun q hq => hq.2))
  have hs1 := hbw1.size
  clear hr1 hr1' hb1
  go_wp2_with fail
  refine HFF.out.mono ?_
  rintro r w2 ⟨x, rfl, ho, hb2⟩
  have hbe := below_then hb2 hbw1
  have HV := hid (rBytes.mono (S' := fun q => w.heap.size ≤ q ∧ q < w2.heap.size) (own_bytes2 rfl ho) fun q hq => ⟨by have := hq.1; omega, hq.2⟩)
  clear ho
  go_wp2_with fail
  go_ret2
  exact ⟨_, rfl, HV.out, hbe⟩

set_option maxRecDepth 100000 in
set_option maxHeartbeats 12800000 in
theorem live38 (w : World) : Calls Tryz.prog 15 #[] w fun r w' => r = .returned (.bool true) ∧ Below w.heap.size w w' := by
  obtain ⟨i0, hi, hz0, hz1, hz2⟩ := info_parts info8
  have hin : ∀ W : World, MsgIn (· < W.heap.size) W liveM29 none 0 none 0 none 0 none 0 := fun W => msgIn_bare ⟨by decide, by decide⟩ ⟨by decide, by decide⟩ ⟨by decide, by decide⟩ ⟨by decide, by decide⟩ ⟨by decide, by decide⟩ ⟨by decide, by decide⟩ rfl rfl rfl ⟨⟨by decide, by decide⟩, ⟨by decide, by decide⟩, ⟨by decide, by decide⟩⟩ ⟨by decide, by decide⟩ rfl
  obtain ⟨FL, hFL, hll⟩ := liveM29_bytes
  have hRp : rpcR liveM29 = true := by decide
  have HA := hid (fun W : World => (by
    have := rpc_bytesb W liveM29 none 0 none 0 none 0 none 0 (hin W) (fun x hx => by simp [liveM29] at hx) (by decide) (by decide) ⟨by decide, by decide, by decide, by decide, by decide⟩
    rw [hFL] at this
    exact this : Calls Tryz.prog 56 #[.agg #[.int .i64 7, .int .u64 3, .int .u64 5, .int .u64 0, .int .i64 0, .int .i64 0, .slice none 0 0, .slice none 0 0, .slice none 0 0, .int .u64 0, .int .u64 0, .int .u64 0, .int .u64 0, .slice none 0 0]] W fun r w' => ∃ v, r = .returned (.tuple #[v, .int .i64 0]) ∧ rBytes.r (fun q => W.heap.size ≤ q ∧ q < w'.heap.size) w' [v] (3 :: FL) ∧ Below W.heap.size W w'))
  have hFR : frameB (payB liveM29) = 3 :: FL := by
    unfold rpcBytes at hFL
    rw [if_pos hRp] at hFL
    exact (Prod.mk.inj hFL).1
  have hlv := push_live (m := liveM29) (msg_nums (hin w)) hRp ⟨by decide, by decide⟩
  have hlen : (3 :: FL).length = 8 := by simp [hll]
  rw [hFR] at hlv
  generalize (3 :: FL) = F at *
  rw [hlen, show 8 - 1 = 7 from rfl] at hlv
  have hTl : (F.take 7).length = 7 := by rw [List.length_take]; omega
  have hAl := hid (fun (W : World) (v : Option Addr) (n c : Nat) (h : rBytes.r (· < W.heap.size) W [.slice v n c] (F ++ F.take 7)) => push_all1 W (F ++ F.take 7) v n c h (by rw [List.length_append, hTl, hlen]; decide))
  rw [hlv] at hAl
  have hL15 : (F ++ F.take 7).length = 15 := by rw [List.length_append, hTl, hlen]
  rw [hL15] at hAl
  have HF8 := hid hlen
  have HT7 := hid hTl
  have HL15 := hid hL15
  have HON1 := hid (byteCells_one F)
  have HON2 := hid (byteCells_one (F.take 7))
  clear hin hFL hll hRp hFR hlv hlen hTl hL15
  go_enter Tryz.func15, Tryz.ntmps15
  go_wp2_with fail
  refine (HA.out _).mono ?_
  rintro r w1 ⟨v1, rfl, hr1, hb1⟩
  obtain ⟨e1, d1, hv1, hs1, _⟩ := sl_form hr1
  simp only [List.cons.injEq, and_true] at hv1
  subst hv1
  have hc8 := (sl_len hs1).2.2
  have ht := sl_take hs1 (k := 7) (by rw [HF8.out]; decide)
  have HS1 := hid (rBytes.mono hs1 (S' := (· < w1.heap.size)) fun q hq => hq.2)
  have HT1 := hid (rBytes.mono ht (S' := (· < w1.heap.size)) fun q hq => hq.2)
  have HB1 := hid hb1
  obtain ⟨eb, eo, hE, _, _⟩ := byte_at (i := 0) hs1 (by rw [HF8.out]; decide)
  subst hE
  rw [HF8.out] at HS1 hc8 ⊢
  clear hr1 hs1 hb1 ht
  go_wp2_with fail
  refine wp_region_held_drew (S := fun _ => True) (by kernel_rfl) trivial (fun hHeld => ?_)
  (try simp only [List.getElem_toArray, List.getElem_cons_zero, List.getElem_cons_succ, Act.put, List.setIfInBounds_toArray, List.set_cons_zero, List.set_cons_succ])
  have hd7 : (7 : Int) ≤ (d1 : Int) := by omega
  refine wpAnyH_take (i := 1) (oi := _) (v := ?_) rfl (by decide +kernel) (by decide +kernel) (by decide +kernel) (fun _ _ _ h => h) (Or.inl ⟨by rfl, ?_⟩) (by assumption) ?_
  rotate_left
  · (intro w hSw; (try dsimp only at hSw); go_simp <;> with_reducible rfl)
  (try simp only [Act.put, List.setIfInBounds_toArray, List.set_cons_zero, List.set_cons_succ])
  refine wpAnyH_take (i := 3) (oi := _) (v := ?_) rfl (by decide +kernel) (by decide +kernel) (by decide +kernel) (fun _ _ _ h => h) (Or.inl ⟨by rfl, ?_⟩) (by assumption) ?_
  rotate_left
  · (intro w hSw; (try dsimp only at hSw); go_simp <;> with_reducible rfl)
  (try simp only [Act.put, List.setIfInBounds_toArray, List.set_cons_zero, List.set_cons_succ])
  refine wpAnyH_take (i := 4) (oi := _) (v := ?_) rfl (by decide +kernel) (by decide +kernel) (by decide +kernel) (fun _ _ _ h => h) (Or.inl ⟨by rfl, ?_⟩) (by assumption) ?_
  rotate_left
  · (intro w hSw; (try dsimp only at hSw); go_simp <;> with_reducible rfl)
  (try simp only [Act.put, List.setIfInBounds_toArray, List.set_cons_zero, List.set_cons_succ])
  refine wpAnyH_take (i := 5) (oi := _) (v := ?_) rfl (by decide +kernel) (by decide +kernel) (by decide +kernel) (fun _ _ _ h => h) (Or.inl ⟨by rfl, ?_⟩) (by assumption) ?_
  rotate_left
  · (intro w hSw; (try dsimp only at hSw); go_simp <;> with_reducible rfl)
  (try simp only [Act.put, List.setIfInBounds_toArray, List.set_cons_zero, List.set_cons_succ])
  (try simp only [List.getElem_toArray, List.getElem_cons_zero, List.getElem_cons_succ, Act.put, List.setIfInBounds_toArray, List.set_cons_zero, List.set_cons_succ])
  refine wpAnyH_take (i := 6) (oi := _) (v := ?_) rfl (by decide +kernel) (by decide +kernel) (by decide +kernel) (fun _ _ _ h => h) (Or.inl ⟨by rfl, ?_⟩) (by assumption) ?_
  rotate_left
  · (intro w hSw; (try dsimp only at hSw); go_simp <;> with_reducible rfl)
  (try simp only [Act.put, List.setIfInBounds_toArray, List.set_cons_zero, List.set_cons_succ])
  (try simp only [List.getElem_toArray, List.getElem_cons_zero, List.getElem_cons_succ, Act.put, List.setIfInBounds_toArray, List.set_cons_zero, List.set_cons_succ])
  simp only [show IntKind.i64.wrap 7 = 7 from by decide]
  refine wpAnyH_take (i := 7) (oi := _) (v := ?_) rfl (by decide +kernel) (by decide +kernel) (by decide +kernel) (fun _ _ _ h => h) (Or.inl ⟨by rfl, ?_⟩) (by assumption) ?_
  rotate_left
  · (intro w hSw; (try dsimp only at hSw); go_simp <;> with_reducible rfl)
  (try simp only [Act.put, List.setIfInBounds_toArray, List.set_cons_zero, List.set_cons_succ])
  (try simp only [List.getElem_toArray, List.getElem_cons_zero, List.getElem_cons_succ, Act.put, List.setIfInBounds_toArray, List.set_cons_zero, List.set_cons_succ])
  refine wpAnyH_take (i := 8) (oi := _) (v := ?_) rfl (by decide +kernel) (by decide +kernel) (by decide +kernel) (fun _ _ _ h => h) (Or.inl ⟨by rfl, ?_⟩) (by assumption) ?_
  rotate_left
  · (intro w hSw; (try dsimp only at hSw); go_simp <;> with_reducible rfl)
  (try simp only [Act.put, List.setIfInBounds_toArray, List.set_cons_zero, List.set_cons_succ])
  (try simp only [List.getElem_toArray, List.getElem_cons_zero, List.getElem_cons_succ, Act.put, List.setIfInBounds_toArray, List.set_cons_zero, List.set_cons_succ])
  refine wpAnyH_ready (rs := [0]) (by decide +kernel) (by simp) ?_
  refine AllReadyH.cons (o := _) rfl (fun K hK => ?_) AllReadyH.nil
  go_simp
  refine hK.out _ _ ?_ (fun hHeld => ?_)
  · trivial
  clear hK K
  (try simp only [Act.put, List.setIfInBounds_toArray, List.set_cons_zero, List.set_cons_succ])
  have B0 : Blk ((w1.alloc (.cells #[] 5)).drew) w1.heap.size 5 #[] := (Blk.new w1 _ _).drew
  have hb0 : Below w1.heap.size w1 ((w1.alloc (.cells #[] 5)).drew) := by (repeat (first | with_reducible exact Below.refl _ _ | with_reducible assumption | (with_reducible refine below_alloc ?_ _) | (with_reducible refine Below.setCell ?_ (by first | omega | (simp; done) | (simp; omega)) _) | (with_reducible refine Below.drew ?_) | (with_reducible refine below_drewN ?_ _) | (refine below_then (by with_reducible assumption) ?_)))
  have HS0 := hid (lift HS1.out hb0)
  have HT0 := hid (lift HT1.out hb0)
  have hz0' : w1.heap.size ≤ ((w1.alloc (.cells #[] 5)).drew).heap.size := hb0.size
  have hb0' := hb0
  have HB0 := hid (below_then hb0 HB1.out)
  have hsr0 := src_bytes HS0.out
  rw [HF8.out] at hsr0
  have HSR0 := hid hsr0
  clear hsr0
  refine wpAnyH_ready (rs := [2]) (by decide +kernel) (by simp) ?_
  refine AllReadyH.cons (o := _) rfl (fun K hK => ?_) AllReadyH.nil
  (refine step_append_src (by rfl) _ _ _ (by rfl) w1.heap.size 5 i0 (.int .u8 0) 1 1 Tryz.underlying22 hi hz0 hz1 hz2 rfl (by decide) (.slice (some ⟨w1.heap.size, 0, none⟩) 0 0) 0 [] (by rfl) (own_empty_blk B0 (Nat.le_refl _)) (some ⟨eb, eo, none⟩) 8 d1 (byteCells F) (by rfl) HSR0.out HON1.out (by decide) (by decide) hz0' ?_; intro a2 c2 w2 hown2 hgrow2 hat2; have HO2 := hid (show w2.ownsRow w1.heap.size 5 1 (.slice a2 8 c2) 8 (byteCells F) from hown2); have hb2' := Below.grown (Below.refl w1.heap.size _) hgrow2 hz0' (fun g e => by simp only [Value.ownBlock, Option.some.injEq, reduceCtorEq] at e; first | omega | (simp at e; omega)); have HB2 := hid (Below.grown hb0' hgrow2 hz0' (fun g e => by simp only [Value.ownBlock, Option.some.injEq, reduceCtorEq] at e; first | omega | (simp at e; omega))); clear hown2 hgrow2 hat2; (try dsimp only))
  refine hK.out _ _ ?_ (fun hHeld => ?_)
  · trivial
  clear hK K
  (try simp only [Act.put, List.setIfInBounds_toArray, List.set_cons_zero, List.set_cons_succ])
  (try simp only [List.getElem_toArray, List.getElem_cons_zero, List.getElem_cons_succ, Act.put, List.setIfInBounds_toArray, List.set_cons_zero, List.set_cons_succ])
  have hzz : w1.heap.size ≤ w2.heap.size := HB2.out.size
  have HT2 := hid (rBytes.mono (S' := (· < w2.heap.size)) (rBytes.keep HT1.out fun q hq => (hb2'.block q hq).trans (hb0'.block q hq)) fun q hq => Nat.lt_of_lt_of_le hq hzz)
  have hsr2 := src_bytes HT2.out
  rw [HT7.out] at hsr2
  have HSR2 := hid hsr2
  have hz2' : w1.heap.size ≤ w2.heap.size := HB2.out.size
  clear hsr2 hb2'
  refine wpAnyH_ready (rs := [9]) (by decide +kernel) (by simp) ?_
  refine AllReadyH.cons (o := _) rfl (fun K hK => ?_) AllReadyH.nil
  (refine step_append_src (by rfl) _ _ _ (by rfl) w1.heap.size 5 i0 (.int .u8 0) 1 1 Tryz.underlying22 hi hz0 hz1 hz2 rfl (by decide) (.slice a2 8 c2) 8 (byteCells F) (by rfl) HO2.out (some ⟨eb, eo, none⟩) 7 d1 (byteCells (F.take 7)) (by rfl) HSR2.out HON2.out (by decide) (by decide) hz2' ?_; intro a3 c3 w3 hown3 hgrow3 hat3; have HO3 := hid hown3; have HB3 := hid (Below.grown HB2.out hgrow3 hz2' (fun g e => (own_lt2 HO2.out g e).1)); clear hgrow3 hat3 hown3; (try dsimp only))
  refine hK.out _ _ ?_ (fun hHeld => ?_)
  · trivial
  clear hK K
  (try simp only [Act.put, List.setIfInBounds_toArray, List.set_cons_zero, List.set_cons_succ])
  (try simp only [List.getElem_toArray, List.getElem_cons_zero, List.getElem_cons_succ, Act.put, List.setIfInBounds_toArray, List.set_cons_zero, List.set_cons_succ])
  have hr3 := own_bytes (l := F ++ F.take 7) (n := 15) HL15.out.symm (show w3.ownsRow w1.heap.size 5 1 (.slice a3 15 c3) 15 (byteCells (F ++ F.take 7)) by have := HO3.out; rw [← byteCells_app3]; exact this)
  have HR3 := hid hr3
  clear hr3
  refine wpAnyH_ready (rs := [10]) (by decide +kernel) (by simp) ?_
  refine AllReadyH.cons (o := _) rfl (fun K hK => ?_) AllReadyH.nil
  (go_simp; go_at_call 18; refine (hAl.out w3 a3 15 c3 HR3.out).mono ?_; rintro r w4 ⟨vo, rfl, hev, hb4⟩; have HEV := hid hev; have HB4 := hid (below_then hb4 HB3.out); clear hev hb4; (try dsimp only))
  refine hK.out _ _ ?_ (fun hHeld => ?_)
  · trivial
  clear hK K
  (try simp only [Act.put, List.setIfInBounds_toArray, List.set_cons_zero, List.set_cons_succ])
  (try simp only [List.getElem_toArray, List.getElem_cons_zero, List.getElem_cons_succ, Act.put, List.setIfInBounds_toArray, List.set_cons_zero, List.set_cons_succ])
  refine wpAnyH_take (i := 11) (oi := _) (v := ?_) rfl (by decide +kernel) (by decide +kernel) (by decide +kernel) (fun _ _ _ h => h) (Or.inl ⟨by rfl, ?_⟩) (by assumption) ?_
  rotate_left
  · (intro w hSw; (try dsimp only at hSw); go_simp <;> with_reducible rfl)
  (try simp only [Act.put, List.setIfInBounds_toArray, List.set_cons_zero, List.set_cons_succ])
  refine wpAnyH_done (by kernel_rfl) ?_ _
  obtain ⟨e4, d4, hv4, hs4, _⟩ := sl_form HEV.out
  simp only [List.cons.injEq, and_true] at hv4
  subst hv4
  obtain ⟨b4, o4, hE4, _, _, _, _, _, _, _, _, _, _, _, hc0, _⟩ := ev_at hs4 (i := 0) (by show 0 < 2; decide)
  obtain ⟨b5, o5, hE5, _, _, _, _, _, _, _, _, _, _, _, hc1, _⟩ := ev_at hs4 (i := 1) (by show 1 < 2; decide)
  subst hE4
  obtain ⟨rfl, rfl⟩ : b4 = b5 ∧ o4 = o5 := by
    have := Option.some.inj hE5
    simp only [Addr.mk.injEq, and_true] at this
    exact this
  have x0 : w4.cell? ⟨b4, o4, none⟩ = some (.int .i64 1) := hc0.1
  have x5 : w4.cell? ⟨b4, o4 + 5, none⟩ = some (.int .u64 5) := hc0.2.2.2.2.2.1
  have x20 : w4.cell? ⟨b4, o4 + 20, none⟩ = some (.int .i64 3) := hc1.1
  clear hc0 hc1 hs4 hE5 HEV
  go_wp2

  go_ret
  exact ⟨rfl, below_then HB4.out HB1.out⟩

theorem push_feed0 (w : World) (x : Value) : Calls Tryz.prog 20 #[.pointer none, x] w fun r w' => r = .returned (.slice none 0 0) ∧ Below w.heap.size w w' := by
  have HO := hid push_open0
  go_enter Tryz.func20, Tryz.ntmps20
  go_wp2
  refine wp_scope_straight ?_
  go_wp2_with fail
  refine (HO.out _).mono ?_
  rintro r w1 ⟨rfl, rfl⟩
  go_wp2_with fail
  simp only [Exit.noGoto]
  go_ret
  exact ⟨rfl, by (repeat (first | with_reducible exact Below.refl _ _ | with_reducible assumption | (with_reducible refine below_alloc ?_ _) | (with_reducible refine Below.setCell ?_ (by first | omega | (simp; done) | (simp; omega)) _) | (with_reducible refine Below.drew ?_) | (with_reducible refine below_drewN ?_ _) | (refine below_then (by with_reducible assumption) ?_)))⟩
theorem push_feedX (w : World) {g : Nat} {x1 x2 x3 x4 : Value} {e : Int} (h : Blk w g 60 #[.bool false, x1, x2, x3, x4, .int .i64 e]) (x : Value) : Calls Tryz.prog 20 #[.pointer (some ⟨g, 0, none⟩), x] w fun r w' => r = .returned (.slice none 0 0) ∧ Below w.heap.size w w' := by
  have HO := hid (push_open ((w.alloc (.cells #[.int .i64 0, .int .u64 0, .int .u64 0, .int .u64 0, .int .i64 0, .int .i64 0, .slice none 0 0, .slice none 0 0, .slice none 0 0, .int .u64 0, .int .u64 0, .int .u64 0, .int .u64 0, .slice none 0 0] 45)).alloc (.cells #[.int .i64 0, .int .i64 0] 65)) ((h.alloc (.cells #[.int .i64 0, .int .u64 0, .int .u64 0, .int .u64 0, .int .i64 0, .int .i64 0, .slice none 0 0, .slice none 0 0, .slice none 0 0, .int .u64 0, .int .u64 0, .int .u64 0, .int .u64 0, .slice none 0 0] 45)).alloc (.cells #[.int .i64 0, .int .i64 0] 65)))
  rw [Bool.false_and] at HO
  clear h
  go_enter Tryz.func20, Tryz.ntmps20
  go_wp2
  refine wp_scope_straight ?_
  go_wp2_with fail
  refine HO.out.mono ?_
  rintro r w1 ⟨rfl, rfl⟩
  go_wp2_with fail
  simp only [Exit.noGoto]
  go_ret
  exact ⟨rfl, by (repeat (first | with_reducible exact Below.refl _ _ | with_reducible assumption | (with_reducible refine below_alloc ?_ _) | (with_reducible refine Below.setCell ?_ (by first | omega | (simp; done) | (simp; omega)) _) | (with_reducible refine Below.drew ?_) | (with_reducible refine below_drewN ?_ _) | (refine below_then (by with_reducible assumption) ?_)))⟩

set_option maxRecDepth 100000 in
set_option maxHeartbeats 3200000 in
theorem pushNone_c (B : List UInt8) (a : Option Addr) (n c : Nat) (w : World) (hl : rBytes.r (· < w.heap.size) w [.slice a n c] B) :
    Calls Tryz.prog 6 #[.slice a n c] w fun e w' => e = .returned (.bool true) ∧ Below w.heap.size w w' := by
  clear hl
  have HL := hid live38
  by_cases hn : 600 < n
  · have d0 : decide ((600 : Int) < (n : Int)) = true := decide_eq_true (by omega)
    have d0n : decide (600 < n) = true := decide_eq_true hn
    clear hn
    go_enter Tryz.func6, Tryz.ntmps6
    go_wp2_with fail
    refine (HL.out _).mono ?_
    rintro r w1 ⟨rfl, hb1⟩
    go_wp2_with fail
    go_ret
    exact ⟨rfl, hb1⟩
  · have d0 : decide ((600 : Int) < (n : Int)) = false := decide_eq_false (by omega)
    have d0n : decide (600 < n) = false := decide_eq_false hn
    clear hn
    have HF0 := hid push_feed0
    have HC0 := hid push_close0
    have HB0 := hid push_buffered0
    have HD0 := hid push_fed0
    have HS0 := hid push_state0
    have HFX := hid @push_feedX
    have HCX := hid @push_closeX
    have HBX := hid @push_buffered
    have HDX := hid @push_fed
    have HSX := hid @push_state
    go_enter Tryz.func6, Tryz.ntmps6
    go_upto_region 5 with (fail)
    have hK : Blk (w.alloc (.cells #[.bool false, .slice none 0 0, .int .i64 0, .int .i64 0, .int .i64 0, .int .i64 0] 60)) w.heap.size 60 #[.bool false, .slice none 0 0, .int .i64 0, .int .i64 0, .int .i64 0, .int .i64 0] := Blk.new w _ _
    have hb0 : Below w.heap.size w (w.alloc (.cells #[.bool false, .slice none 0 0, .int .i64 0, .int .i64 0, .int .i64 0, .int .i64 0] 60)) := by (repeat (first | with_reducible exact Below.refl _ _ | with_reducible assumption | (with_reducible refine below_alloc ?_ _) | (with_reducible refine Below.setCell ?_ (by first | omega | (simp; done) | (simp; omega)) _) | (with_reducible refine Below.drew ?_) | (with_reducible refine below_drewN ?_ _) | (refine below_then (by with_reducible assumption) ?_)))
    generalize w.alloc (.cells #[.bool false, .slice none 0 0, .int .i64 0, .int .i64 0, .int .i64 0, .int .i64 0] 60) = w0 at *
    have HK := hid hK
    have HB := hid hb0
    clear hK hb0
    go_wp2_with fail
    refine (HF0.out _ _).mono ?_
    rintro r w1 ⟨rfl, hb1⟩
    have HK1 := hid (HK.out.later hb1)
    have HB1 := hid (below_then hb1 HB.out)
    clear hb1 HK HB
    go_wp2_with fail
    refine (HC0.out _).mono ?_
    rintro r w2 ⟨rfl, rfl⟩
    go_wp2_with fail
    refine (HB0.out _).mono ?_
    rintro r w2 ⟨rfl, rfl⟩
    go_wp2_with fail
    refine (HD0.out _).mono ?_
    rintro r w2 ⟨rfl, rfl⟩
    go_wp2_with fail
    refine (HS0.out _).mono ?_
    rintro r w2 ⟨rfl, rfl⟩
    go_wp2_with fail
    refine (HFX.out _ HK1.out _).mono ?_
    rintro r w2 ⟨rfl, hb2⟩
    have HK2 := hid (HK1.out.later hb2)
    have HB2 := hid (below_then hb2 HB1.out)
    clear hb2 HK1 HB1
    go_wp2_with fail
    refine (HCX.out _ HK2.out).mono ?_
    rintro r w3 ⟨rfl, rfl⟩
    go_wp2_with fail
    refine (HBX.out _ HK2.out).mono ?_
    rintro r w3 ⟨rfl, rfl⟩
    go_wp2_with fail
    refine (HDX.out _ HK2.out).mono ?_
    rintro r w3 ⟨rfl, rfl⟩
    go_wp2_with fail
    refine (HSX.out _ HK2.out).mono ?_
    rintro r w3 ⟨rfl, rfl⟩
    go_wp2_with fail
    refine (HL.out _).mono ?_
    rintro r w4 ⟨rfl, hb4⟩
    have HB4 := hid (below_then hb4 HB2.out)
    clear hb4
    go_wp2_with fail
    go_ret
    exact ⟨rfl, HB4.out⟩
set_option maxRecDepth 100000 in
theorem pushNone_walk {H : Type} (enc : TypeId × Value → H) (W : World) (base : Nat) (v0 : Value) (d0 : DataW H) (p0 : List MemPlace)
    (k0 : DataW.Trod enc Tryz.prog W 0 (fun _ => true) true 22 v0 d0 p0) (o0 : Value.okWide Tryz.prog W .any base 22 v0) :
    Calls Tryz.prog 6 #[v0] W fun e w' => e = .returned (.bool true) ∧ Below W.heap.size W w' := by
  obtain ⟨fuel, hf⟩ := k0
  obtain ⟨a, len, cap, rfl⟩ := Go.WideShapes.okWide_slice Tryz.underlying22 o0
  obtain ⟨b, hb⟩ := o_bytes enc W fuel _ _ hf
  exact pushNone_c b a len cap W hb
end Go.Proofs.YtfddhafbhceoaaaGreat
