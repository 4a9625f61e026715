/- Bytes out of hex (written by gen_wtg.py). -/
import Derived.Test.YtlkpnpbodbokkaaDoorProg
import Derived.WalkKit
import Derived.Deep.Cut
import Derived.LoopTactic
import Derived.Laws.Runes
import Derived.Laws.MakeOwn
import Derived.Lib.OthersKept
import Derived.WalkSmall
import Derived.Test.YtlkpnpbodbokkaaDoorElem
import Derived.Test.YtlkpnpbodbokkaaDoorWtE
import Derived.Test.YtlkpnpbodbokkaaDoorWtF
namespace Go.Bs
open Go.RowKit
set_option linter.unusedVariables false
def unP (l : List UInt8) (i j : Nat) : Nat := if 2 * j + 1 < i then 16 * hv (l.getD (2 * j) 0) + hv (l.getD (2 * j + 1) 0) else if 2 * j < i then hv (l.getD (2 * j) 0) else 0
def unA (l : List UInt8) (n i : Nat) : Array Value := ((List.range n).map fun j => Value.int .u8 ((unP l i j : Nat) : Int)).toArray
theorem unA_size (l : List UInt8) (n i : Nat) : (unA l n i).size = n := by simp [unA]
theorem unA_get (l : List UInt8) (n i j : Nat) (h : j < n) : (unA l n i)[j]? = some (.int .u8 ((unP l i j : Nat) : Int)) := by
  simp [unA, h]
theorem unA_zero (l : List UInt8) (n : Nat) : madeCells #[.int .u8 0] n = unA l n 0 := by
  apply Array.ext'
  rw [toList_madeCells_one]
  unfold unA
  apply List.ext_getElem?
  intro j
  by_cases h : j < n
  · simp [h, unP]
  · simp [h]
theorem unA_step (l : List UInt8) (n i : Nat) (v : Int) (hv : v = ((unP l (i + 1) (i / 2) : Nat) : Int)) (hi : i / 2 < n) : (unA l n i).setIfInBounds (i / 2) (.int .u8 v) = unA l n (i + 1) := by
  apply Array.ext_getElem?
  intro j
  rw [Array.getElem?_setIfInBounds, unA_size]
  by_cases h : i / 2 = j
  · subst h
    rw [if_pos rfl, if_pos hi, unA_get _ _ _ _ hi, hv]
  · rw [if_neg h]
    by_cases hj : j < n
    · rw [unA_get _ _ _ _ hj, unA_get _ _ _ _ hj]
      have : unP l i j = unP l (i + 1) j := by
        unfold unP
        repeat' split
        all_goals first | rfl | omega
      rw [this]
    · rw [Array.getElem?_eq_none (by rw [unA_size]; omega), Array.getElem?_eq_none (by rw [unA_size]; omega)]
theorem unP_old (l : List UInt8) (i : Nat) : unP l i (i / 2) < 16 := by
  unfold unP
  rw [if_neg (by omega)]
  split
  · exact hv_lt _
  · omega
theorem unP_new (l : List UInt8) (i : Nat) : unP l (i + 1) (i / 2) = 16 * unP l i (i / 2) + hv (l.getD i 0) := by
  unfold unP
  by_cases h : i % 2 = 0
  · rw [if_neg (by omega), if_pos (by omega), if_neg (by omega), if_neg (by omega), show 2 * (i / 2) = i by omega]; omega
  · rw [if_pos (by omega), if_neg (by omega), if_pos (by omega), show 2 * (i / 2) + 1 = i by omega]
theorem unP_end (l : List UInt8) (i j : Nat) (h : 2 * j + 1 < i) : unP l i j = (unB l j).toNat := by
  rw [unB_nat]; unfold unP; rw [if_pos h]
theorem allHex_of (l : List UInt8) (h : ∀ j, j < l.length → 0 ≤ Lib.indexByte hexL (l.getD j 0)) : allHex l = true := by
  unfold allHex
  rw [List.all_eq_true]
  intro c hc
  obtain ⟨j, hj, rfl⟩ := List.getElem_of_mem hc
  have := h j hj
  rw [List.getD_eq_getElem?_getD, List.getElem?_eq_getElem hj] at this
  exact decide_eq_true this
theorem allHex_not (l : List UInt8) (j : Nat) (hj : j < l.length) (h : Lib.indexByte hexL (l.getD j 0) < 0) : allHex l = false := by
  unfold allHex
  rw [List.all_eq_false]
  refine ⟨l.getD j 0, by rw [List.getD_eq_getElem?_getD, List.getElem?_eq_getElem hj]; exact List.getElem_mem hj, ?_⟩
  simp only [decide_eq_true_eq]
  omega
end Go.Bs
namespace Go.Proofs.YtlkpnpbodbokkaaDoor
open Go.RowKit Go.Bs
set_option linter.unusedVariables false
set_option linter.unusedSimpArgs false

set_option maxRecDepth 100000 in
theorem or_16 (x y : Nat) (h : x < 16) (k : y < 16) : bits BinOp.or IntKind.u8 ((x : Int) * 16) (y : Int) = ((16 * x + y : Nat) : Int) := by
  have hh : ∀ x y : Fin 16, bits BinOp.or IntKind.u8 (((x.val : Nat) : Int) * 16) ((y.val : Nat) : Int) = ((16 * x.val + y.val : Nat) : Int) := by decide +kernel
  exact hh ⟨x, h⟩ ⟨y, k⟩

theorem ir_low (c : Int) (h0 : 0 ≤ c) (h1 : c < 128) (w : World) : Calls Tryd.prog 45 #[.string hexS, .int .i32 c] w fun r w' => r = .returned (.int .i64 (Lib.indexByte hexL c.toNat.toUInt8)) ∧ w' = w :=
  Tryd.strings_IndexRune_ascii hexS c w h0 h1
theorem ir_any (c : Int) (h : 128 ≤ c) (hm : c ≤ 1114111) (w : World) : IrSpec c w := by
  by_cases he : c = 65533
  · subst he; exact ir_err w
  · cases hv : Lib.validRune c with
    | true => exact ir_high c h hm he hv w
    | false => exact ir_bad c h hm he hv w

def UnRet (w : World) (s : ByteArray) (r : Ending) (w' : World) : Prop :=
  (∃ (b : List UInt8) (v : Value), unL s.data.toList = some b ∧ r = .returned (.tuple #[v, .bool true]) ∧ rBytes.r (fun q => w.heap.size ≤ q ∧ q < w'.heap.size) w' [v] b) ∨ (unL s.data.toList = none ∧ r = .returned (.tuple #[.slice none 0 0, .bool false]))

theorem str_len (s : ByteArray) : s.data.toList.length = s.size := Array.length_toList
theorem str_at (s : ByteArray) (i : Nat) (h : i < s.size) : s.data.toList.getD i 0 = s[i]'h := by
  rw [List.getD_eq_getElem?_getD, List.getElem?_eq_getElem (by rw [str_len]; exact h)]; rfl
theorem dec_top (s : ByteArray) (i : Nat) : (Utf8.decode s i).1 ≤ 1114111 := by
  unfold Utf8.decode
  have hb := fun k => (s.get! (i + k)).toNat_lt
  have h0 := hb 0
  dsimp only
  repeat' split
  all_goals simp_all [Utf8.runeError, Utf8.valid]
  all_goals omega

set_option maxRecDepth 100000 in
set_option maxHeartbeats 6400000 in
/-- An even number of signs. -/
theorem unhex_even (s : ByteArray) (hs : s.size ≤ 1000) (hz : 0 < s.size) (he : s.size % 2 = 0) (hd : (s.toList == [45]) = false) (hne : s.toList.isEmpty = false) (w : World) :
    Calls Tryd.prog 18 #[.string s] w fun r w' => ((allHex s.data.toList = true ∧ ∃ v, r = .returned (.tuple #[v, .bool true]) ∧ rBytes.r (fun q => w.heap.size ≤ q ∧ q < w'.heap.size) w' [v] (unBs s.data.toList)) ∨ (allHex s.data.toList = false ∧ r = .returned (.tuple #[.slice none 0 0, .bool false]))) ∧ Below w.heap.size w w' := by
  obtain ⟨i0, hi, hz0, hz1, hz2⟩ := info_parts wInfo8
  obtain ⟨l, hl⟩ : ∃ l, l = s.data.toList := ⟨_, rfl⟩
  have hln : l.length = s.size := by rw [hl]; exact str_len s
  obtain ⟨T, hT⟩ : ∃ T, s.size = 2 * T := ⟨s.size / 2, by omega⟩
  have hmk : ∀ W : World, (Instr.makeSlice 37 (.int .i64 (T : Int)) (.int .i64 (T : Int))).run Tryd.prog W = .ok (.slice (some ⟨W.heap.size, 0, none⟩) T T) (W.alloc (.cells (madeCells #[Value.int .u8 0] T) 5)) := fun W => by
    have := run_make (P := Tryd.prog) (w := W) 37 5 i0 (.int .u8 0) Tryd.underlying37 hi hz0 .i64 .i64 (T : Int) (T : Int) (by omega) (by omega) (by rw [hz2]; omega) (by omega)
    rw [hz1] at this
    simp only [Int.toNat_natCast, Int.toNat_zero, Nat.mul_one] at this
    exact this
  rw [unA_zero l T] at hmk
  have eq1 : ((s.size : Nat) : Int) / 2 = (T : Int) := by omega
  have eq2 : (((s.size : Nat) : Int) % 2 == 1) = false := beq_eq_false_iff_ne.2 (by omega)
  have HIL := hid ir_low
  have HIH := hid ir_any
  have HT := hid hT
  have HLN := hid hln
  have HL := hid hl
  rw [← hl]
  clear hT hln hl
  go_enter Tryd.func18, Tryd.ntmps18
  go_wp2_with fail
  go_loopw [5] (fun _ wr => ∃ i : Nat, i ≤ l.length ∧ (∀ j, j < i → 0 ≤ Lib.indexByte hexL (l.getD j 0)) ∧ Blk wr w.heap.size 5 (unA l T i) ∧ wr.heap[w.heap.size + 1]? = some (.stringIter s i) ∧ Below w.heap.size w wr) (fun _ wr => l.length - wr.iterPos (w.heap.size + 1))
  case atStart =>
    refine ⟨0, by omega, fun j hj => by omega, ?_, ?_, ?_⟩
    · exact (Blk.new w 5 (unA l T 0)).alloc _
    · have h := World.iter_heap (w.alloc (.cells (unA l T 0) 5)) s 0
      rw [show (w.alloc (.cells (unA l T 0) 5)).heap.size = w.heap.size + 1 by simp] at h
      exact h
    · exact ((Below.refl w.heap.size w).alloc (Nat.le_refl _) _).alloc (by simp) _
  case round =>
    obtain ⟨i, hil, hpre, hblk, hit, hb⟩ := hrel
    by_cases hlt : i < l.length
    · have hls : i < s.size := by rw [← HLN.out]; exact hlt
      have hx0 : l.getD i 0 = s[i]'hls := by rw [HL.out]; exact str_at s i hls
      by_cases ha : (s[i]'hls).toNat < 128
      · have hnx := fun ty => Lib.run_next_ascii_at (P := Tryd.prog) wr (w.heap.size + 1) s i ty hit hls ha
        have hblk1 : Blk (wr.iterAt (w.heap.size + 1) s (i + 1)) w.heap.size 5 (unA l T i) := (Lib.iterAt_other wr (w.heap.size + 1) w.heap.size s (i + 1) (by omega)).trans hblk
        have hit1 := Lib.iterAt_heap wr (w.heap.size + 1) s i (i + 1) hit
        have hb1 := Lib.below_iterAt hb (k := w.heap.size + 1) (by omega) s (i + 1)
        generalize wr.iterAt (w.heap.size + 1) s (i + 1) = W1 at *
        generalize hx : s[i]'hls = x at *
        have ex : ((x.toNat : Nat) : Int).toNat.toUInt8 = x := by simp
        have HI := hid (HIL.out ((x.toNat : Nat) : Int) (by omega) (by omega) W1)
        rw [ex] at HI
        have hold := unP_old l i
        have hnew := unP_new l i
        rw [hx0] at hnew
        have hm2 : i / 2 < T := by have := HT.out; omega
        have hcl := (hblk1.cell (i / 2)).trans (unA_get l T i (i / 2) hm2)
        have hfz := hblk1.free (i / 2)
        have hset := hid (fun v hv => unA_step l T i v hv hm2)
        have HIT := hid hit1
        have HIT0 := hid hit
        have HPRE := hid hpre
        have HB := hid hb1
        have HBLK := hid hblk1
        have em : (i : Int) / 2 = ((i / 2 : Nat) : Int) := by omega
        have HNX := hid hnew
        have hxh := hex_hv x
        unfold hv at hxh hnew HNX
        have HX0 := hid hx0
        have HXN := hid hx
        clear hit1 hpre hb1 hblk1 hnew hit hblk hb hx0 hx
        generalize hni : Lib.indexByte hexL x = n at *
        have HNI := hid hni
        clear hni
        generalize unP l i (i / 2) = old at *
        generalize i / 2 = m at *
        go_wp2_with fail
        refine HI.out.mono ?_
        rintro r w2 ⟨rfl, rfl⟩
        by_cases hn : 0 ≤ n
        · obtain ⟨nn, rfl⟩ : ∃ nn : Nat, n = nn := ⟨n.toNat, by omega⟩
          have hn16 : nn < 16 := by have := (hxh hn).1; omega
          go_wp2_with fail
          have hor := or_16 old nn hold hn16
          rw [hor]
          have hs' := hset.out ((16 * old + nn : Nat) : Int) (by rw [HNX.out]; simp)
          have hbs := HBLK.out.set m (.int .u8 ((16 * old + nn : Nat) : Int))
          rw [hs'] at hbs
          have hits : (w2.setCell ⟨w.heap.size, m, none⟩ (.int .u8 ((16 * old + nn : Nat) : Int))).heap[w.heap.size + 1]? = some (.stringIter s (i + 1)) := (Below.heap_setCell w2 _ _ (w.heap.size + 1) (by simp)).trans HIT.out
          refine ⟨⟨i + 1, by omega, ?_, hbs, hits, HB.out.setCell (Nat.le_refl _) _⟩, ?_⟩
          · intro j hj
            by_cases hji : j = i
            · subst hji
              rw [HX0.out, HNI.out]
              omega
            · exact HPRE.out j (by omega)
          · rw [iterPos_of hits, iterPos_of HIT0.out]
            omega
        · have dn : decide (n < 0) = true := decide_eq_true (by omega)
          go_wp2_with fail
          go_ret2
          exact ⟨.inr ⟨allHex_not l i hlt (by rw [HX0.out, HNI.out]; omega), rfl⟩, HB.out⟩
      · have hnx := fun ty => Lib.run_next_any_at (P := Tryd.prog) wr (w.heap.size + 1) s i ty hit hls
        have hd1 := decode_high s i hls (by omega)
        have hd2 := dec_top s i
        have hb1 := Lib.below_iterAt hb (k := w.heap.size + 1) (by omega) s (i + (Utf8.decode s i).2)
        have HB := hid hb1
        generalize wr.iterAt (w.heap.size + 1) s (i + (Utf8.decode s i).2) = W1 at *
        have HI := hid (HIH.out (((Utf8.decode s i).1 : Nat) : Int) (by omega) (by omega) W1)
        unfold IrSpec at HI
        generalize (Utf8.decode s i).1 = c at *
        have hnot : Lib.indexByte hexL (s[i]'hls) = -1 := indexByte_no _ _ (by
          intro hm
          have hh : ∀ u ∈ hexL, u.toNat < 128 := by decide
          exact ha (hh _ hm))
        have HF := hid (allHex_not l i hlt (by rw [hx0, hnot]; decide))
        clear hb1 hnot
        go_wp2_with fail
        refine HI.out.mono ?_
        rintro r w2 ⟨rfl, hb2⟩
        have HB2 := hid (HB.out.trans (hb2.mono HB.out.size))
        go_wp2_with fail
        go_ret2
        exact ⟨.inr ⟨HF.out, rfl⟩, HB2.out⟩
    · obtain rfl : i = l.length := by omega
      have hnx := fun ty => Lib.run_next_end_at (P := Tryd.prog) wr (w.heap.size + 1) s l.length ty hit (by rw [← HLN.out]; omega)
      have hR : rBytes.r (fun q => w.heap.size ≤ q ∧ q < wr.heap.size) wr [.slice (some ⟨w.heap.size, 0, none⟩) T T] (unBs l) := by
        have hlT : l.length = 2 * T := by rw [HLN.out]; exact HT.out
        have hlen : (unBs l).length = T := by unfold unBs; simp; omega
        refine rSl_mk (by rw [hlen]) (by omega) (by simp only [maxLen]; omega) (.inr ⟨w.heap.size, 0, rfl, ⟨Nat.le_refl _, hblk.lt⟩, fun j x hj => ⟨[.int .u8 (x.toNat : Int)], rfl, fun k v hk => ?_, rfl⟩⟩)
        have hj0 : k = 0 := by
          rcases k with _ | k
          · rfl
          · simp at hk
        subst hj0
        simp at hk
        subst hk
        have hjT : j < T := by have := (List.getElem?_eq_some_iff.1 hj).1; omega
        rw [show 0 + j * 1 + 0 = j by omega, hblk.cell j, unA_get l T l.length j hjT, unP_end l l.length j (by omega)]
        have hx : x = unB l j := by
          unfold unBs at hj
          rw [List.getElem?_map, List.getElem?_range (by omega)] at hj
          injection hj with hj
          exact hj.symm
        rw [hx]
      have HR := hid hR
      have HH := hid (allHex_of l hpre)
      have HB := hid hb
      clear hR hpre hb
      go_wp2_with fail
      go_ret2
      exact ⟨.inl ⟨HH.out, _, rfl, HR.out⟩, HB.out⟩
end Go.Proofs.YtlkpnpbodbokkaaDoor
