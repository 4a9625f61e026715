/- Needed by batchOnce_walk, part 8: texts put together by shake.py; no condition. -/
import Derived.Test.YtkipiefcnjfdjaaGreatP7
import Derived.Test.YtkipiefcnjfdjaaGreatP5
import Derived.Deep.Cut
import Derived.Test.YtkipiefcnjfdjaaGreatP6
import Derived.Test.YtkipiefcnjfdjaaGreatP4
namespace Go.Proofs.YtkipiefcnjfdjaaGreat
open Go.RowKit Go.Bs Go.Maps
set_option linter.unusedVariables false
set_option linter.unusedSimpArgs false

/-- What a function does that reads a block: memory of one's own, and blocks of K; what it leaves besides. -/
structure Unblock (w : World) (g : Nat) (B : List UInt8) (a : Option Addr) (fn : Nat) (caps : Array Value) (blk : Rs → Rs × List UInt8 × Bool) (K : Nat → Prop) (X : World → Bool → Prop) : Prop where
  lt : ∀ b, K b → b < w.heap.size
  own : K g
  st : ∀ W W' q, X W q → w.heap.size ≤ W.heap.size → Tch (fun b => b = g ∨ w.heap.size ≤ b) W W' → X W' q
  call : ∀ W t, RdAt W g B a t → X W false → w.heap.size ≤ W.heap.size → Tch K w W → Calls Tryz.prog fn caps W fun r W' => ∃ v, r = .returned v ∧ rBytes.r (Fresh W W') W' [v] (blk t).2.1 ∧ RdAt W' g B a (blk t).1 ∧ Tch K W W' ∧ X W' (blk t).2.2
  size : ∀ t, (blk t).2.1.length ≤ 1048576
  dat : rBytes.r (fun q => q < w.heap.size ∧ ¬ K q) w [.slice a B.length B.length] B
  ent : ∀ (xs : Array Value) (W : World), (callFunc fn xs).run Tryz.prog W = .ok (.enter fn xs) W

/-- The reader in a world in which K has turned. -/
theorem Unblock.rd {w W : World} {g : Nat} {B : List UInt8} {a : Option Addr} {fn : Nat} {caps : Array Value} {blk : Rs → Rs × List UInt8 × Bool} {K : Nat → Prop} {X : World → Bool → Prop} (hU : Unblock w g B a fn caps blk K X) {s : Rs} (ht : Tch K w W)
    (hb : Blk W g 124 #[.slice a B.length B.length, .int .i64 (s.p : Int), .int .i64 s.k, .int .i64 s.f]) (hs : s.ok B.length) : RdAt W g B a s :=
  ⟨hb, rBytes.mono (rBytes.keep hU.dat fun q hq => ht.block q hq.1 hq.2) fun q hq => ⟨Nat.lt_of_lt_of_le hq.1 ht.size, fun e => hq.2 (e ▸ hU.own)⟩, hs⟩

def Fine (h : List Link × Nat) : Prop := h.2 ≤ 1048576 ∧ h.1.length ≤ 16 ∧ ∀ z ∈ h.1, z.backs.length ≤ 4
theorem Rs.falls_len {B : List UInt8} : ∀ (n : Nat) (s : Rs) (below : Int) (out : List Int), (Rs.falls B n s below out).2.length ≤ n + out.length
  | 0, s, below, out => by simp [Rs.falls]
  | n + 1, s, below, out => by
    simp only [Rs.falls]
    split
    · split
      · simp
      · have := Rs.falls_len (B := B) n (s.num B).1 (below - (s.num B).2 - 1) (out ++ [below - (s.num B).2 - 1])
        simp at this
        omega
    · simp
theorem Rs.delta_len {B : List UInt8} {s : Rs} {below most : Int} : (s.delta B below most).2.length ≤ most.toNat := by
  have := Rs.falls_len (B := B) (s.int B most).2 (s.int B most).1 below []
  have h2 := Rs.int_le (B := B) (s := s) (m := most)
  unfold Rs.delta
  simp at this
  omega
theorem Rs.linksF_fine {B : List UInt8} {pos : Int} : ∀ (n : Nat) (s : Rs) (prev : Option Int) (out : List Link), (∀ z ∈ out, z.backs.length ≤ 4) → (Rs.linksF B pos n s prev out).2.length ≤ n + out.length ∧ ∀ z ∈ (Rs.linksF B pos n s prev out).2, z.backs.length ≤ 4
  | 0, s, prev, out, h => by simpa [Rs.linksF] using h
  | n + 1, s, prev, out, h => by
    simp only [Rs.linksF]
    split
    · have := Rs.linksF_fine (B := B) (pos := pos) n ((s.stream B prev).1.delta B pos 4).1 (some (s.stream B prev).2) (out ++ [⟨(s.stream B prev).2, ((s.stream B prev).1.delta B pos 4).2⟩]) (fun z hz => by
        rw [List.mem_append, List.mem_singleton] at hz
        rcases hz with hz | rfl
        · exact h z hz
        · exact Rs.delta_len (most := 4))
      refine ⟨?_, this.2⟩
      have h1 := this.1
      simp at h1
      omega
    · simp
theorem Rs.ehead_fine {B : List UInt8} {s : Rs} {pos most : Int} (hm : most ≤ 1048576) : Fine (s.ehead B pos most).2 := by
  have h1 := Rs.linksF_fine (B := B) (pos := pos) (s.int B 16).2 (s.int B 16).1 none [] (by simp)
  have h2 := Rs.int_le (B := B) (s := s) (m := 16)
  have h3 := Rs.int_le (B := B) (s := (s.links B pos).1) (m := most)
  unfold Rs.ehead
  split
  · refine ⟨by dsimp only; omega, ?_, h1.2⟩
    have := h1.1
    simp at this
    show (s.links B pos).2.length ≤ 16
    unfold Rs.links
    omega
  · exact ⟨Nat.zero_le _, Nat.zero_le _, by simp⟩
theorem Rs.heads_fine {B : List UInt8} : ∀ (n : Nat) (s : Rs) (pos left : Int) (out : List (List Link × Nat)), left ≤ 1048576 → (∀ h ∈ out, Fine h) → (Rs.heads B n s pos left out).2.length ≤ n + out.length ∧ ∀ h ∈ (Rs.heads B n s pos left out).2, Fine h
  | 0, s, pos, left, out, hl, h => by simpa [Rs.heads] using h
  | n + 1, s, pos, left, out, hl, h => by
    simp only [Rs.heads]
    split
    · have := Rs.heads_fine (B := B) n (s.ehead B pos left).1 (pos + 1) (left - (s.ehead B pos left).2.2) (out ++ [(s.ehead B pos left).2]) (by omega) (fun z hz => by
        rw [List.mem_append, List.mem_singleton] at hz
        rcases hz with hz | rfl
        · exact h z hz
        · exact Rs.ehead_fine hl)
      refine ⟨?_, this.2⟩
      have h1 := this.1
      simp at h1
      omega
    · simp
theorem HeadsAt.ints {lo : Nat} {W : World} {v u : Value} {J : List (List Link × Nat)} (h : HeadsAt lo W v u J) (hJ : ∀ h ∈ J, Fine h) : rI64s.r (fun b => lo ≤ b ∧ b < W.heap.size) W [u] (J.map fun h => (h.2 : Int)) := by
  refine own_one (A := rInt .i64) (Value.int .i64) (fun S x hx => ?_) (by simp) (e := 3) (n := J.length) ?_
  · obtain ⟨h, hm, rfl⟩ := List.mem_map.1 hx
    have := (hJ h hm).1
    exact ⟨rfl, i64_wf (by omega)⟩
  · have := h.szs
    simpa [sizeCells, List.map_map, Function.comp_def] using this

set_option maxRecDepth 100000 in
set_option maxHeartbeats 6400000 in
theorem batch_read_gen (w : World) {g : Nat} {B : List UInt8} {a : Option Addr} {s : Rs} (h : RdAt w g B a s) (hB : B.length ≤ 1000000000) (fn : Nat) (caps : Array Value) (blk : Rs → Rs × List UInt8 × Bool) (K : Nat → Prop) (X : World → Bool → Prop) (hU : Unblock w g B a fn caps blk K X) (hX : X w false) :
    Calls Tryz.prog 91 #[.pointer (some ⟨g, 0, none⟩), .func (Fn.func fn) #[] caps] w fun r w' => ∃ v q, r = .returned (.agg #[.int .u64 (Rs.batch B blk s).2.1.epoch, .int .u64 (Rs.batch B blk s).2.1.base, v]) ∧ rEntriesW.r (Fresh w w') w' [v] (Rs.batch B blk s).2.1.entries ∧ RdAt w' g B a (Rs.batch B blk s).1 ∧ Tch K w w' ∧ X w' q ∧ ((Rs.batch B blk s).1.k = 0 → q = (Rs.batch B blk s).2.2) := by
  have hlt := h.blk.lt
  have HIN := hid (RdInv.refl h)
  have HU := hid hU
  have HX := hid hX
  have HEP := hid (fun (W : World) (hW : RdAt W g B a s) => epoch_read W hW hB)
  have HPO := hid (fun (W : World) (hW : RdAt W g B a (s.ep B).1) => epoch_readpos W hW hB)
  have HIT := hid (fun (W : World) (hW : RdAt W g B a ((s.ep B).1.po B).1) => varint_int W hW (by omega) 16 (by omega))
  have hn16 := Rs.int_le (B := B) (s := ((s.ep B).1.po B).1) (m := 16)
  have hpb : (((s.ep B).1.po B).2 : Int) ≤ 18446744073709551615 := by
    have := Rs.num_small (B := B) (s := (s.ep B).1)
    unfold Rs.po
    split
    · split
      · omega
      · simp
    · simp
  have hok2 := (Rs.po_ok (B := B) (Rs.ep_ok (B := B) h.ok)).le
  unfold Rs.batch Rs.bfront
  clear h hU hX
  generalize s.ep B = E at *
  obtain ⟨s1, e⟩ := E
  dsimp only at *
  generalize s1.po B = P at *
  obtain ⟨s2, p⟩ := P
  dsimp only at *
  generalize s2.int B 16 = I at *
  obtain ⟨s3, n⟩ := I
  dsimp only at *
  have hn : n ≤ 16 := by omega
  have hp1 : (0 : Int) ≤ (p : Int) ∧ (p : Int) ≤ 18446744073709551615 := by omega
  have hp2 : 0 ≤ (s2.p : Int) ∧ (s2.p : Int) ≤ 9223372036854775807 := by omega
  clear hn16 hpb hok2
  by_cases hfit : fitsR (p : Int) n = true
  · rw [if_pos hfit]
    have HF := hid (fun (W : World) => (by have := batch_fits (p : Int) n W hp1 (by omega); rw [hfit] at this; exact this : Calls Tryz.prog 79 #[.int .u64 (p : Int), .int .i64 n] W fun r w' => r = .returned (.bool true) ∧ W = w'))
    have hfit' := hfit
    simp only [fitsR, decide_eq_true_eq] at hfit'
    have hpn : (0 : Int) ≤ (p : Int) ∧ (p : Int) + n ≤ 18446744073709551615 := by omega
    clear hfit hfit'
    by_cases hk3 : s3.k = 0
    · rw [if_pos hk3]
      have HG := hid (fun (W : World) (hW : RdAt W g B a s3) => (by have := rd_good W hW; rw [decide_eq_true hk3] at this; exact this : Calls Tryz.prog 96 #[.pointer (some ⟨g, 0, none⟩)] W fun r w' => r = .returned (.bool true) ∧ Below W.heap.size W w'))
      have HHD := hid (fun (W : World) (hW : RdAt W g B a s3) => batch_heads W hW hB (p : Int) n hn hpn)
      have hfine := Rs.heads_fine (B := B) n s3 (p : Int) 1048576 [] (by omega) (by simp)
      clear hk3
      generalize Rs.heads B n s3 (p : Int) 1048576 [] = HD at *
      obtain ⟨s4, H⟩ := HD
      dsimp only at *
      have hHl : H.length ≤ 16 := by have := hfine.1; simp at this; omega
      have HFN := hid hfine.2
      clear hfine
      have hUc := fun (W : World) (hW : RdAt W g B a s4) => HU.out.call W s4 hW
      have hDl := HU.out.size s4
      unfold Rs.bblock
      dsimp only
      generalize blk s4 = T at *
      obtain ⟨s5, D, q⟩ := T
      dsimp only at *
      have HUC := hid hUc
      clear hUc
      have hDF := dealF_is H D []
      by_cases hok : sizesN H = D.length
      · rw [if_pos hok] at hDF
        simp only [if_pos hok]
        rw [List.nil_append] at hDF
        by_cases hk5 : s5.k = 0
        · simp only [if_pos hk5]
          have HG5 := hid (fun (W : World) (hW : RdAt W g B a s5) => (by have := rd_good W hW; rw [decide_eq_true hk5] at this; exact this : Calls Tryz.prog 96 #[.pointer (some ⟨g, 0, none⟩)] W fun r w' => r = .returned (.bool true) ∧ Below W.heap.size W w'))
          have HDL := hid (fun (W : World) (x1 x2 x3 y1 y2 y3 z1 z2 z3) => entry_deal H D x1 x2 x3 y1 y2 y3 z1 z2 z3 W)
          rw [hDF] at HDL
          simp only [Option.isSome_some, Option.isSome_none, Option.getD_some, Option.getD_none] at HDL
          clear hDF hok hk5
          generalize hdl : dealE H D = EN at *
          clear hdl
          go_enter Tryz.func91, Tryz.ntmps91
          go_wp2_with fail
          refine (HEP.out _ (HIN.out.row (by (repeat (first | with_reducible exact Below.refl _ _ | with_reducible assumption | (with_reducible refine below_alloc ?_ _) | (with_reducible refine Below.setCell ?_ (by first | omega | (simp; done) | (simp; omega)) _) | (with_reducible refine Below.drew ?_) | (with_reducible refine below_drewN ?_ _) | (refine below_then (by with_reducible assumption) ?_))))).rd).mono ?_
          rintro r w1 ⟨rfl, hst1⟩
          have R1 : Blk w1 w.heap.size 25 #[.int .u64 0, .int .u64 0, .slice none 0 0] := Blk.tch (by (repeat (first | assumption | exact Blk.newAt _ _ _ (by first | (simp; done) | (simp; omega)) | refine Blk.alloc ?_ _ | refine Blk.drew ?_ | refine Blk.drewN ?_ _ | refine Blk.far ?_ (by first | (simp; done) | (simp; omega)) _))) hst1.2 (by omega)
          have HIN1 := hid ((HIN.out.row (by (repeat (first | with_reducible exact Below.refl _ _ | with_reducible assumption | (with_reducible refine below_alloc ?_ _) | (with_reducible refine Below.setCell ?_ (by first | omega | (simp; done) | (simp; omega)) _) | (with_reducible refine Below.drew ?_) | (with_reducible refine below_drewN ?_ _) | (refine below_then (by with_reducible assumption) ?_))))).step hst1)
          have hz1 := HIN1.out.tch.size
          clear hst1
          go_wp2_with fail
          refine (HPO.out _ HIN1.out.rd).mono ?_
          rintro r w2 ⟨rfl, hst2⟩
          have R2 : Blk w2 w.heap.size 25 #[.int .u64 0, .int .u64 0, .slice none 0 0] := Blk.tch R1 hst2.2 (by omega)
          have HIN2 := hid (HIN1.out.step hst2)
          have hz2 := HIN2.out.tch.size
          have hr2 := R2.lt
          clear hst2 R1
          go_wp2_with fail
          refine (rd_at _ (HIN2.out.row ((by (repeat (first | with_reducible exact Below.refl _ _ | with_reducible assumption | (with_reducible refine below_alloc ?_ _) | (with_reducible refine Below.setCell ?_ (by first | omega | (simp; done) | (simp; omega)) _) | (with_reducible refine Below.drew ?_) | (with_reducible refine below_drewN ?_ _) | (refine below_then (by with_reducible assumption) ?_))) : Below w2.heap.size w2 _).mono hz2)).rd).mono ?_
          rintro r w3 ⟨rfl, rfl⟩
          go_wp2_with fail
          refine (HIT.out _ (HIN2.out.row ((by (repeat (first | with_reducible exact Below.refl _ _ | with_reducible assumption | (with_reducible refine below_alloc ?_ _) | (with_reducible refine Below.setCell ?_ (by first | omega | (simp; done) | (simp; omega)) _) | (with_reducible refine Below.drew ?_) | (with_reducible refine below_drewN ?_ _) | (refine below_then (by with_reducible assumption) ?_))) : Below w2.heap.size w2 _).mono hz2)).rd).mono ?_
          rintro r w4 ⟨rfl, hst4⟩
          have R4 : Blk w4 w.heap.size 25 #[.int .u64 0, .int .u64 0, .slice none 0 0] := Blk.tch (Blk.later R2 (by (repeat (first | with_reducible exact Below.refl _ _ | with_reducible assumption | (with_reducible refine below_alloc ?_ _) | (with_reducible refine Below.setCell ?_ (by first | omega | (simp; done) | (simp; omega)) _) | (with_reducible refine Below.drew ?_) | (with_reducible refine below_drewN ?_ _) | (refine below_then (by with_reducible assumption) ?_))) : Below w2.heap.size w2 _)) hst4.2 (by omega)
          have B4 : Blk w4 w2.heap.size 25 #[.int .u64 (e : Int), .int .u64 (p : Int), .slice none 0 0] := Blk.tch (by (repeat (first | assumption | exact Blk.newAt _ _ _ (by first | (simp; done) | (simp; omega)) | refine Blk.alloc ?_ _ | refine Blk.drew ?_ | refine Blk.drewN ?_ _ | refine Blk.far ?_ (by first | (simp; done) | (simp; omega)) _))) hst4.2 (by omega)
          have HIN4 := hid ((HIN2.out.row ((by (repeat (first | with_reducible exact Below.refl _ _ | with_reducible assumption | (with_reducible refine below_alloc ?_ _) | (with_reducible refine Below.setCell ?_ (by first | omega | (simp; done) | (simp; omega)) _) | (with_reducible refine Below.drew ?_) | (with_reducible refine below_drewN ?_ _) | (refine below_then (by with_reducible assumption) ?_))) : Below w2.heap.size w2 _).mono hz2)).step hst4)
          have hz4 := HIN4.out.tch.size
          have hs4 := hst4.2.size
          simp at hs4
          obtain ⟨x0, x1, x2, _, _, _, l4⟩ := b_blk B4
          clear hst4
          go_wp2_with fail
          refine (HF.out _).mono ?_
          rintro r w5 ⟨rfl, rfl⟩

          go_wp2_with fail
          refine (HG.out _ HIN4.out.rd).mono ?_
          rintro r w6 ⟨rfl, hb6⟩
          have B6 := B4.later hb6
          have R6 := R4.later hb6
          have HIN6 := hid (HIN4.out.row (hb6.mono hz4))
          have hz6 := HIN6.out.tch.size
          have hl6 := B6.lt
          obtain ⟨y0, y1, y2, _, _, _, _⟩ := b_blk B6
          clear hb6
          go_wp2_with fail
          refine (HHD.out _ HIN6.out.rd).mono ?_
          rintro r w7 ⟨vv, uu, rfl, hH7, hst7⟩
          obtain ⟨av, cv, rfl⟩ := HeadsAt.formv hH7
          obtain ⟨au, cu, rfl⟩ := own_form hH7.szs
          have B7 : Blk w7 w2.heap.size 25 #[.int .u64 (e : Int), .int .u64 (p : Int), .slice none 0 0] := Blk.tch B6 hst7.2 (by omega)
          have R7 : Blk w7 w.heap.size 25 #[.int .u64 0, .int .u64 0, .slice none 0 0] := Blk.tch R6 hst7.2 (by omega)
          have HIN7 := hid (HIN6.out.step hst7)
          have hz7 := HIN7.out.tch.size
          have HV7 := hid hH7.out
          have HU7 := hid (hH7.ints HFN.out)
          have hz67 := hst7.2.size
          clear hH7 hst7
          go_wp2_with fail
          refine (rd_at _ HIN7.out.rd).mono ?_
          rintro r w8 ⟨rfl, rfl⟩
          go_wp2_with fail
          have HX7 := hid (HU.out.st _ _ _ HX.out (Nat.le_refl _) (HIN7.out.tch.mono fun b _ e => .inl e))
          rw [HU.out.ent]
          refine (HUC.out _ HIN7.out.rd HX7.out hz7 (HIN7.out.tch.mono fun b _ e => e ▸ HU.out.own)).mono ?_
          rintro r w9 ⟨v9, rfl, hD9, hRD9, hT9, hX9⟩
          obtain ⟨ad, cd, hfv, hD9', _⟩ := sl_form hD9
          simp only [List.cons.injEq, and_true] at hfv
          subst hfv
          have hnk : ∀ b, w.heap.size ≤ b → ¬ K b := fun b hb hk => by have := HU.out.lt b hk; omega
          have B9 : Blk w9 w2.heap.size 25 #[.int .u64 (e : Int), .int .u64 (p : Int), .slice none 0 0] := Blk.tch B7 hT9 (hnk _ hz2)
          have R9 : Blk w9 w.heap.size 25 #[.int .u64 0, .int .u64 0, .slice none 0 0] := Blk.tch R7 hT9 (hnk _ (Nat.le_refl _))
          have hz9 : w7.heap.size ≤ w9.heap.size := hT9.size
          have HT9 := hid ((HIN7.out.tch.mono fun b _ e => e ▸ HU.out.own : Tch K w w7).trans hT9 fun b _ e => e)
          have HH9 := hid (entriesW_entries (rEntriesW.mono (rEntriesW.keep HV7.out (w' := w9) fun b hb => hT9.block b hb.2 (hnk b (by omega))) (S' := (· < w9.heap.size)) fun b hb => by omega))
          have HS9 := hid (rI64s.mono (rI64s.keep HU7.out (w' := w9) fun b hb => hT9.block b hb.2 (hnk b (by omega))) (S' := (· < w9.heap.size)) fun b hb => by omega)
          have HD9 := hid (rBytes.mono hD9' (S' := (· < w9.heap.size)) fun b hb => hb.2)
          have HX9 := hid hX9
          have hIN9 : RdInv w9 w9 g B a s5 := RdInv.refl hRD9
          have HIN9 := hid hIN9
          clear hD9 hD9' hRD9 hT9 hX9 hIN9 HV7 HU7 B7 R7
          go_wp2_with fail
          refine (HDL.out _ av au ad _ _ _ cv cu cd HH9.out HS9.out HD9.out (by omega) (by omega) (fun h hh => ⟨by have := (HFN.out h hh).2.1; omega, fun z hz => by have := (HFN.out h hh).2.2 z hz; omega⟩)).mono ?_
          rintro r w10 ⟨v10, rfl, hE10, hb10⟩
          obtain ⟨ae, ce, hfe, _, _⟩ := sl_form (entriesW_entries hE10)
          simp only [List.cons.injEq, and_true] at hfe
          subst hfe
          have B10 := B9.later hb10
          have R10 := R9.later hb10
          have HIN10 := hid (HIN9.out.row hb10)
          have HE10 := hid hE10
          have hs10 := hb10.size
          have HB10 := hid hb10
          clear hE10 hb10 B9 R9

          go_wp2_with fail
          refine (HG5.out _ HIN10.out.rd).mono ?_
          rintro r w11 ⟨rfl, hb11⟩
          have B11 := B10.later hb11
          have R11 := R10.later hb11
          have RD11 := HIN10.out.rd.blk.later hb11
          have HRO := hid HIN10.out.rd.ok
          have HB11 := hid hb11
          have hs11 := hb11.size
          obtain ⟨x0', x1', x2', e0, e1, e2, l11⟩ := b_blk B11
          obtain ⟨z0', z1', z2', f0, f1, f2, m11⟩ := b_blk R11
          clear hb11
          go_wp2
          have RF : Blk ((((w11.setCell ⟨w2.heap.size, 2, none⟩ (.slice ae EN.length ce)).setCell ⟨w.heap.size, 0, none⟩ (.int .u64 (e : Int))).setCell ⟨w.heap.size, 1, none⟩ (.int .u64 (p : Int))).setCell ⟨w.heap.size, 2, none⟩ (.slice ae EN.length ce)) w.heap.size 25 #[.int .u64 (e : Int), .int .u64 (p : Int), .slice ae EN.length ce] := (((Blk.far R11 (by dsimp only; omega) _).set 0 _).set 1 _).set 2 _
          obtain ⟨v0, v1, v2, _, _, _, lF⟩ := b_blk RF
          have hTF : Tch (fun b => w.heap.size ≤ b) w9 ((((w11.setCell ⟨w2.heap.size, 2, none⟩ (.slice ae EN.length ce)).setCell ⟨w.heap.size, 0, none⟩ (.int .u64 (e : Int))).setCell ⟨w.heap.size, 1, none⟩ (.int .u64 (p : Int))).setCell ⟨w.heap.size, 2, none⟩ (.slice ae EN.length ce)) := ((((Tch.trans (Tch.of_below (HB10.out.mono (by omega : w.heap.size ≤ w9.heap.size))) (Tch.of_below (HB11.out.mono (by omega : w.heap.size ≤ w10.heap.size))) fun b _ h => h).setCell (fun _ => by dsimp only; omega) _).setCell (fun _ => by dsimp only; omega) _).setCell (fun _ => by dsimp only; omega) _).setCell (fun _ => by dsimp only; omega) _
          have hTK : Tch K w ((((w11.setCell ⟨w2.heap.size, 2, none⟩ (.slice ae EN.length ce)).setCell ⟨w.heap.size, 0, none⟩ (.int .u64 (e : Int))).setCell ⟨w.heap.size, 1, none⟩ (.int .u64 (p : Int))).setCell ⟨w.heap.size, 2, none⟩ (.slice ae EN.length ce)) := HT9.out.trans hTF fun b hb hle => by omega
          have hrd : RdAt ((((w11.setCell ⟨w2.heap.size, 2, none⟩ (.slice ae EN.length ce)).setCell ⟨w.heap.size, 0, none⟩ (.int .u64 (e : Int))).setCell ⟨w.heap.size, 1, none⟩ (.int .u64 (p : Int))).setCell ⟨w.heap.size, 2, none⟩ (.slice ae EN.length ce)) g B a s5 := HU.out.rd hTK (Blk.far (Blk.far (Blk.far (Blk.far RD11 (by dsimp only; omega) _) (by dsimp only; omega) _) (by dsimp only; omega) _) (by dsimp only; omega) _) HRO.out
          have hXF : X ((((w11.setCell ⟨w2.heap.size, 2, none⟩ (.slice ae EN.length ce)).setCell ⟨w.heap.size, 0, none⟩ (.int .u64 (e : Int))).setCell ⟨w.heap.size, 1, none⟩ (.int .u64 (p : Int))).setCell ⟨w.heap.size, 2, none⟩ (.slice ae EN.length ce)) q := HU.out.st _ _ _ HX9.out (by omega) (hTF.mono fun b _ hle => .inr hle)
          have hvF : rEntriesW.r (Fresh w ((((w11.setCell ⟨w2.heap.size, 2, none⟩ (.slice ae EN.length ce)).setCell ⟨w.heap.size, 0, none⟩ (.int .u64 (e : Int))).setCell ⟨w.heap.size, 1, none⟩ (.int .u64 (p : Int))).setCell ⟨w.heap.size, 2, none⟩ (.slice ae EN.length ce))) ((((w11.setCell ⟨w2.heap.size, 2, none⟩ (.slice ae EN.length ce)).setCell ⟨w.heap.size, 0, none⟩ (.int .u64 (e : Int))).setCell ⟨w.heap.size, 1, none⟩ (.int .u64 (p : Int))).setCell ⟨w.heap.size, 2, none⟩ (.slice ae EN.length ce)) [.slice ae EN.length ce] EN := rEntriesW.mono (rEntriesW.keep HE10.out (w' := ((((w11.setCell ⟨w2.heap.size, 2, none⟩ (.slice ae EN.length ce)).setCell ⟨w.heap.size, 0, none⟩ (.int .u64 (e : Int))).setCell ⟨w.heap.size, 1, none⟩ (.int .u64 (p : Int))).setCell ⟨w.heap.size, 2, none⟩ (.slice ae EN.length ce))) fun b hb => by
            have h1 : w9.heap.size ≤ b := hb.1
            have h2 : b < w10.heap.size := hb.2
            refine Eq.trans ?_ (HB11.out.block b h2)
            repeat rw [Below.heap_setCell _ _ _ _ (by dsimp only; omega)]) fun b hb => ⟨by have := hb.1; omega, by have := hb.2; simp; omega⟩
          refine bodyPost_ret (v := .agg #[.int .u64 (e : Int), .int .u64 (p : Int), .slice ae EN.length ce]) (by simp [results, Tryz.results91, go_sem, v0, v1, v2, lF]) rfl ⟨_, q, rfl, hvF, hrd, hTK, hXF, fun _ => rfl⟩
        · simp only [if_neg hk5]
          have HG5 := hid (fun (W : World) (hW : RdAt W g B a s5) => (by have := rd_good W hW; rw [decide_eq_false hk5] at this; exact this : Calls Tryz.prog 96 #[.pointer (some ⟨g, 0, none⟩)] W fun r w' => r = .returned (.bool false) ∧ Below W.heap.size W w'))
          have HDL := hid (fun (W : World) (x1 x2 x3 y1 y2 y3 z1 z2 z3) => entry_deal H D x1 x2 x3 y1 y2 y3 z1 z2 z3 W)
          rw [hDF] at HDL
          simp only [Option.isSome_some, Option.isSome_none, Option.getD_some, Option.getD_none] at HDL
          have HK5 := hid hk5
          clear hDF hok hk5
          generalize hdl : dealE H D = EN at *
          clear hdl
          go_enter Tryz.func91, Tryz.ntmps91
          go_wp2_with fail
          refine (HEP.out _ (HIN.out.row (by (repeat (first | with_reducible exact Below.refl _ _ | with_reducible assumption | (with_reducible refine below_alloc ?_ _) | (with_reducible refine Below.setCell ?_ (by first | omega | (simp; done) | (simp; omega)) _) | (with_reducible refine Below.drew ?_) | (with_reducible refine below_drewN ?_ _) | (refine below_then (by with_reducible assumption) ?_))))).rd).mono ?_
          rintro r w1 ⟨rfl, hst1⟩
          have R1 : Blk w1 w.heap.size 25 #[.int .u64 0, .int .u64 0, .slice none 0 0] := Blk.tch (by (repeat (first | assumption | exact Blk.newAt _ _ _ (by first | (simp; done) | (simp; omega)) | refine Blk.alloc ?_ _ | refine Blk.drew ?_ | refine Blk.drewN ?_ _ | refine Blk.far ?_ (by first | (simp; done) | (simp; omega)) _))) hst1.2 (by omega)
          have HIN1 := hid ((HIN.out.row (by (repeat (first | with_reducible exact Below.refl _ _ | with_reducible assumption | (with_reducible refine below_alloc ?_ _) | (with_reducible refine Below.setCell ?_ (by first | omega | (simp; done) | (simp; omega)) _) | (with_reducible refine Below.drew ?_) | (with_reducible refine below_drewN ?_ _) | (refine below_then (by with_reducible assumption) ?_))))).step hst1)
          have hz1 := HIN1.out.tch.size
          clear hst1
          go_wp2_with fail
          refine (HPO.out _ HIN1.out.rd).mono ?_
          rintro r w2 ⟨rfl, hst2⟩
          have R2 : Blk w2 w.heap.size 25 #[.int .u64 0, .int .u64 0, .slice none 0 0] := Blk.tch R1 hst2.2 (by omega)
          have HIN2 := hid (HIN1.out.step hst2)
          have hz2 := HIN2.out.tch.size
          have hr2 := R2.lt
          clear hst2 R1
          go_wp2_with fail
          refine (rd_at _ (HIN2.out.row ((by (repeat (first | with_reducible exact Below.refl _ _ | with_reducible assumption | (with_reducible refine below_alloc ?_ _) | (with_reducible refine Below.setCell ?_ (by first | omega | (simp; done) | (simp; omega)) _) | (with_reducible refine Below.drew ?_) | (with_reducible refine below_drewN ?_ _) | (refine below_then (by with_reducible assumption) ?_))) : Below w2.heap.size w2 _).mono hz2)).rd).mono ?_
          rintro r w3 ⟨rfl, rfl⟩
          go_wp2_with fail
          refine (HIT.out _ (HIN2.out.row ((by (repeat (first | with_reducible exact Below.refl _ _ | with_reducible assumption | (with_reducible refine below_alloc ?_ _) | (with_reducible refine Below.setCell ?_ (by first | omega | (simp; done) | (simp; omega)) _) | (with_reducible refine Below.drew ?_) | (with_reducible refine below_drewN ?_ _) | (refine below_then (by with_reducible assumption) ?_))) : Below w2.heap.size w2 _).mono hz2)).rd).mono ?_
          rintro r w4 ⟨rfl, hst4⟩
          have R4 : Blk w4 w.heap.size 25 #[.int .u64 0, .int .u64 0, .slice none 0 0] := Blk.tch (Blk.later R2 (by (repeat (first | with_reducible exact Below.refl _ _ | with_reducible assumption | (with_reducible refine below_alloc ?_ _) | (with_reducible refine Below.setCell ?_ (by first | omega | (simp; done) | (simp; omega)) _) | (with_reducible refine Below.drew ?_) | (with_reducible refine below_drewN ?_ _) | (refine below_then (by with_reducible assumption) ?_))) : Below w2.heap.size w2 _)) hst4.2 (by omega)
          have B4 : Blk w4 w2.heap.size 25 #[.int .u64 (e : Int), .int .u64 (p : Int), .slice none 0 0] := Blk.tch (by (repeat (first | assumption | exact Blk.newAt _ _ _ (by first | (simp; done) | (simp; omega)) | refine Blk.alloc ?_ _ | refine Blk.drew ?_ | refine Blk.drewN ?_ _ | refine Blk.far ?_ (by first | (simp; done) | (simp; omega)) _))) hst4.2 (by omega)
          have HIN4 := hid ((HIN2.out.row ((by (repeat (first | with_reducible exact Below.refl _ _ | with_reducible assumption | (with_reducible refine below_alloc ?_ _) | (with_reducible refine Below.setCell ?_ (by first | omega | (simp; done) | (simp; omega)) _) | (with_reducible refine Below.drew ?_) | (with_reducible refine below_drewN ?_ _) | (refine below_then (by with_reducible assumption) ?_))) : Below w2.heap.size w2 _).mono hz2)).step hst4)
          have hz4 := HIN4.out.tch.size
          have hs4 := hst4.2.size
          simp at hs4
          obtain ⟨x0, x1, x2, _, _, _, l4⟩ := b_blk B4
          clear hst4
          go_wp2_with fail
          refine (HF.out _).mono ?_
          rintro r w5 ⟨rfl, rfl⟩

          go_wp2_with fail
          refine (HG.out _ HIN4.out.rd).mono ?_
          rintro r w6 ⟨rfl, hb6⟩
          have B6 := B4.later hb6
          have R6 := R4.later hb6
          have HIN6 := hid (HIN4.out.row (hb6.mono hz4))
          have hz6 := HIN6.out.tch.size
          have hl6 := B6.lt
          obtain ⟨y0, y1, y2, _, _, _, _⟩ := b_blk B6
          clear hb6
          go_wp2_with fail
          refine (HHD.out _ HIN6.out.rd).mono ?_
          rintro r w7 ⟨vv, uu, rfl, hH7, hst7⟩
          obtain ⟨av, cv, rfl⟩ := HeadsAt.formv hH7
          obtain ⟨au, cu, rfl⟩ := own_form hH7.szs
          have B7 : Blk w7 w2.heap.size 25 #[.int .u64 (e : Int), .int .u64 (p : Int), .slice none 0 0] := Blk.tch B6 hst7.2 (by omega)
          have R7 : Blk w7 w.heap.size 25 #[.int .u64 0, .int .u64 0, .slice none 0 0] := Blk.tch R6 hst7.2 (by omega)
          have HIN7 := hid (HIN6.out.step hst7)
          have hz7 := HIN7.out.tch.size
          have HV7 := hid hH7.out
          have HU7 := hid (hH7.ints HFN.out)
          have hz67 := hst7.2.size
          clear hH7 hst7
          go_wp2_with fail
          refine (rd_at _ HIN7.out.rd).mono ?_
          rintro r w8 ⟨rfl, rfl⟩
          go_wp2_with fail
          have HX7 := hid (HU.out.st _ _ _ HX.out (Nat.le_refl _) (HIN7.out.tch.mono fun b _ e => .inl e))
          rw [HU.out.ent]
          refine (HUC.out _ HIN7.out.rd HX7.out hz7 (HIN7.out.tch.mono fun b _ e => e ▸ HU.out.own)).mono ?_
          rintro r w9 ⟨v9, rfl, hD9, hRD9, hT9, hX9⟩
          obtain ⟨ad, cd, hfv, hD9', _⟩ := sl_form hD9
          simp only [List.cons.injEq, and_true] at hfv
          subst hfv
          have hnk : ∀ b, w.heap.size ≤ b → ¬ K b := fun b hb hk => by have := HU.out.lt b hk; omega
          have B9 : Blk w9 w2.heap.size 25 #[.int .u64 (e : Int), .int .u64 (p : Int), .slice none 0 0] := Blk.tch B7 hT9 (hnk _ hz2)
          have R9 : Blk w9 w.heap.size 25 #[.int .u64 0, .int .u64 0, .slice none 0 0] := Blk.tch R7 hT9 (hnk _ (Nat.le_refl _))
          have hz9 : w7.heap.size ≤ w9.heap.size := hT9.size
          have HT9 := hid ((HIN7.out.tch.mono fun b _ e => e ▸ HU.out.own : Tch K w w7).trans hT9 fun b _ e => e)
          have HH9 := hid (entriesW_entries (rEntriesW.mono (rEntriesW.keep HV7.out (w' := w9) fun b hb => hT9.block b hb.2 (hnk b (by omega))) (S' := (· < w9.heap.size)) fun b hb => by omega))
          have HS9 := hid (rI64s.mono (rI64s.keep HU7.out (w' := w9) fun b hb => hT9.block b hb.2 (hnk b (by omega))) (S' := (· < w9.heap.size)) fun b hb => by omega)
          have HD9 := hid (rBytes.mono hD9' (S' := (· < w9.heap.size)) fun b hb => hb.2)
          have HX9 := hid hX9
          have hIN9 : RdInv w9 w9 g B a s5 := RdInv.refl hRD9
          have HIN9 := hid hIN9
          clear hD9 hD9' hRD9 hT9 hX9 hIN9 HV7 HU7 B7 R7
          go_wp2_with fail
          refine (HDL.out _ av au ad _ _ _ cv cu cd HH9.out HS9.out HD9.out (by omega) (by omega) (fun h hh => ⟨by have := (HFN.out h hh).2.1; omega, fun z hz => by have := (HFN.out h hh).2.2 z hz; omega⟩)).mono ?_
          rintro r w10 ⟨v10, rfl, hE10, hb10⟩
          obtain ⟨ae, ce, hfe, _, _⟩ := sl_form (entriesW_entries hE10)
          simp only [List.cons.injEq, and_true] at hfe
          subst hfe
          have B10 := B9.later hb10
          have R10 := R9.later hb10
          have HIN10 := hid (HIN9.out.row hb10)
          have HE10 := hid hE10
          have hs10 := hb10.size
          have HB10 := hid hb10
          clear hE10 hb10 B9 R9

          have HTX : Hid (Tch (fun b => b = g ∨ w.heap.size ≤ b) w9 w10) := hid ((Tch.of_below (HB10.out.mono (by omega : w.heap.size ≤ w9.heap.size))).mono fun b _ h => .inr h)
          go_wp2_with fail
          refine (HG5.out _ HIN10.out.rd).mono ?_
          rintro r w11 ⟨rfl, hb11⟩

          have HB11 := hid hb11
          have R11 := R10.later hb11
          have RD11 := HIN10.out.rd.blk.later hb11
          have HRO := hid HIN10.out.rd.ok
          have hs11 := hb11.size
          obtain ⟨z0', z1', z2', f0, f1, f2, m11⟩ := b_blk R11
          clear hb11
          go_wp2
          have RF : Blk (((w11.setCell ⟨w.heap.size, 0, none⟩ (.int .u64 0)).setCell ⟨w.heap.size, 1, none⟩ (.int .u64 0)).setCell ⟨w.heap.size, 2, none⟩ (.slice none 0 0)) w.heap.size 25 #[.int .u64 0, .int .u64 0, .slice none 0 0] := ((R11.set 0 _).set 1 _).set 2 _
          obtain ⟨v0, v1, v2, _, _, _, lF⟩ := b_blk RF
          have hTF : Tch (fun b => b = g ∨ w.heap.size ≤ b) w9 (((w11.setCell ⟨w.heap.size, 0, none⟩ (.int .u64 0)).setCell ⟨w.heap.size, 1, none⟩ (.int .u64 0)).setCell ⟨w.heap.size, 2, none⟩ (.slice none 0 0)) := ((((Tch.trans (HTX.out) (Tch.of_below (HB11.out.mono (by omega : w.heap.size ≤ w10.heap.size))) fun b _ h => .inr h).setCell (fun _ => .inr (by dsimp only; omega)) _).setCell (fun _ => .inr (by dsimp only; omega)) _).setCell (fun _ => .inr (by dsimp only; omega)) _)
          have hTK : Tch K w (((w11.setCell ⟨w.heap.size, 0, none⟩ (.int .u64 0)).setCell ⟨w.heap.size, 1, none⟩ (.int .u64 0)).setCell ⟨w.heap.size, 2, none⟩ (.slice none 0 0)) := HT9.out.trans hTF fun b hb hle => by
            rcases hle with rfl | hle
            · exact HU.out.own
            · omega
          have hrd : RdAt (((w11.setCell ⟨w.heap.size, 0, none⟩ (.int .u64 0)).setCell ⟨w.heap.size, 1, none⟩ (.int .u64 0)).setCell ⟨w.heap.size, 2, none⟩ (.slice none 0 0)) g B a s5 := HU.out.rd hTK (Blk.far (Blk.far (Blk.far RD11 (by dsimp only; omega) _) (by dsimp only; omega) _) (by dsimp only; omega) _) HRO.out
          have hXF : X (((w11.setCell ⟨w.heap.size, 0, none⟩ (.int .u64 0)).setCell ⟨w.heap.size, 1, none⟩ (.int .u64 0)).setCell ⟨w.heap.size, 2, none⟩ (.slice none 0 0)) q := HU.out.st _ _ _ HX9.out (by omega) hTF
          refine bodyPost_ret (v := .agg #[.int .u64 0, .int .u64 0, .slice none 0 0]) (by simp [results, Tryz.results91, go_sem, v0, v1, v2, lF]) rfl ⟨_, q, rfl, ⟨none, 0, rfl, Nat.le_refl _, Nat.zero_le _, .inl rfl⟩, hrd, hTK, hXF, fun h0 => absurd h0 HK5.out⟩
      · rw [if_neg hok] at hDF
        simp only [if_neg hok]
        have hk5 : (s5.fail 3 (s4.p : Int)).k ≠ 0 := Rs.fail_k (by omega)
        simp only [if_neg hk5]
        have HG5 := hid (fun (W : World) (hW : RdAt W g B a (s5.fail 3 (s4.p : Int))) => (by have := rd_good W hW; rw [decide_eq_false hk5] at this; exact this : Calls Tryz.prog 96 #[.pointer (some ⟨g, 0, none⟩)] W fun r w' => r = .returned (.bool false) ∧ Below W.heap.size W w'))
        have HDL := hid (fun (W : World) (x1 x2 x3 y1 y2 y3 z1 z2 z3) => entry_deal H D x1 x2 x3 y1 y2 y3 z1 z2 z3 W)
        rw [hDF] at HDL
        simp only [Option.isSome_some, Option.isSome_none, Option.getD_some, Option.getD_none] at HDL
        have HK5 := hid hk5
        clear hDF hok hk5
        go_enter Tryz.func91, Tryz.ntmps91
        go_wp2_with fail
        refine (HEP.out _ (HIN.out.row (by (repeat (first | with_reducible exact Below.refl _ _ | with_reducible assumption | (with_reducible refine below_alloc ?_ _) | (with_reducible refine Below.setCell ?_ (by first | omega | (simp; done) | (simp; omega)) _) | (with_reducible refine Below.drew ?_) | (with_reducible refine below_drewN ?_ _) | (refine below_then (by with_reducible assumption) ?_))))).rd).mono ?_
        rintro r w1 ⟨rfl, hst1⟩
        have R1 : Blk w1 w.heap.size 25 #[.int .u64 0, .int .u64 0, .slice none 0 0] := Blk.tch (by (repeat (first | assumption | exact Blk.newAt _ _ _ (by first | (simp; done) | (simp; omega)) | refine Blk.alloc ?_ _ | refine Blk.drew ?_ | refine Blk.drewN ?_ _ | refine Blk.far ?_ (by first | (simp; done) | (simp; omega)) _))) hst1.2 (by omega)
        have HIN1 := hid ((HIN.out.row (by (repeat (first | with_reducible exact Below.refl _ _ | with_reducible assumption | (with_reducible refine below_alloc ?_ _) | (with_reducible refine Below.setCell ?_ (by first | omega | (simp; done) | (simp; omega)) _) | (with_reducible refine Below.drew ?_) | (with_reducible refine below_drewN ?_ _) | (refine below_then (by with_reducible assumption) ?_))))).step hst1)
        have hz1 := HIN1.out.tch.size
        clear hst1
        go_wp2_with fail
        refine (HPO.out _ HIN1.out.rd).mono ?_
        rintro r w2 ⟨rfl, hst2⟩
        have R2 : Blk w2 w.heap.size 25 #[.int .u64 0, .int .u64 0, .slice none 0 0] := Blk.tch R1 hst2.2 (by omega)
        have HIN2 := hid (HIN1.out.step hst2)
        have hz2 := HIN2.out.tch.size
        have hr2 := R2.lt
        clear hst2 R1
        go_wp2_with fail
        refine (rd_at _ (HIN2.out.row ((by (repeat (first | with_reducible exact Below.refl _ _ | with_reducible assumption | (with_reducible refine below_alloc ?_ _) | (with_reducible refine Below.setCell ?_ (by first | omega | (simp; done) | (simp; omega)) _) | (with_reducible refine Below.drew ?_) | (with_reducible refine below_drewN ?_ _) | (refine below_then (by with_reducible assumption) ?_))) : Below w2.heap.size w2 _).mono hz2)).rd).mono ?_
        rintro r w3 ⟨rfl, rfl⟩
        go_wp2_with fail
        refine (HIT.out _ (HIN2.out.row ((by (repeat (first | with_reducible exact Below.refl _ _ | with_reducible assumption | (with_reducible refine below_alloc ?_ _) | (with_reducible refine Below.setCell ?_ (by first | omega | (simp; done) | (simp; omega)) _) | (with_reducible refine Below.drew ?_) | (with_reducible refine below_drewN ?_ _) | (refine below_then (by with_reducible assumption) ?_))) : Below w2.heap.size w2 _).mono hz2)).rd).mono ?_
        rintro r w4 ⟨rfl, hst4⟩
        have R4 : Blk w4 w.heap.size 25 #[.int .u64 0, .int .u64 0, .slice none 0 0] := Blk.tch (Blk.later R2 (by (repeat (first | with_reducible exact Below.refl _ _ | with_reducible assumption | (with_reducible refine below_alloc ?_ _) | (with_reducible refine Below.setCell ?_ (by first | omega | (simp; done) | (simp; omega)) _) | (with_reducible refine Below.drew ?_) | (with_reducible refine below_drewN ?_ _) | (refine below_then (by with_reducible assumption) ?_))) : Below w2.heap.size w2 _)) hst4.2 (by omega)
        have B4 : Blk w4 w2.heap.size 25 #[.int .u64 (e : Int), .int .u64 (p : Int), .slice none 0 0] := Blk.tch (by (repeat (first | assumption | exact Blk.newAt _ _ _ (by first | (simp; done) | (simp; omega)) | refine Blk.alloc ?_ _ | refine Blk.drew ?_ | refine Blk.drewN ?_ _ | refine Blk.far ?_ (by first | (simp; done) | (simp; omega)) _))) hst4.2 (by omega)
        have HIN4 := hid ((HIN2.out.row ((by (repeat (first | with_reducible exact Below.refl _ _ | with_reducible assumption | (with_reducible refine below_alloc ?_ _) | (with_reducible refine Below.setCell ?_ (by first | omega | (simp; done) | (simp; omega)) _) | (with_reducible refine Below.drew ?_) | (with_reducible refine below_drewN ?_ _) | (refine below_then (by with_reducible assumption) ?_))) : Below w2.heap.size w2 _).mono hz2)).step hst4)
        have hz4 := HIN4.out.tch.size
        have hs4 := hst4.2.size
        simp at hs4
        obtain ⟨x0, x1, x2, _, _, _, l4⟩ := b_blk B4
        clear hst4
        go_wp2_with fail
        refine (HF.out _).mono ?_
        rintro r w5 ⟨rfl, rfl⟩

        go_wp2_with fail
        refine (HG.out _ HIN4.out.rd).mono ?_
        rintro r w6 ⟨rfl, hb6⟩
        have B6 := B4.later hb6
        have R6 := R4.later hb6
        have HIN6 := hid (HIN4.out.row (hb6.mono hz4))
        have hz6 := HIN6.out.tch.size
        have hl6 := B6.lt
        obtain ⟨y0, y1, y2, _, _, _, _⟩ := b_blk B6
        clear hb6
        go_wp2_with fail
        refine (HHD.out _ HIN6.out.rd).mono ?_
        rintro r w7 ⟨vv, uu, rfl, hH7, hst7⟩
        obtain ⟨av, cv, rfl⟩ := HeadsAt.formv hH7
        obtain ⟨au, cu, rfl⟩ := own_form hH7.szs
        have B7 : Blk w7 w2.heap.size 25 #[.int .u64 (e : Int), .int .u64 (p : Int), .slice none 0 0] := Blk.tch B6 hst7.2 (by omega)
        have R7 : Blk w7 w.heap.size 25 #[.int .u64 0, .int .u64 0, .slice none 0 0] := Blk.tch R6 hst7.2 (by omega)
        have HIN7 := hid (HIN6.out.step hst7)
        have hz7 := HIN7.out.tch.size
        have HV7 := hid hH7.out
        have HU7 := hid (hH7.ints HFN.out)
        have hz67 := hst7.2.size
        clear hH7 hst7
        go_wp2_with fail
        refine (rd_at _ HIN7.out.rd).mono ?_
        rintro r w8 ⟨rfl, rfl⟩
        go_wp2_with fail
        have HX7 := hid (HU.out.st _ _ _ HX.out (Nat.le_refl _) (HIN7.out.tch.mono fun b _ e => .inl e))
        rw [HU.out.ent]
        refine (HUC.out _ HIN7.out.rd HX7.out hz7 (HIN7.out.tch.mono fun b _ e => e ▸ HU.out.own)).mono ?_
        rintro r w9 ⟨v9, rfl, hD9, hRD9, hT9, hX9⟩
        obtain ⟨ad, cd, hfv, hD9', _⟩ := sl_form hD9
        simp only [List.cons.injEq, and_true] at hfv
        subst hfv
        have hnk : ∀ b, w.heap.size ≤ b → ¬ K b := fun b hb hk => by have := HU.out.lt b hk; omega
        have B9 : Blk w9 w2.heap.size 25 #[.int .u64 (e : Int), .int .u64 (p : Int), .slice none 0 0] := Blk.tch B7 hT9 (hnk _ hz2)
        have R9 : Blk w9 w.heap.size 25 #[.int .u64 0, .int .u64 0, .slice none 0 0] := Blk.tch R7 hT9 (hnk _ (Nat.le_refl _))
        have hz9 : w7.heap.size ≤ w9.heap.size := hT9.size
        have HT9 := hid ((HIN7.out.tch.mono fun b _ e => e ▸ HU.out.own : Tch K w w7).trans hT9 fun b _ e => e)
        have HH9 := hid (entriesW_entries (rEntriesW.mono (rEntriesW.keep HV7.out (w' := w9) fun b hb => hT9.block b hb.2 (hnk b (by omega))) (S' := (· < w9.heap.size)) fun b hb => by omega))
        have HS9 := hid (rI64s.mono (rI64s.keep HU7.out (w' := w9) fun b hb => hT9.block b hb.2 (hnk b (by omega))) (S' := (· < w9.heap.size)) fun b hb => by omega)
        have HD9 := hid (rBytes.mono hD9' (S' := (· < w9.heap.size)) fun b hb => hb.2)
        have HX9 := hid hX9
        have hIN9 : RdInv w9 w9 g B a s5 := RdInv.refl hRD9
        have HIN9 := hid hIN9
        clear hD9 hD9' hRD9 hT9 hX9 hIN9 HV7 HU7 B7 R7
        go_wp2_with fail
        refine (HDL.out _ av au ad _ _ _ cv cu cd HH9.out HS9.out HD9.out (by omega) (by omega) (fun h hh => ⟨by have := (HFN.out h hh).2.1; omega, fun z hz => by have := (HFN.out h hh).2.2 z hz; omega⟩)).mono ?_
        rintro r w10 ⟨v10, rfl, hE10, hb10⟩
        obtain ⟨ae, ce, hfe, _, _⟩ := sl_form (entriesW_entries hE10)
        simp only [List.cons.injEq, and_true] at hfe
        subst hfe
        have B10 := B9.later hb10
        have R10 := R9.later hb10
        have HIN10 := hid (HIN9.out.row hb10)
        have HE10 := hid hE10
        have hs10 := hb10.size
        have HB10 := hid hb10
        clear hE10 hb10 B9 R9

        go_wp2_with fail
        refine (rd_fail _ HIN10.out.rd 3 (s4.p : Int) (by omega)).mono ?_
        rintro r w12 ⟨rfl, hst12⟩
        have HTX : Hid (Tch (fun b => b = g ∨ w.heap.size ≤ b) w9 w12) := hid (((Tch.of_below (HB10.out.mono (by omega : w.heap.size ≤ w9.heap.size))).mono fun b _ h => .inr h).trans hst12.2 fun b _ h => .inl h)
        have R12 : Blk w12 w.heap.size 25 #[.int .u64 0, .int .u64 0, .slice none 0 0] := Blk.tch R10 hst12.2 (by omega)
        have HIN12 := hid (HIN10.out.step hst12)
        have hs12 := hst12.2.size
        clear hst12
        go_wp2_with fail
        refine (HG5.out _ HIN12.out.rd).mono ?_
        rintro r w11 ⟨rfl, hb11⟩

        have HB11 := hid hb11
        have R11 := R12.later hb11
        have RD11 := HIN12.out.rd.blk.later hb11
        have HRO := hid HIN12.out.rd.ok
        have hs11 := hb11.size
        obtain ⟨z0', z1', z2', f0, f1, f2, m11⟩ := b_blk R11
        clear hb11
        go_wp2
        have RF : Blk (((w11.setCell ⟨w.heap.size, 0, none⟩ (.int .u64 0)).setCell ⟨w.heap.size, 1, none⟩ (.int .u64 0)).setCell ⟨w.heap.size, 2, none⟩ (.slice none 0 0)) w.heap.size 25 #[.int .u64 0, .int .u64 0, .slice none 0 0] := ((R11.set 0 _).set 1 _).set 2 _
        obtain ⟨v0, v1, v2, _, _, _, lF⟩ := b_blk RF
        have hTF : Tch (fun b => b = g ∨ w.heap.size ≤ b) w9 (((w11.setCell ⟨w.heap.size, 0, none⟩ (.int .u64 0)).setCell ⟨w.heap.size, 1, none⟩ (.int .u64 0)).setCell ⟨w.heap.size, 2, none⟩ (.slice none 0 0)) := ((((Tch.trans (HTX.out) (Tch.of_below (HB11.out.mono (by omega : w.heap.size ≤ w12.heap.size))) fun b _ h => .inr h).setCell (fun _ => .inr (by dsimp only; omega)) _).setCell (fun _ => .inr (by dsimp only; omega)) _).setCell (fun _ => .inr (by dsimp only; omega)) _)
        have hTK : Tch K w (((w11.setCell ⟨w.heap.size, 0, none⟩ (.int .u64 0)).setCell ⟨w.heap.size, 1, none⟩ (.int .u64 0)).setCell ⟨w.heap.size, 2, none⟩ (.slice none 0 0)) := HT9.out.trans hTF fun b hb hle => by
          rcases hle with rfl | hle
          · exact HU.out.own
          · omega
        have hrd : RdAt (((w11.setCell ⟨w.heap.size, 0, none⟩ (.int .u64 0)).setCell ⟨w.heap.size, 1, none⟩ (.int .u64 0)).setCell ⟨w.heap.size, 2, none⟩ (.slice none 0 0)) g B a (s5.fail 3 (s4.p : Int)) := HU.out.rd hTK (Blk.far (Blk.far (Blk.far RD11 (by dsimp only; omega) _) (by dsimp only; omega) _) (by dsimp only; omega) _) HRO.out
        have hXF : X (((w11.setCell ⟨w.heap.size, 0, none⟩ (.int .u64 0)).setCell ⟨w.heap.size, 1, none⟩ (.int .u64 0)).setCell ⟨w.heap.size, 2, none⟩ (.slice none 0 0)) q := HU.out.st _ _ _ HX9.out (by omega) hTF
        refine bodyPost_ret (v := .agg #[.int .u64 0, .int .u64 0, .slice none 0 0]) (by simp [results, Tryz.results91, go_sem, v0, v1, v2, lF]) rfl ⟨_, q, rfl, ⟨none, 0, rfl, Nat.le_refl _, Nat.zero_le _, .inl rfl⟩, hrd, hTK, hXF, fun h0 => absurd h0 HK5.out⟩
    · rw [if_neg hk3]
      have HG := hid (fun (W : World) (hW : RdAt W g B a s3) => (by have := rd_good W hW; rw [decide_eq_false hk3] at this; exact this : Calls Tryz.prog 96 #[.pointer (some ⟨g, 0, none⟩)] W fun r w' => r = .returned (.bool false) ∧ Below W.heap.size W w'))
      have HK5 := hid hk3
      clear hk3
      go_enter Tryz.func91, Tryz.ntmps91
      go_wp2_with fail
      refine (HEP.out _ (HIN.out.row (by (repeat (first | with_reducible exact Below.refl _ _ | with_reducible assumption | (with_reducible refine below_alloc ?_ _) | (with_reducible refine Below.setCell ?_ (by first | omega | (simp; done) | (simp; omega)) _) | (with_reducible refine Below.drew ?_) | (with_reducible refine below_drewN ?_ _) | (refine below_then (by with_reducible assumption) ?_))))).rd).mono ?_
      rintro r w1 ⟨rfl, hst1⟩
      have R1 : Blk w1 w.heap.size 25 #[.int .u64 0, .int .u64 0, .slice none 0 0] := Blk.tch (by (repeat (first | assumption | exact Blk.newAt _ _ _ (by first | (simp; done) | (simp; omega)) | refine Blk.alloc ?_ _ | refine Blk.drew ?_ | refine Blk.drewN ?_ _ | refine Blk.far ?_ (by first | (simp; done) | (simp; omega)) _))) hst1.2 (by omega)
      have HIN1 := hid ((HIN.out.row (by (repeat (first | with_reducible exact Below.refl _ _ | with_reducible assumption | (with_reducible refine below_alloc ?_ _) | (with_reducible refine Below.setCell ?_ (by first | omega | (simp; done) | (simp; omega)) _) | (with_reducible refine Below.drew ?_) | (with_reducible refine below_drewN ?_ _) | (refine below_then (by with_reducible assumption) ?_))))).step hst1)
      have hz1 := HIN1.out.tch.size
      clear hst1
      go_wp2_with fail
      refine (HPO.out _ HIN1.out.rd).mono ?_
      rintro r w2 ⟨rfl, hst2⟩
      have R2 : Blk w2 w.heap.size 25 #[.int .u64 0, .int .u64 0, .slice none 0 0] := Blk.tch R1 hst2.2 (by omega)
      have HIN2 := hid (HIN1.out.step hst2)
      have hz2 := HIN2.out.tch.size
      have hr2 := R2.lt
      clear hst2 R1
      go_wp2_with fail
      refine (rd_at _ (HIN2.out.row ((by (repeat (first | with_reducible exact Below.refl _ _ | with_reducible assumption | (with_reducible refine below_alloc ?_ _) | (with_reducible refine Below.setCell ?_ (by first | omega | (simp; done) | (simp; omega)) _) | (with_reducible refine Below.drew ?_) | (with_reducible refine below_drewN ?_ _) | (refine below_then (by with_reducible assumption) ?_))) : Below w2.heap.size w2 _).mono hz2)).rd).mono ?_
      rintro r w3 ⟨rfl, rfl⟩
      go_wp2_with fail
      refine (HIT.out _ (HIN2.out.row ((by (repeat (first | with_reducible exact Below.refl _ _ | with_reducible assumption | (with_reducible refine below_alloc ?_ _) | (with_reducible refine Below.setCell ?_ (by first | omega | (simp; done) | (simp; omega)) _) | (with_reducible refine Below.drew ?_) | (with_reducible refine below_drewN ?_ _) | (refine below_then (by with_reducible assumption) ?_))) : Below w2.heap.size w2 _).mono hz2)).rd).mono ?_
      rintro r w4 ⟨rfl, hst4⟩
      have R4 : Blk w4 w.heap.size 25 #[.int .u64 0, .int .u64 0, .slice none 0 0] := Blk.tch (Blk.later R2 (by (repeat (first | with_reducible exact Below.refl _ _ | with_reducible assumption | (with_reducible refine below_alloc ?_ _) | (with_reducible refine Below.setCell ?_ (by first | omega | (simp; done) | (simp; omega)) _) | (with_reducible refine Below.drew ?_) | (with_reducible refine below_drewN ?_ _) | (refine below_then (by with_reducible assumption) ?_))) : Below w2.heap.size w2 _)) hst4.2 (by omega)
      have B4 : Blk w4 w2.heap.size 25 #[.int .u64 (e : Int), .int .u64 (p : Int), .slice none 0 0] := Blk.tch (by (repeat (first | assumption | exact Blk.newAt _ _ _ (by first | (simp; done) | (simp; omega)) | refine Blk.alloc ?_ _ | refine Blk.drew ?_ | refine Blk.drewN ?_ _ | refine Blk.far ?_ (by first | (simp; done) | (simp; omega)) _))) hst4.2 (by omega)
      have HIN4 := hid ((HIN2.out.row ((by (repeat (first | with_reducible exact Below.refl _ _ | with_reducible assumption | (with_reducible refine below_alloc ?_ _) | (with_reducible refine Below.setCell ?_ (by first | omega | (simp; done) | (simp; omega)) _) | (with_reducible refine Below.drew ?_) | (with_reducible refine below_drewN ?_ _) | (refine below_then (by with_reducible assumption) ?_))) : Below w2.heap.size w2 _).mono hz2)).step hst4)
      have hz4 := HIN4.out.tch.size
      have hs4 := hst4.2.size
      simp at hs4
      obtain ⟨x0, x1, x2, _, _, _, l4⟩ := b_blk B4
      clear hst4
      go_wp2_with fail
      refine (HF.out _).mono ?_
      rintro r w5 ⟨rfl, rfl⟩

      go_wp2_with fail
      refine (HG.out _ HIN4.out.rd).mono ?_
      rintro r w6 ⟨rfl, hb6⟩

      have B6 := B4.later hb6
      have R6 := R4.later hb6
      have HIN6 := hid (HIN4.out.row (hb6.mono hz4))
      obtain ⟨y0, y1, y2, f0, f1, f2, l6⟩ := b_blk R6
      clear hb6
      go_wp2
      obtain ⟨v0, v1, v2, _, _, _, lF⟩ := b_blk (((R6.set 0 (.int .u64 0)).set 1 (.int .u64 0)).set 2 (.slice none 0 0))
      have hbF : Below w.heap.size w6 (((w6.setCell ⟨w.heap.size, 0, none⟩ (.int .u64 0)).setCell ⟨w.heap.size, 1, none⟩ (.int .u64 0)).setCell ⟨w.heap.size, 2, none⟩ (.slice none 0 0)) := by (repeat (first | with_reducible exact Below.refl _ _ | with_reducible assumption | (with_reducible refine below_alloc ?_ _) | (with_reducible refine Below.setCell ?_ (by first | omega | (simp; done) | (simp; omega)) _) | (with_reducible refine Below.drew ?_) | (with_reducible refine below_drewN ?_ _) | (refine below_then (by with_reducible assumption) ?_)))
      have HINF := HIN6.out.row hbF
      refine bodyPost_ret (v := .agg #[.int .u64 0, .int .u64 0, .slice none 0 0]) (by simp [results, Tryz.results91, go_sem, v0, v1, v2, lF]) rfl ⟨_, false, rfl, ⟨none, 0, rfl, Nat.le_refl _, Nat.zero_le _, .inl rfl⟩, HINF.rd, HINF.tch.mono (fun b _ e => e ▸ HU.out.own), HU.out.st _ _ _ HX.out (Nat.le_refl _) (HINF.tch.mono fun b _ e => .inl e), fun e => absurd e HK5.out⟩
  · rw [if_neg hfit]
    have HF := hid (fun (W : World) => (by have := batch_fits (p : Int) n W hp1 (by omega); rw [Bool.eq_false_iff.2 hfit] at this; exact this : Calls Tryz.prog 79 #[.int .u64 (p : Int), .int .i64 n] W fun r w' => r = .returned (.bool false) ∧ W = w'))
    have hk3 : (s3.fail 3 (s2.p : Int)).k ≠ 0 := Rs.fail_k (by omega)
    rw [if_neg hk3]
    have HG := hid (fun (W : World) (hW : RdAt W g B a (s3.fail 3 (s2.p : Int))) => (by have := rd_good W hW; rw [decide_eq_false hk3] at this; exact this : Calls Tryz.prog 96 #[.pointer (some ⟨g, 0, none⟩)] W fun r w' => r = .returned (.bool false) ∧ Below W.heap.size W w'))
    have HK5 := hid hk3
    clear hk3 hfit
    go_enter Tryz.func91, Tryz.ntmps91
    go_wp2_with fail
    refine (HEP.out _ (HIN.out.row (by (repeat (first | with_reducible exact Below.refl _ _ | with_reducible assumption | (with_reducible refine below_alloc ?_ _) | (with_reducible refine Below.setCell ?_ (by first | omega | (simp; done) | (simp; omega)) _) | (with_reducible refine Below.drew ?_) | (with_reducible refine below_drewN ?_ _) | (refine below_then (by with_reducible assumption) ?_))))).rd).mono ?_
    rintro r w1 ⟨rfl, hst1⟩
    have R1 : Blk w1 w.heap.size 25 #[.int .u64 0, .int .u64 0, .slice none 0 0] := Blk.tch (by (repeat (first | assumption | exact Blk.newAt _ _ _ (by first | (simp; done) | (simp; omega)) | refine Blk.alloc ?_ _ | refine Blk.drew ?_ | refine Blk.drewN ?_ _ | refine Blk.far ?_ (by first | (simp; done) | (simp; omega)) _))) hst1.2 (by omega)
    have HIN1 := hid ((HIN.out.row (by (repeat (first | with_reducible exact Below.refl _ _ | with_reducible assumption | (with_reducible refine below_alloc ?_ _) | (with_reducible refine Below.setCell ?_ (by first | omega | (simp; done) | (simp; omega)) _) | (with_reducible refine Below.drew ?_) | (with_reducible refine below_drewN ?_ _) | (refine below_then (by with_reducible assumption) ?_))))).step hst1)
    have hz1 := HIN1.out.tch.size
    clear hst1
    go_wp2_with fail
    refine (HPO.out _ HIN1.out.rd).mono ?_
    rintro r w2 ⟨rfl, hst2⟩
    have R2 : Blk w2 w.heap.size 25 #[.int .u64 0, .int .u64 0, .slice none 0 0] := Blk.tch R1 hst2.2 (by omega)
    have HIN2 := hid (HIN1.out.step hst2)
    have hz2 := HIN2.out.tch.size
    have hr2 := R2.lt
    clear hst2 R1
    go_wp2_with fail
    refine (rd_at _ (HIN2.out.row ((by (repeat (first | with_reducible exact Below.refl _ _ | with_reducible assumption | (with_reducible refine below_alloc ?_ _) | (with_reducible refine Below.setCell ?_ (by first | omega | (simp; done) | (simp; omega)) _) | (with_reducible refine Below.drew ?_) | (with_reducible refine below_drewN ?_ _) | (refine below_then (by with_reducible assumption) ?_))) : Below w2.heap.size w2 _).mono hz2)).rd).mono ?_
    rintro r w3 ⟨rfl, rfl⟩
    go_wp2_with fail
    refine (HIT.out _ (HIN2.out.row ((by (repeat (first | with_reducible exact Below.refl _ _ | with_reducible assumption | (with_reducible refine below_alloc ?_ _) | (with_reducible refine Below.setCell ?_ (by first | omega | (simp; done) | (simp; omega)) _) | (with_reducible refine Below.drew ?_) | (with_reducible refine below_drewN ?_ _) | (refine below_then (by with_reducible assumption) ?_))) : Below w2.heap.size w2 _).mono hz2)).rd).mono ?_
    rintro r w4 ⟨rfl, hst4⟩
    have R4 : Blk w4 w.heap.size 25 #[.int .u64 0, .int .u64 0, .slice none 0 0] := Blk.tch (Blk.later R2 (by (repeat (first | with_reducible exact Below.refl _ _ | with_reducible assumption | (with_reducible refine below_alloc ?_ _) | (with_reducible refine Below.setCell ?_ (by first | omega | (simp; done) | (simp; omega)) _) | (with_reducible refine Below.drew ?_) | (with_reducible refine below_drewN ?_ _) | (refine below_then (by with_reducible assumption) ?_))) : Below w2.heap.size w2 _)) hst4.2 (by omega)
    have B4 : Blk w4 w2.heap.size 25 #[.int .u64 (e : Int), .int .u64 (p : Int), .slice none 0 0] := Blk.tch (by (repeat (first | assumption | exact Blk.newAt _ _ _ (by first | (simp; done) | (simp; omega)) | refine Blk.alloc ?_ _ | refine Blk.drew ?_ | refine Blk.drewN ?_ _ | refine Blk.far ?_ (by first | (simp; done) | (simp; omega)) _))) hst4.2 (by omega)
    have HIN4 := hid ((HIN2.out.row ((by (repeat (first | with_reducible exact Below.refl _ _ | with_reducible assumption | (with_reducible refine below_alloc ?_ _) | (with_reducible refine Below.setCell ?_ (by first | omega | (simp; done) | (simp; omega)) _) | (with_reducible refine Below.drew ?_) | (with_reducible refine below_drewN ?_ _) | (refine below_then (by with_reducible assumption) ?_))) : Below w2.heap.size w2 _).mono hz2)).step hst4)
    have hz4 := HIN4.out.tch.size
    have hs4 := hst4.2.size
    simp at hs4
    obtain ⟨x0, x1, x2, _, _, _, l4⟩ := b_blk B4
    clear hst4
    go_wp2_with fail
    refine (HF.out _).mono ?_
    rintro r w5 ⟨rfl, rfl⟩

    go_wp2_with fail
    refine (rd_fail _ HIN4.out.rd 3 (s2.p : Int) (by omega)).mono ?_
    rintro r w7 ⟨rfl, hst7⟩
    have R7 : Blk w7 w.heap.size 25 #[.int .u64 0, .int .u64 0, .slice none 0 0] := Blk.tch R4 hst7.2 (by omega)
    have B7 : Blk w7 w2.heap.size 25 #[.int .u64 (e : Int), .int .u64 (p : Int), .slice none 0 0] := Blk.tch B4 hst7.2 (by omega)
    have HIN7 := hid (HIN4.out.step hst7)
    clear hst7
    go_wp2_with fail
    refine (HG.out _ HIN7.out.rd).mono ?_
    rintro r w6 ⟨rfl, hb6⟩

    have B6 := B7.later hb6
    have R6 := R7.later hb6
    have HIN6 := hid (HIN7.out.row (hb6.mono HIN7.out.tch.size))
    obtain ⟨y0, y1, y2, f0, f1, f2, l6⟩ := b_blk R6
    clear hb6
    go_wp2
    obtain ⟨v0, v1, v2, _, _, _, lF⟩ := b_blk (((R6.set 0 (.int .u64 0)).set 1 (.int .u64 0)).set 2 (.slice none 0 0))
    have hbF : Below w.heap.size w6 (((w6.setCell ⟨w.heap.size, 0, none⟩ (.int .u64 0)).setCell ⟨w.heap.size, 1, none⟩ (.int .u64 0)).setCell ⟨w.heap.size, 2, none⟩ (.slice none 0 0)) := by (repeat (first | with_reducible exact Below.refl _ _ | with_reducible assumption | (with_reducible refine below_alloc ?_ _) | (with_reducible refine Below.setCell ?_ (by first | omega | (simp; done) | (simp; omega)) _) | (with_reducible refine Below.drew ?_) | (with_reducible refine below_drewN ?_ _) | (refine below_then (by with_reducible assumption) ?_)))
    have HINF := HIN6.out.row hbF
    refine bodyPost_ret (v := .agg #[.int .u64 0, .int .u64 0, .slice none 0 0]) (by simp [results, Tryz.results91, go_sem, v0, v1, v2, lF]) rfl ⟨_, false, rfl, ⟨none, 0, rfl, Nat.le_refl _, Nat.zero_le _, .inl rfl⟩, HINF.rd, HINF.tch.mono (fun b _ e => e ▸ HU.out.own), HU.out.st _ _ _ HX.out (Nat.le_refl _) (HINF.tch.mono fun b _ e => .inl e), fun e => absurd e HK5.out⟩
end Go.Proofs.YtkipiefcnjfdjaaGreat
namespace Go.Proofs.YtkipiefcnjfdjaaGreat
open Go.RowKit Go.Bs Go.Maps
set_option linter.unusedVariables false
set_option linter.unusedSimpArgs false

theorem Rs.int_of_bad {B : List UInt8} {s : Rs} {m : Int} (h : s.k ≠ 0) : s.int B m = (s, 0) := by
  unfold Rs.int Rs.most
  rw [Rs.num_of_bad h]
  split
  · rw [if_neg (by dsimp only; omega)]
  · rw [Rs.fail_of_bad h]
theorem Rs.byte_of_bad {B : List UInt8} {s : Rs} (h : s.k ≠ 0) : s.byte B = (s, 0) := by
  unfold Rs.byte
  rw [Rs.skip_of_bad h]
  rfl
theorem Rs.loose_of_bad {B : List UInt8} {s : Rs} {m : Int} (h : s.k ≠ 0) : s.loose B m = (s, [], false) := by
  unfold Rs.loose
  rw [Rs.int_of_bad h]
  dsimp only
  rw [Rs.byte_of_bad h]
  dsimp only
  rw [if_neg h]
end Go.Proofs.YtkipiefcnjfdjaaGreat
namespace Go.Proofs.YtkipiefcnjfdjaaGreat
open Go.RowKit Go.Bs Go.Maps
set_option linter.unusedVariables false
set_option linter.unusedSimpArgs false

theorem Rs.take_len {B : List UInt8} {s : Rs} {n : Int} : (s.take B n).2.length ≤ n.toNat := by
  unfold Rs.take
  split
  · simp; omega
  · simp
theorem Rs.loose_len {B : List UInt8} {s : Rs} {m : Int} : (s.loose B m).2.1.length ≤ 1048576 := by
  have h1 := Rs.int_le (B := B) (s := s) (m := min m 1048576)
  unfold Rs.loose
  split
  · split
    · split
      · have := Rs.take_len (B := B) (s := ((s.int B (min m 1048576)).1.byte B).1) (n := ((s.int B (min m 1048576)).2 : Int))
        dsimp only
        omega
      · simp
    · split
      · split
        · have := Rs.unp_len (B := B) (s := ((s.int B (min m 1048576)).1.byte B).1) (s.int B (min m 1048576)).2
          dsimp only
          omega
        · simp
      · simp
  · simp
theorem blkS_len {B : List UInt8} (t : Rs) : (blkS B t).2.1.length ≤ 1048576 := by
  have := Rs.loose_len (B := B) (s := t) (m := 1048576)
  unfold blkS Rs.strict
  dsimp only
  split
  · split
    · exact this
    · simp
  · simp
theorem Rs.batch_none {B : List UInt8} {blk : Rs → Rs × List UInt8 × Bool} {s : Rs} (h : (Rs.batch B blk s).1.k ≠ 0) : (Rs.batch B blk s).2 = (noBatch, false) := by
  unfold Rs.batch at *
  dsimp only at *
  by_cases h1 : (s.bfront B).1.k = 0
  · simp only [if_pos h1] at h ⊢
    generalize Rs.bblock blk (Rs.heads B (s.bfront B).2.2.2 (s.bfront B).1 ((s.bfront B).2.2.1 : Int) 1048576 []) = U at *
    by_cases h2 : U.1.k = 0
    · simp only [if_pos h2] at h ⊢
      exact absurd h2 h
    · simp only [if_neg h2]
  · simp only [if_neg h1]

set_option maxRecDepth 100000 in
theorem batch_read1 (w : World) {g p : Nat} {B : List UInt8} {a : Option Addr} {s : Rs} (h : RdAt w g B a s) (hB : B.length ≤ 1000000000) (hp : Blk w p 42 #[.pointer (some ⟨g, 0, none⟩)]) :
    Calls Tryz.prog 92 #[.pointer (some ⟨p, 0, none⟩)] w fun r w' => ∃ v, r = .returned v ∧ rBytes.r (Fresh w w') w' [v] (blkS B s).2.1 ∧ RdStep w g B a (blkS B s).1 w' := by
  have HB := hid (block_read w h hB 1048576 (by omega))
  have x0 : w.cell? ⟨p, 0, none⟩ = some (.pointer (some ⟨g, 0, none⟩)) := hp.cell 0
  unfold blkS
  dsimp only
  generalize Rs.strict (s.loose B 1048576) = T at *
  obtain ⟨s1, D⟩ := T
  dsimp only at *
  clear h hp
  go_enter Tryz.func92, Tryz.ntmps92
  go_wp2_with fail
  refine HB.out.mono ?_
  rintro r w1 ⟨v, rfl, hv, hst⟩
  obtain ⟨a1, c1, hfv, hv2, _⟩ := sl_form hv
  simp only [List.cons.injEq, and_true] at hfv
  subst hfv
  have HV := hid hv2
  have HS := hid hst
  clear hv hv2 hst
  go_wp2
  go_ret
  exact ⟨_, rfl, HV.out, HS.out⟩

set_option maxRecDepth 100000 in
theorem batch_readloose1 (w : World) {g p q : Nat} {B : List UInt8} {a : Option Addr} {s : Rs} (h : RdAt w g B a s) (hB : B.length ≤ 1000000000) (hp : Blk w p 42 #[.pointer (some ⟨g, 0, none⟩)]) {o : Bool} (hq : Blk w q 4 #[.bool o]) (hne : q ≠ g ∧ p ≠ q ∧ p ≠ g)
    (hd : rBytes.r (fun x => x < w.heap.size ∧ ¬ (x = g ∨ x = q)) w [.slice a B.length B.length] B) :
    Calls Tryz.prog 94 #[.pointer (some ⟨p, 0, none⟩), .pointer (some ⟨q, 0, none⟩)] w fun r w' => ∃ v, r = .returned v ∧ rBytes.r (Fresh w w') w' [v] (blkL B s).2.1 ∧ RdAt w' g B a (blkL B s).1 ∧ Tch (fun x => x = g ∨ x = q) w w' ∧ Blk w' p 42 #[.pointer (some ⟨g, 0, none⟩)] ∧ Blk w' q 4 #[.bool (blkL B s).2.2] := by
  have HB := hid (block_loose w h hB 1048576 (by omega))
  have x0 : w.cell? ⟨p, 0, none⟩ = some (.pointer (some ⟨g, 0, none⟩)) := hp.cell 0
  obtain ⟨n1, n2, n3⟩ := hne
  have HP := hid hp
  have HQ := hid hq
  have HD := hid hd
  have lq := hq.lt
  have lp := hp.lt
  unfold blkL
  generalize s.loose B 1048576 = T at *
  obtain ⟨s1, D, z⟩ := T
  dsimp only at *
  clear h hp hq hd
  go_enter Tryz.func94, Tryz.ntmps94
  go_wp2_with fail
  refine HB.out.mono ?_
  rintro r w1 ⟨v, rfl, hv, hst⟩
  obtain ⟨a1, c1, hfv, hv2, _⟩ := sl_form hv
  simp only [List.cons.injEq, and_true] at hfv
  subst hfv
  have Q1 := HQ.out.tch hst.2 (by omega)
  have P1 := HP.out.tch hst.2 (by omega)
  have q0 : w1.cell? ⟨q, 0, none⟩ = some (.bool o) := Q1.cell 0
  have q1 := Q1.free 0
  have HV := hid hv2
  have HS := hid hst
  clear hv hv2 hst
  go_wp2
  go_ret
  have hT : Tch (fun x => x = g ∨ x = q) w (w1.setCell ⟨q, 0, none⟩ (.bool z)) := (HS.out.2.mono fun b _ e => .inl e).setCell (fun _ => .inr rfl) _
  refine ⟨_, rfl, ?_, ⟨Blk.far HS.out.1.blk (by dsimp only; omega) _, rBytes.mono (rBytes.keep HD.out fun x hx => hT.block x hx.1 hx.2) fun x hx => ⟨Nat.lt_of_lt_of_le hx.1 hT.size, fun e => hx.2 (.inl e)⟩, HS.out.1.ok⟩, hT, Blk.far P1 (by dsimp only; omega) _, Q1.set 0 _⟩
  refine rBytes.mono (rBytes.keep HV.out fun x hx => Below.heap_setCell _ _ _ _ (by have := hx.1; dsimp only; omega)) fun x hx => ⟨hx.1, by simpa using hx.2⟩

set_option maxRecDepth 100000 in
set_option maxHeartbeats 3200000 in
theorem batch_read (w : World) {g : Nat} {B : List UInt8} {a : Option Addr} {s : Rs} (h : RdAt w g B a s) (hB : B.length ≤ 1000000000) :
    Calls Tryz.prog 31 #[.pointer (some ⟨g, 0, none⟩)] w fun r w' => ∃ v, r = .returned (.agg #[.int .u64 (Rs.batch B (blkS B) s).2.1.epoch, .int .u64 (Rs.batch B (blkS B) s).2.1.base, v]) ∧ rEntriesW.r (Fresh w w') w' [v] (Rs.batch B (blkS B) s).2.1.entries ∧ RdStep w g B a (Rs.batch B (blkS B) s).1 w' := by
  have hlt := h.blk.lt
  have HIN := hid (RdInv.refl h)
  clear h
  generalize hZ : Rs.batch B (blkS B) s = Z
  have HZ := hid hZ
  clear hZ
  obtain ⟨s1, b, q⟩ := Z
  obtain ⟨e, p, E⟩ := b
  dsimp only at *
  go_enter Tryz.func31, Tryz.ntmps31
  go_wp2_with fail
  have hbw : Below w.heap.size w ((w.alloc (.cells #[.pointer (some ⟨g, 0, none⟩)] 42)).alloc (.cells #[.int .u64 0, .int .u64 0, .slice none 0 0] 25)) := by (repeat (first | with_reducible exact Below.refl _ _ | with_reducible assumption | (with_reducible refine below_alloc ?_ _) | (with_reducible refine Below.setCell ?_ (by first | omega | (simp; done) | (simp; omega)) _) | (with_reducible refine Below.drew ?_) | (with_reducible refine below_drewN ?_ _) | (refine below_then (by with_reducible assumption) ?_)))
  have R0 : Blk ((w.alloc (.cells #[.pointer (some ⟨g, 0, none⟩)] 42)).alloc (.cells #[.int .u64 0, .int .u64 0, .slice none 0 0] 25)) (w.heap.size + 1) 25 #[.int .u64 0, .int .u64 0, .slice none 0 0] := by (repeat (first | assumption | exact Blk.newAt _ _ _ (by first | (simp; done) | (simp; omega)) | refine Blk.alloc ?_ _ | refine Blk.drew ?_ | refine Blk.drewN ?_ _ | refine Blk.far ?_ (by first | (simp; done) | (simp; omega)) _))
  have P0 : Blk ((w.alloc (.cells #[.pointer (some ⟨g, 0, none⟩)] 42)).alloc (.cells #[.int .u64 0, .int .u64 0, .slice none 0 0] 25)) w.heap.size 42 #[.pointer (some ⟨g, 0, none⟩)] := by (repeat (first | assumption | exact Blk.newAt _ _ _ (by first | (simp; done) | (simp; omega)) | refine Blk.alloc ?_ _ | refine Blk.drew ?_ | refine Blk.drewN ?_ _ | refine Blk.far ?_ (by first | (simp; done) | (simp; omega)) _))
  have HIN0 := hid (HIN.out.row hbw)
  have hsz : ((w.alloc (.cells #[.pointer (some ⟨g, 0, none⟩)] 42)).alloc (.cells #[.int .u64 0, .int .u64 0, .slice none 0 0] 25)).heap.size = w.heap.size + 2 := by simp
  have HBW := hid hbw
  clear hbw
  generalize ((w.alloc (.cells #[.pointer (some ⟨g, 0, none⟩)] 42)).alloc (.cells #[.int .u64 0, .int .u64 0, .slice none 0 0] 25)) = W at *
  have hU : Unblock W g B a 92 #[.pointer (some ⟨w.heap.size, 0, none⟩)] (blkS B) (· = g) (fun V _ => Blk V w.heap.size 42 #[.pointer (some ⟨g, 0, none⟩)]) := {
    lt := fun b e => by omega
    own := rfl
    st := fun V V' q hv hs ht => Blk.tch hv ht (by omega)
    call := fun V t hV hX hs ht => (batch_read1 V hV hB hX).mono fun r V' ⟨v, h1, h2, h3⟩ => ⟨v, h1, h2, h3.1, h3.2, Blk.tch hX h3.2 (by omega)⟩
    size := blkS_len
    dat := HIN0.out.rd.dat
    ent := fun xs V => by go_simp }
  have hC := batch_read_gen W HIN0.out.rd hB _ _ _ _ _ hU P0
  rw [HZ.out] at hC
  have HC := hid hC
  clear hU P0 hC
  refine HC.out.mono ?_
  rintro r w1 ⟨v, q1, rfl, hv, hrd, ht, _, _⟩
  obtain ⟨a1, c1, hfv, _, _⟩ := sl_form (entriesW_entries hv)
  simp only [List.cons.injEq, and_true] at hfv
  subst hfv
  have R1 := R0.tch ht (by omega)
  have hs1 := ht.size
  have HIN1 := hid (HIN0.out.step ⟨hrd, ht⟩)
  have HV := hid hv
  obtain ⟨x0, x1, x2, f0, f1, f2, l1⟩ := b_blk R1
  clear hv hrd ht
  go_wp2
  obtain ⟨v0, v1, v2, _, _, _, lF⟩ := b_blk (((R1.set 0 (.int .u64 e)).set 1 (.int .u64 p)).set 2 (.slice a1 E.length c1))
  have hbF : Below w.heap.size w1 (((w1.setCell ⟨w.heap.size + 1, 0, none⟩ (.int .u64 e)).setCell ⟨w.heap.size + 1, 1, none⟩ (.int .u64 p)).setCell ⟨w.heap.size + 1, 2, none⟩ (.slice a1 E.length c1)) := by (repeat (first | with_reducible exact Below.refl _ _ | with_reducible assumption | (with_reducible refine below_alloc ?_ _) | (with_reducible refine Below.setCell ?_ (by first | omega | (simp; done) | (simp; omega)) _) | (with_reducible refine Below.drew ?_) | (with_reducible refine below_drewN ?_ _) | (refine below_then (by with_reducible assumption) ?_)))
  refine bodyPost_ret (v := .agg #[.int .u64 e, .int .u64 p, .slice a1 E.length c1]) (by simp [results, Tryz.results31, go_sem, v0, v1, v2, lF]) rfl ⟨_, rfl, ?_, (HIN1.out.row hbF).to⟩
  refine rEntriesW.mono (rEntriesW.keep HV.out fun b hb => ?_) fun b hb => ⟨by have := hb.1; omega, by have := hb.2; simp; omega⟩
  have := hb.1
  repeat rw [Below.heap_setCell _ _ _ _ (by dsimp only; omega)]

set_option maxRecDepth 100000 in
set_option maxHeartbeats 6400000 in
theorem batch_readloose (w : World) {g : Nat} {B : List UInt8} {a : Option Addr} {s : Rs} (h : RdAt w g B a s) (hB : B.length ≤ 1000000000) :
    Calls Tryz.prog 32 #[.pointer (some ⟨g, 0, none⟩)] w fun r w' => ∃ v, r = .returned (.tuple #[.agg #[.int .u64 (Rs.batch B (blkL B) s).2.1.epoch, .int .u64 (Rs.batch B (blkL B) s).2.1.base, v], .bool (Rs.batch B (blkL B) s).2.2]) ∧ rEntriesW.r (Fresh w w') w' [v] (Rs.batch B (blkL B) s).2.1.entries ∧ RdStep w g B a (Rs.batch B (blkL B) s).1 w' := by
  have hlt := h.blk.lt
  have HIN := hid (RdInv.refl h)
  clear h
  have hbad := Rs.batch_none (B := B) (blk := blkL B) (s := s)
  generalize hZ : Rs.batch B (blkL B) s = Z at *
  have HZ := hid hZ
  clear hZ
  obtain ⟨s1, b, q⟩ := Z
  obtain ⟨e, p, E⟩ := b
  dsimp only at *
  have hq0 : s1.k ≠ 0 → q = false := fun hk => congrArg Prod.snd (hbad hk)
  clear hbad
  go_enter Tryz.func32, Tryz.ntmps32
  go_wp2_with fail
  have hbw : Below w.heap.size w (((w.alloc (.cells #[.pointer (some ⟨g, 0, none⟩)] 42)).alloc (.cells #[.int .u64 0, .int .u64 0, .slice none 0 0] 25)).alloc (.cells #[.bool false] 4)) := by (repeat (first | with_reducible exact Below.refl _ _ | with_reducible assumption | (with_reducible refine below_alloc ?_ _) | (with_reducible refine Below.setCell ?_ (by first | omega | (simp; done) | (simp; omega)) _) | (with_reducible refine Below.drew ?_) | (with_reducible refine below_drewN ?_ _) | (refine below_then (by with_reducible assumption) ?_)))
  have R0 : Blk (((w.alloc (.cells #[.pointer (some ⟨g, 0, none⟩)] 42)).alloc (.cells #[.int .u64 0, .int .u64 0, .slice none 0 0] 25)).alloc (.cells #[.bool false] 4)) (w.heap.size + 1) 25 #[.int .u64 0, .int .u64 0, .slice none 0 0] := by (repeat (first | assumption | exact Blk.newAt _ _ _ (by first | (simp; done) | (simp; omega)) | refine Blk.alloc ?_ _ | refine Blk.drew ?_ | refine Blk.drewN ?_ _ | refine Blk.far ?_ (by first | (simp; done) | (simp; omega)) _))
  have P0 : Blk (((w.alloc (.cells #[.pointer (some ⟨g, 0, none⟩)] 42)).alloc (.cells #[.int .u64 0, .int .u64 0, .slice none 0 0] 25)).alloc (.cells #[.bool false] 4)) w.heap.size 42 #[.pointer (some ⟨g, 0, none⟩)] := by (repeat (first | assumption | exact Blk.newAt _ _ _ (by first | (simp; done) | (simp; omega)) | refine Blk.alloc ?_ _ | refine Blk.drew ?_ | refine Blk.drewN ?_ _ | refine Blk.far ?_ (by first | (simp; done) | (simp; omega)) _))
  have Q0 : Blk (((w.alloc (.cells #[.pointer (some ⟨g, 0, none⟩)] 42)).alloc (.cells #[.int .u64 0, .int .u64 0, .slice none 0 0] 25)).alloc (.cells #[.bool false] 4)) (w.heap.size + 1 + 1) 4 #[.bool false] := by (repeat (first | assumption | exact Blk.newAt _ _ _ (by first | (simp; done) | (simp; omega)) | refine Blk.alloc ?_ _ | refine Blk.drew ?_ | refine Blk.drewN ?_ _ | refine Blk.far ?_ (by first | (simp; done) | (simp; omega)) _))
  have HIN0 := hid (HIN.out.row hbw)
  have hsz : ((((w.alloc (.cells #[.pointer (some ⟨g, 0, none⟩)] 42)).alloc (.cells #[.int .u64 0, .int .u64 0, .slice none 0 0] 25)).alloc (.cells #[.bool false] 4))).heap.size = w.heap.size + 3 := by simp
  have HBW := hid hbw
  clear hbw
  generalize (((w.alloc (.cells #[.pointer (some ⟨g, 0, none⟩)] 42)).alloc (.cells #[.int .u64 0, .int .u64 0, .slice none 0 0] 25)).alloc (.cells #[.bool false] 4)) = W at *
  have hU : Unblock W g B a 94 #[.pointer (some ⟨w.heap.size, 0, none⟩), .pointer (some ⟨w.heap.size + 1 + 1, 0, none⟩)] (blkL B) (fun x => x = g ∨ x = w.heap.size + 1 + 1) (fun V q => Blk V w.heap.size 42 #[.pointer (some ⟨g, 0, none⟩)] ∧ Blk V (w.heap.size + 1 + 1) 4 #[.bool q]) := by
    have hdat : rBytes.r (fun x => x < W.heap.size ∧ ¬ (x = g ∨ x = w.heap.size + 1 + 1)) W [.slice a B.length B.length] B := rBytes.mono HIN0.out.dat fun x hx => ⟨by omega, fun e => e.elim (fun e => hx.2 e) fun e => by omega⟩
    exact {
      lt := fun b e => by omega
      own := .inl rfl
      st := fun V V' q hv hs ht => ⟨Blk.tch hv.1 ht (by omega), Blk.tch hv.2 ht (by omega)⟩
      call := fun V t hV hX hs ht => (batch_readloose1 V hV hB hX.1 hX.2 (by omega) (rBytes.mono (rBytes.keep hdat fun x hx => ht.block x hx.1 hx.2) fun x hx => ⟨by omega, hx.2⟩)).mono fun r V' ⟨v, h1, h2, h3, h4, h5, h6⟩ => ⟨v, h1, h2, h3, h4, h5, h6⟩
      size := fun t => Rs.loose_len
      dat := hdat
      ent := fun xs V => by go_simp }
  have hC := batch_read_gen W HIN0.out.rd hB _ _ _ _ _ hU ⟨P0, Q0⟩
  rw [HZ.out] at hC
  have HC := hid hC
  clear hU P0 Q0 hC
  refine HC.out.mono ?_
  rintro r w1 ⟨v, q1, rfl, hv, hrd, ht, ⟨P1, Q1⟩, hq1⟩
  dsimp only at hrd hq1 hv
  obtain ⟨a1, c1, hfv, _, _⟩ := sl_form (entriesW_entries hv)
  simp only [List.cons.injEq, and_true] at hfv
  subst hfv
  have R1 := R0.tch ht (by omega)
  have hs1 := ht.size
  have HV := hid hv
  have HRD := hid hrd
  have hb01 : Below w.heap.size W w1 ∨ True := .inr trivial
  have HT := hid (HBW.out)
  have hTw : Tch (· = g) w w1 := (Tch.of_later (F := (· = g)) (HBW.out)).trans ht fun b hb e => by omega
  have HTW := hid hTw
  have lr := R1.lt; have lp := P1.lt; have lq := Q1.lt
  clear hv hrd ht hb01 hTw HT
  have SK := hid (fun (w' : World) (h0 : Blk w' w1.heap.size 25 #[.int .u64 e, .int .u64 p, .slice a1 E.length c1]) (h2 : Blk w' w.heap.size 42 #[.pointer (some ⟨g, 0, none⟩)]) (h3 : Blk w' (w.heap.size + 1 + 1) 4 #[.bool q1]) => (⟨h0.cell 0, h0.cell 1, h0.cell 2, h2.cell 0, h3.cell 0⟩ : w'.cell? ⟨w1.heap.size, 0, none⟩ = some (.int .u64 e) ∧ w'.cell? ⟨w1.heap.size, 1, none⟩ = some (.int .u64 p) ∧ w'.cell? ⟨w1.heap.size, 2, none⟩ = some (.slice a1 E.length c1) ∧ w'.cell? ⟨w.heap.size, 0, none⟩ = some (.pointer (some ⟨g, 0, none⟩)) ∧ w'.cell? ⟨w.heap.size + 1 + 1, 0, none⟩ = some (.bool q1)))
  have E2 : Blk (w1.alloc (.cells #[.int .u64 e, .int .u64 p, .slice a1 E.length c1] 25)) w1.heap.size 25 #[.int .u64 e, .int .u64 p, .slice a1 E.length c1] := Blk.newAt _ _ _ rfl
  have P2 : Blk (w1.alloc (.cells #[.int .u64 e, .int .u64 p, .slice a1 E.length c1] 25)) w.heap.size 42 #[.pointer (some ⟨g, 0, none⟩)] := P1.alloc _
  have Q2 : Blk (w1.alloc (.cells #[.int .u64 e, .int .u64 p, .slice a1 E.length c1] 25)) (w.heap.size + 1 + 1) 4 #[.bool q1] := Q1.alloc _
  have R2 : Blk (w1.alloc (.cells #[.int .u64 e, .int .u64 p, .slice a1 E.length c1] 25)) (w.heap.size + 1) 25 #[.int .u64 0, .int .u64 0, .slice none 0 0] := R1.alloc _
  have hg1 : g < w1.heap.size := by omega
  have HRD2 := hid (HRD.out.later (show Below w1.heap.size w1 (w1.alloc (.cells #[.int .u64 e, .int .u64 p, .slice a1 E.length c1] 25)) from by (repeat (first | with_reducible exact Below.refl _ _ | with_reducible assumption | (with_reducible refine below_alloc ?_ _) | (with_reducible refine Below.setCell ?_ (by first | omega | (simp; done) | (simp; omega)) _) | (with_reducible refine Below.drew ?_) | (with_reducible refine below_drewN ?_ _) | (refine below_then (by with_reducible assumption) ?_)))))
  have HS2 := hid (SK.out (w1.alloc (.cells #[.int .u64 e, .int .u64 p, .slice a1 E.length c1] 25)) E2 P2 Q2)
  have HB12 := hid (show Below w1.heap.size w1 (w1.alloc (.cells #[.int .u64 e, .int .u64 p, .slice a1 E.length c1] 25)) from by (repeat (first | with_reducible exact Below.refl _ _ | with_reducible assumption | (with_reducible refine below_alloc ?_ _) | (with_reducible refine Below.setCell ?_ (by first | omega | (simp; done) | (simp; omega)) _) | (with_reducible refine Below.drew ?_) | (with_reducible refine below_drewN ?_ _) | (refine below_then (by with_reducible assumption) ?_))))
  have hz2 : ((w1.alloc (.cells #[.int .u64 e, .int .u64 p, .slice a1 E.length c1] 25))).heap.size = w1.heap.size + 1 := by simp
  clear P1 Q1 R1 R0
  go_wp2_with fail
  generalize (w1.alloc (.cells #[.int .u64 e, .int .u64 p, .slice a1 E.length c1] 25)) = w2 at *
  cases q1
  · have hqf : q = false := by
      by_cases hk : s1.k = 0
      · exact (hq1 hk).symm
      · exact hq0 hk
    subst hqf
    clear hq1 hq0
    obtain ⟨r0, r1, r2, t0, t1, t2, rl⟩ := b_blk R2
    refine wp_region_held_drew (S := fun w' => w'.cell? ⟨w1.heap.size, 0, none⟩ = some (.int .u64 e) ∧ w'.cell? ⟨w1.heap.size, 1, none⟩ = some (.int .u64 p) ∧ w'.cell? ⟨w1.heap.size, 2, none⟩ = some (.slice a1 E.length c1) ∧ w'.cell? ⟨w.heap.size, 0, none⟩ = some (.pointer (some ⟨g, 0, none⟩)) ∧ w'.cell? ⟨w.heap.size + 1 + 1, 0, none⟩ = some (.bool false)) (by kernel_rfl) HS2.out (fun hHeld => ?_)
    refine wpAnyH_take (i := 0) (oi := _) (v := ?_) rfl (by decide +kernel) (by decide +kernel) (by decide +kernel) (fun _ _ _ h => h) (Or.inl ⟨by rfl, ?_⟩) (by assumption) ?_
    rotate_left
    · (intro w hSw; (try dsimp only at hSw); go_simp <;> with_reducible rfl)
    (try simp only [Act.put, List.setIfInBounds_toArray, List.set_cons_zero, List.set_cons_succ])
    refine wpAnyH_take (i := 1) (oi := _) (v := ?_) rfl (by decide +kernel) (by decide +kernel) (by decide +kernel) (fun _ _ _ h => h) (Or.inl ⟨by rfl, ?_⟩) (by assumption) ?_
    rotate_left
    · (intro w hSw; (try dsimp only at hSw); go_simp <;> with_reducible rfl)
    (try simp only [Act.put, List.setIfInBounds_toArray, List.set_cons_zero, List.set_cons_succ])
    refine wpAnyH_take (i := 2) (oi := _) (v := ?_) rfl (by decide +kernel) (by decide +kernel) (by decide +kernel) (fun _ _ _ h => h) (Or.inl ⟨by rfl, ?_⟩) (by assumption) ?_
    rotate_left
    · (intro w hSw; (try dsimp only at hSw); go_simp <;> with_reducible rfl)
    (try simp only [Act.put, List.setIfInBounds_toArray, List.set_cons_zero, List.set_cons_succ])
    refine wpAnyH_take (i := 3) (oi := _) (v := undef) rfl (by decide +kernel) (by decide +kernel) (by decide +kernel) (fun _ _ _ h => h) (Or.inr ⟨by kernel_rfl, rfl⟩) (by assumption) ?_
    (try simp only [Act.put, List.setIfInBounds_toArray, List.set_cons_zero, List.set_cons_succ])
    refine wpAnyH_take (i := 4) (oi := _) (v := undef) rfl (by decide +kernel) (by decide +kernel) (by decide +kernel) (fun _ _ _ h => h) (Or.inr ⟨by kernel_rfl, rfl⟩) (by assumption) ?_
    (try simp only [Act.put, List.setIfInBounds_toArray, List.set_cons_zero, List.set_cons_succ])
    refine wpAnyH_take (i := 5) (oi := _) (v := ?_) rfl (by decide +kernel) (by decide +kernel) (by decide +kernel) (fun _ _ _ h => h) (Or.inl ⟨by kernel_rfl, ?_⟩) (by assumption) ?_
    rotate_left
    · (intro w hSw; (try dsimp only at hSw); go_simp <;> with_reducible rfl)
    (try simp only [Act.put, List.setIfInBounds_toArray, List.set_cons_zero, List.set_cons_succ])
    refine wpAnyH_ready (rs := [6]) (by decide +kernel) (by simp) ?_
    refine AllReadyH.cons (o := _) rfl (fun K hK => ?_) AllReadyH.nil
    go_simp
    refine hK.out _ _ ?_ (fun hHeld => ?_)
    · exact SK.out _ (by repeat (first | with_reducible assumption | with_reducible refine Blk.drew ?_ | with_reducible refine Blk.far ?_ (by dsimp only; omega) _)) (by repeat (first | with_reducible assumption | with_reducible refine Blk.drew ?_ | with_reducible refine Blk.far ?_ (by dsimp only; omega) _)) (by repeat (first | with_reducible assumption | with_reducible refine Blk.drew ?_ | with_reducible refine Blk.far ?_ (by dsimp only; omega) _))
    clear hK K
    (try simp only [Act.put, List.setIfInBounds_toArray, List.set_cons_zero, List.set_cons_succ])
    refine wpAnyH_take (i := 7) (oi := _) (v := ?_) rfl (by decide +kernel) (by decide +kernel) (by decide +kernel) (fun _ _ _ h => h) (Or.inl ⟨by rfl, ?_⟩) (by assumption) ?_
    rotate_left
    · (intro w hSw; (try dsimp only at hSw); go_simp <;> with_reducible rfl)
    (try simp only [Act.put, List.setIfInBounds_toArray, List.set_cons_zero, List.set_cons_succ])
    simp only [List.getElem_toArray, List.getElem_cons_zero, List.getElem_cons_succ, Act.put, List.setIfInBounds_toArray, List.set_cons_zero, List.set_cons_succ]
    refine wpAnyH_done (by kernel_rfl) ?_ _
    go_wp2
    obtain ⟨v0, v1, v2, _, _, _, lF⟩ := b_blk (((R2.set 0 (.int .u64 e)).set 1 (.int .u64 p)).set 2 (.slice a1 E.length c1)).drew
    have hbF : Below w.heap.size w1 (((w2.setCell ⟨w.heap.size + 1, 0, none⟩ (.int .u64 e)).setCell ⟨w.heap.size + 1, 1, none⟩ (.int .u64 p)).setCell ⟨w.heap.size + 1, 2, none⟩ (.slice a1 E.length c1)).drew := by
      have hb17' := HB12.out.mono (show w.heap.size ≤ w1.heap.size by omega)
      exact (((hb17'.setCell (by dsimp only; omega) _).setCell (by dsimp only; omega) _).setCell (by dsimp only; omega) _).drew
    have hdF := hbF.size
    refine bodyPost_ret (v := .tuple #[.agg #[.int .u64 e, .int .u64 p, .slice a1 E.length c1], .bool false]) (by simp [results, Tryz.results32, go_sem, v0, v1, v2, lF]) rfl ⟨_, rfl, ?_, ⟨HRD.out.blk.below hbF hlt, rBytes.mono (rBytes.keep HIN0.out.dat fun x hx => (hbF.block x hx.1).trans ((HTW.out.block x hx.1 hx.2).trans (HBW.out.block x hx.1).symm)) fun x hx => ⟨by omega, hx.2⟩, HRD.out.ok⟩, HTW.out.trans (Tch.of_below hbF) fun b hb hle => by omega⟩
    refine rEntriesW.mono (rEntriesW.keep HV.out fun b hb => ?_) fun b hb => ⟨by have := hb.1; omega, by have := hb.2; omega⟩
    have := hb.1
    have := hb.2
    have e1 : ∀ V : World, V.drew.heap[b]? = V.heap[b]? := fun V => rfl
    (try rw [e1])
    (repeat rw [Below.heap_setCell _ _ _ _ (by dsimp only; omega)])
    exact HB12.out.block b (by omega)
  · have hqf : decide (s1.k = 0) = q := by
      by_cases hk : s1.k = 0
      · rw [decide_eq_true hk]; exact hq1 hk
      · rw [decide_eq_false hk]; exact (hq0 hk).symm
    have HG := hid (fun (V : World) (hV : RdAt V g B a s1) => (by have := rd_good V hV; rw [hqf] at this; exact this : Calls Tryz.prog 96 #[.pointer (some ⟨g, 0, none⟩)] V fun r w' => r = .returned (.bool q) ∧ Below V.heap.size V w'))
    have HRD3 := hid (HRD2.out.later (show Below _ w2 w2.drew from (Below.refl _ _).drew))
    clear hq1 hq0 hqf
    refine wp_region_held_drew (S := fun w' => w'.cell? ⟨w1.heap.size, 0, none⟩ = some (.int .u64 e) ∧ w'.cell? ⟨w1.heap.size, 1, none⟩ = some (.int .u64 p) ∧ w'.cell? ⟨w1.heap.size, 2, none⟩ = some (.slice a1 E.length c1) ∧ w'.cell? ⟨w.heap.size, 0, none⟩ = some (.pointer (some ⟨g, 0, none⟩)) ∧ w'.cell? ⟨w.heap.size + 1 + 1, 0, none⟩ = some (.bool true)) (by kernel_rfl) HS2.out (fun hHeld => ?_)
    refine wpAnyH_take (i := 0) (oi := _) (v := ?_) rfl (by decide +kernel) (by decide +kernel) (by decide +kernel) (fun _ _ _ h => h) (Or.inl ⟨by rfl, ?_⟩) (by assumption) ?_
    rotate_left
    · (intro w hSw; (try dsimp only at hSw); go_simp <;> with_reducible rfl)
    (try simp only [Act.put, List.setIfInBounds_toArray, List.set_cons_zero, List.set_cons_succ])
    refine wpAnyH_take (i := 1) (oi := _) (v := ?_) rfl (by decide +kernel) (by decide +kernel) (by decide +kernel) (fun _ _ _ h => h) (Or.inl ⟨by rfl, ?_⟩) (by assumption) ?_
    rotate_left
    · (intro w hSw; (try dsimp only at hSw); go_simp <;> with_reducible rfl)
    (try simp only [Act.put, List.setIfInBounds_toArray, List.set_cons_zero, List.set_cons_succ])
    refine wpAnyH_take (i := 2) (oi := _) (v := ?_) rfl (by decide +kernel) (by decide +kernel) (by decide +kernel) (fun _ _ _ h => h) (Or.inl ⟨by rfl, ?_⟩) (by assumption) ?_
    rotate_left
    · (intro w hSw; (try dsimp only at hSw); go_simp <;> with_reducible rfl)
    (try simp only [Act.put, List.setIfInBounds_toArray, List.set_cons_zero, List.set_cons_succ])
    refine wpAnyH_take (i := 3) (oi := _) (v := ?_) rfl (by decide +kernel) (by decide +kernel) (by decide +kernel) (fun _ _ _ h => h) (Or.inl ⟨by kernel_rfl, ?_⟩) (by assumption) ?_
    rotate_left
    · (intro w hSw; (try dsimp only at hSw); go_simp <;> with_reducible rfl)
    (try simp only [Act.put, List.setIfInBounds_toArray, List.set_cons_zero, List.set_cons_succ])
    refine wpAnyH_ready (rs := [4]) (by decide +kernel) (by simp) ?_
    refine AllReadyH.cons (o := _) rfl (fun K hK => ?_) AllReadyH.nil
    (go_simp; go_at_call 96; refine (HG.out _ HRD3.out).mono ?_; rintro e1 w7 ⟨rfl, hb7⟩; have E7 := E2.drew.later hb7; have P7 := P2.drew.later hb7; have Q7 := Q2.drew.later hb7; have R7 := R2.drew.later hb7; have HB7 := hid hb7; have hs7 : w1.heap.size + 1 ≤ w7.heap.size := (by have := hb7.size; simp at this; omega); obtain ⟨r0, r1, r2, t0, t1, t2, rl⟩ := b_blk R7; clear E2 P2 Q2 R2 hb7; (try dsimp only))
    refine hK.out _ _ ?_ (fun hHeld => ?_)
    · exact SK.out _ (by repeat (first | with_reducible assumption | with_reducible refine Blk.drew ?_ | with_reducible refine Blk.far ?_ (by dsimp only; omega) _)) (by repeat (first | with_reducible assumption | with_reducible refine Blk.drew ?_ | with_reducible refine Blk.far ?_ (by dsimp only; omega) _)) (by repeat (first | with_reducible assumption | with_reducible refine Blk.drew ?_ | with_reducible refine Blk.far ?_ (by dsimp only; omega) _))
    clear hK K
    (try simp only [Act.put, List.setIfInBounds_toArray, List.set_cons_zero, List.set_cons_succ])
    refine wpAnyH_take (i := 5) (oi := _) (v := ?_) rfl (by decide +kernel) (by decide +kernel) (by decide +kernel) (fun _ _ _ h => h) (Or.inl ⟨by kernel_rfl, ?_⟩) (by assumption) ?_
    rotate_left
    · (intro w hSw; (try dsimp only at hSw); go_simp <;> with_reducible rfl)
    (try simp only [Act.put, List.setIfInBounds_toArray, List.set_cons_zero, List.set_cons_succ])
    refine wpAnyH_ready (rs := [6]) (by decide +kernel) (by simp) ?_
    refine AllReadyH.cons (o := _) rfl (fun K hK => ?_) AllReadyH.nil
    go_simp
    refine hK.out _ _ ?_ (fun hHeld => ?_)
    · exact SK.out _ (by repeat (first | with_reducible assumption | with_reducible refine Blk.drew ?_ | with_reducible refine Blk.far ?_ (by dsimp only; omega) _)) (by repeat (first | with_reducible assumption | with_reducible refine Blk.drew ?_ | with_reducible refine Blk.far ?_ (by dsimp only; omega) _)) (by repeat (first | with_reducible assumption | with_reducible refine Blk.drew ?_ | with_reducible refine Blk.far ?_ (by dsimp only; omega) _))
    clear hK K
    (try simp only [Act.put, List.setIfInBounds_toArray, List.set_cons_zero, List.set_cons_succ])
    refine wpAnyH_take (i := 7) (oi := _) (v := ?_) rfl (by decide +kernel) (by decide +kernel) (by decide +kernel) (fun _ _ _ h => h) (Or.inl ⟨by rfl, ?_⟩) (by assumption) ?_
    rotate_left
    · (intro w hSw; (try dsimp only at hSw); go_simp <;> with_reducible rfl)
    (try simp only [Act.put, List.setIfInBounds_toArray, List.set_cons_zero, List.set_cons_succ])
    simp only [List.getElem_toArray, List.getElem_cons_zero, List.getElem_cons_succ, Act.put, List.setIfInBounds_toArray, List.set_cons_zero, List.set_cons_succ]
    refine wpAnyH_done (by kernel_rfl) ?_ _
    go_wp2
    obtain ⟨v0, v1, v2, _, _, _, lF⟩ := b_blk (((R7.set 0 (.int .u64 e)).set 1 (.int .u64 p)).set 2 (.slice a1 E.length c1))
    have hbF : Below w.heap.size w1 (((w7.setCell ⟨w.heap.size + 1, 0, none⟩ (.int .u64 e)).setCell ⟨w.heap.size + 1, 1, none⟩ (.int .u64 p)).setCell ⟨w.heap.size + 1, 2, none⟩ (.slice a1 E.length c1)) := by
      have hb17 : Below w1.heap.size w1 w7 := (HB12.out.drew).trans (HB7.out.mono (by simp; omega))
      have hb17' := hb17.mono (show w.heap.size ≤ w1.heap.size by omega)
      exact ((hb17'.setCell (by dsimp only; omega) _).setCell (by dsimp only; omega) _).setCell (by dsimp only; omega) _
    have hdF := hbF.size
    refine bodyPost_ret (v := .tuple #[.agg #[.int .u64 e, .int .u64 p, .slice a1 E.length c1], .bool q]) (by simp [results, Tryz.results32, go_sem, v0, v1, v2, lF]) rfl ⟨_, rfl, ?_, ⟨HRD.out.blk.below hbF hlt, rBytes.mono (rBytes.keep HIN0.out.dat fun x hx => (hbF.block x hx.1).trans ((HTW.out.block x hx.1 hx.2).trans (HBW.out.block x hx.1).symm)) fun x hx => ⟨by omega, hx.2⟩, HRD.out.ok⟩, HTW.out.trans (Tch.of_below hbF) fun b hb hle => by omega⟩
    refine rEntriesW.mono (rEntriesW.keep HV.out fun b hb => ?_) fun b hb => ⟨by have := hb.1; omega, by have := hb.2; omega⟩
    have := hb.1
    have := hb.2
    (repeat rw [Below.heap_setCell _ _ _ _ (by dsimp only; omega)])
    exact (HB7.out.block b (by simp; omega)).trans (HB12.out.block b (by omega))
end Go.Proofs.YtkipiefcnjfdjaaGreat
namespace Go.Proofs.YtkipiefcnjfdjaaGreat
open Go.RowKit Go.Bs Go.Maps
set_option linter.unusedVariables false
set_option linter.unusedSimpArgs false

def Rs.fin (L : Nat) (s : Rs) : Rs := if s.p < L then s.fail 9 s.p else s
set_option maxRecDepth 100000 in
theorem rd_end (w : World) {g : Nat} {B : List UInt8} {a : Option Addr} {s : Rs} (h : RdAt w g B a s) : Calls Tryz.prog 104 #[.pointer (some ⟨g, 0, none⟩)] w fun r w' => r = .returned (.tuple #[]) ∧ RdStep w g B a (s.fin B.length) w' := by
  have HLF := hid (rd_left w h)
  have HH := hid h
  have hln := h.len
  have hle := h.ok.le
  unfold Rs.fin
  clear h
  by_cases hp : s.p < B.length
  · rw [if_pos hp]
    have d1 : decide ((0 : Int) < (B.length : Int) - (s.p : Int)) = true := decide_eq_true (by omega)
    have d2 : decide (s.p < B.length) = true := decide_eq_true hp
    clear hp
    go_enter Tryz.func104, Tryz.ntmps104
    go_wp2_with fail
    refine HLF.out.mono ?_
    rintro r w1 ⟨rfl, hb1⟩
    have HH1 := hid (HH.out.later hb1)
    have x1 := HH1.out.blk.cell 1
    simp at x1
    go_wp2_with fail
    refine (rd_fail w1 HH1.out 9 (s.p : Int) (by omega)).mono ?_
    rintro r w2 ⟨rfl, hst⟩
    have HST := hid (RdStep.trans (s' := s.fail 9 s.p) (Tch.of_later (F := (· = g)) hb1) hst)
    clear hst x1
    go_wp2
    first | go_end0 | refine bodyPost_ret (results_none rfl _ _ _) rfl ?_
    exact ⟨rfl, HST.out⟩
  · rw [if_neg hp]
    have d1 : decide ((0 : Int) < (B.length : Int) - (s.p : Int)) = false := decide_eq_false (by omega)
    have d2 : decide (s.p < B.length) = false := decide_eq_false hp
    clear hp
    go_enter Tryz.func104, Tryz.ntmps104
    go_wp2_with fail
    refine HLF.out.mono ?_
    rintro r w1 ⟨rfl, hb1⟩
    have HST := hid (RdStep.later HH.out hb1)
    go_wp2
    first | go_end0 | refine bodyPost_ret (results_none rfl _ _ _) rfl ?_
    exact ⟨rfl, HST.out⟩
end Go.Proofs.YtkipiefcnjfdjaaGreat
namespace Go.Proofs.YtkipiefcnjfdjaaGreat
open Go.RowKit Go.Bs Go.Maps
set_option linter.unusedVariables false
set_option linter.unusedSimpArgs false

def decB (B : List UInt8) (blk : Rs → Rs × List UInt8 × Bool) : Rs × Batch × Bool :=
  if ((Rs.batch B blk ⟨0, 0, 0⟩).1.fin B.length).k = 0 then ((Rs.batch B blk ⟨0, 0, 0⟩).1.fin B.length, (Rs.batch B blk ⟨0, 0, 0⟩).2) else ((Rs.batch B blk ⟨0, 0, 0⟩).1.fin B.length, noBatch, false)

set_option maxRecDepth 100000 in
set_option maxHeartbeats 6400000 in
theorem batch_decode (w : World) (B : List UInt8) (a : Option Addr) (n c : Nat) (hl : rBytes.r (· < w.heap.size) w [.slice a n c] B) (hB : B.length ≤ 1000000000) :
    Calls Tryz.prog 35 #[.slice a n c] w fun r w' => ∃ v, r = .returned (.tuple #[.agg #[.int .u64 (decB B (blkS B)).2.1.epoch, .int .u64 (decB B (blkS B)).2.1.base, v], .agg #[.int .i64 (decB B (blkS B)).1.k, .int .i64 (decB B (blkS B)).1.f]]) ∧ rEntriesW.r (Fresh w w') w' [v] (decB B (blkS B)).2.1.entries ∧ Below w.heap.size w w' := by
  obtain ⟨rfl, hmx, hcc, hcm⟩ := sl_len hl
  have HN := hid (rd_new ((w.alloc (.cells #[.int .u64 0, .int .u64 0, .slice none 0 0] 25)).alloc (.cells #[.int .i64 0, .int .i64 0] 48)) B a _ c (lift hl (by (repeat (first | with_reducible exact Below.refl _ _ | with_reducible assumption | (with_reducible refine below_alloc ?_ _) | (with_reducible refine Below.setCell ?_ (by first | omega | (simp; done) | (simp; omega)) _) | (with_reducible refine Below.drew ?_) | (with_reducible refine below_drewN ?_ _) | (refine below_then (by with_reducible assumption) ?_))))))
  have hRD := fun (W : World) (h : RdAt W (w.heap.size + 1 + 1) B a ⟨0, 0, 0⟩) => batch_read W h hB
  have hok : ((Rs.batch B (blkS B) ⟨0, 0, 0⟩).1.fin B.length).ok B.length ∨ True := .inr trivial
  unfold decB
  generalize hZ : Rs.batch B (blkS B) ⟨0, 0, 0⟩ = Z at *
  obtain ⟨s1, b, q⟩ := Z
  obtain ⟨e, p, E⟩ := b
  dsimp only at *
  generalize hu : s1.fin B.length = u at *
  have HU := hid hu
  have HRD := hid hRD
  clear hl hZ hok hRD hu
  by_cases hk : u.k = 0
  · simp only [if_pos hk]
    have d1 : decide (u.k = 0) = true := decide_eq_true hk
    have HK := hid hk
    clear hk
    go_enter Tryz.func35, Tryz.ntmps35
    go_wp2_with fail
    refine HN.out.mono ?_
    rintro r w1 ⟨rfl, hrd, hb1⟩
    have R1 : Blk w1 w.heap.size 25 #[.int .u64 0, .int .u64 0, .slice none 0 0] := Blk.later (by (repeat (first | assumption | exact Blk.newAt _ _ _ (by first | (simp; done) | (simp; omega)) | refine Blk.alloc ?_ _ | refine Blk.drew ?_ | refine Blk.drewN ?_ _ | refine Blk.far ?_ (by first | (simp; done) | (simp; omega)) _))) hb1
    have F1 : Blk w1 (w.heap.size + 1) 48 #[.int .i64 0, .int .i64 0] := Blk.later (by (repeat (first | assumption | exact Blk.newAt _ _ _ (by first | (simp; done) | (simp; omega)) | refine Blk.alloc ?_ _ | refine Blk.drew ?_ | refine Blk.drewN ?_ _ | refine Blk.far ?_ (by first | (simp; done) | (simp; omega)) _))) hb1
    have hbw1 : Below w.heap.size w w1 := by (repeat (first | with_reducible exact Below.refl _ _ | with_reducible assumption | (with_reducible refine below_alloc ?_ _) | (with_reducible refine Below.setCell ?_ (by first | omega | (simp; done) | (simp; omega)) _) | (with_reducible refine Below.drew ?_) | (with_reducible refine below_drewN ?_ _) | (refine below_then (by with_reducible assumption) ?_)))
    simp at hrd
    have HIN1 := hid (RdInv.refl hrd)
    have hg := hrd.blk.lt
    clear hb1
    go_wp2_with fail
    refine (HRD.out w1 hrd).mono ?_
    rintro r w2 ⟨v2, rfl, hv2, hst2⟩
    obtain ⟨a2, c2, hfv, _, _⟩ := sl_form (entriesW_entries hv2)
    simp only [List.cons.injEq, and_true] at hfv
    subst hfv
    have R2 := R1.tch hst2.2 (by omega)
    have F2 := F1.tch hst2.2 (by omega)
    have HIN2 := hid (HIN1.out.step hst2)
    have hz2 := HIN2.out.tch.size
    have HV2 := hid hv2
    clear hrd hv2 hst2 R1 F1
    go_wp2_with fail
    refine (rd_end _ (HIN2.out.row ((by (repeat (first | with_reducible exact Below.refl _ _ | with_reducible assumption | (with_reducible refine below_alloc ?_ _) | (with_reducible refine Below.setCell ?_ (by first | omega | (simp; done) | (simp; omega)) _) | (with_reducible refine Below.drew ?_) | (with_reducible refine below_drewN ?_ _) | (refine below_then (by with_reducible assumption) ?_))) : Below w2.heap.size w2 _).mono hz2)).rd).mono ?_
    rintro r w3 ⟨rfl, hst3⟩
    rw [HU.out] at hst3
    have E3 : Blk w3 w2.heap.size 25 #[.int .u64 e, .int .u64 p, .slice a2 E.length c2] := Blk.tch (by (repeat (first | assumption | exact Blk.newAt _ _ _ (by first | (simp; done) | (simp; omega)) | refine Blk.alloc ?_ _ | refine Blk.drew ?_ | refine Blk.drewN ?_ _ | refine Blk.far ?_ (by first | (simp; done) | (simp; omega)) _))) hst3.2 (by omega)
    have R3 : Blk w3 w.heap.size 25 #[.int .u64 0, .int .u64 0, .slice none 0 0] := Blk.tch (Blk.later R2 (by (repeat (first | with_reducible exact Below.refl _ _ | with_reducible assumption | (with_reducible refine below_alloc ?_ _) | (with_reducible refine Below.setCell ?_ (by first | omega | (simp; done) | (simp; omega)) _) | (with_reducible refine Below.drew ?_) | (with_reducible refine below_drewN ?_ _) | (refine below_then (by with_reducible assumption) ?_))) : Below w2.heap.size w2 _)) hst3.2 (by omega)
    have F3 : Blk w3 (w.heap.size + 1) 48 #[.int .i64 0, .int .i64 0] := Blk.tch (Blk.later F2 (by (repeat (first | with_reducible exact Below.refl _ _ | with_reducible assumption | (with_reducible refine below_alloc ?_ _) | (with_reducible refine Below.setCell ?_ (by first | omega | (simp; done) | (simp; omega)) _) | (with_reducible refine Below.drew ?_) | (with_reducible refine below_drewN ?_ _) | (refine below_then (by with_reducible assumption) ?_))) : Below w2.heap.size w2 _)) hst3.2 (by omega)
    have HIN3 := hid ((HIN2.out.row ((by (repeat (first | with_reducible exact Below.refl _ _ | with_reducible assumption | (with_reducible refine below_alloc ?_ _) | (with_reducible refine Below.setCell ?_ (by first | omega | (simp; done) | (simp; omega)) _) | (with_reducible refine Below.drew ?_) | (with_reducible refine below_drewN ?_ _) | (refine below_then (by with_reducible assumption) ?_))) : Below w2.heap.size w2 _).mono hz2)).step hst3)
    have hT3 : Tch (· = w.heap.size + 1 + 1) w2 w3 := (Tch.of_later (F := (· = w.heap.size + 1 + 1)) (by (repeat (first | with_reducible exact Below.refl _ _ | with_reducible assumption | (with_reducible refine below_alloc ?_ _) | (with_reducible refine Below.setCell ?_ (by first | omega | (simp; done) | (simp; omega)) _) | (with_reducible refine Below.drew ?_) | (with_reducible refine below_drewN ?_ _) | (refine below_then (by with_reducible assumption) ?_))) : Below w2.heap.size w2 _)).trans hst3.2 fun b _ h => h
    have HT3 := hid hT3
    have hz3 := HIN3.out.tch.size
    have hs3 := hT3.size
    clear hst3 hT3 R2 F2
    go_wp2_with fail
    refine (rd_fault w3 HIN3.out.rd).mono ?_
    rintro r w4 ⟨rfl, hb4⟩
    have E4 := E3.later hb4
    have R4 := R3.later hb4
    have F4 := F3.later hb4
    have hG := fault_good (w4.alloc (.cells #[.int .i64 u.k, .int .i64 u.f] 48)) u.k u.f
    rw [d1] at hG
    have HG := hid hG
    have hs4 := hb4.size
    have HB4 := hid hb4
    clear hG d1 hb4 E3 R3 F3
    go_wp2_with fail
    refine HG.out.mono ?_
    rintro r w5 ⟨rfl, hb5⟩
    have E5 := (E4.alloc (.cells #[.int .i64 u.k, .int .i64 u.f] 48)).later hb5
    have R5 := (R4.alloc (.cells #[.int .i64 u.k, .int .i64 u.f] 48)).later hb5
    have F5 := (F4.alloc (.cells #[.int .i64 u.k, .int .i64 u.f] 48)).later hb5
    have X5 := Blk.later (Blk.newAt w4 _ _ rfl) hb5
    have hb45 : Below w4.heap.size w4 w5 := by (repeat (first | with_reducible exact Below.refl _ _ | with_reducible assumption | (with_reducible refine below_alloc ?_ _) | (with_reducible refine Below.setCell ?_ (by first | omega | (simp; done) | (simp; omega)) _) | (with_reducible refine Below.drew ?_) | (with_reducible refine below_drewN ?_ _) | (refine below_then (by with_reducible assumption) ?_)))
    have hb35 : Below w3.heap.size w3 w5 := below_then hb45 HB4.out
    have hs5 := hb45.size
    obtain ⟨e0, e1, e2, _, _, _, le⟩ := b_blk E5
    obtain ⟨r0, r1, r2, t0, t1, t2, lr⟩ := b_blk R5
    obtain ⟨f0, f1, g0, g1, lf⟩ := f_blk F5
    have hbw5 : Below w.heap.size w w5 := hbw1.trans ((HIN2.out.tch.trans HT3.out fun b _ h => h).to_below (by omega) (fun b _ h => by omega) |>.trans (hb35.mono (by omega)))
    clear E4 R4 F4 hb5

    have HF0 := hid (HIN3.out.rd.ok.zero HK.out)
    go_wp2
    obtain ⟨v0, v1, v2, _, _, _, lF⟩ := b_blk (Blk.far (Blk.far (((R5.set 0 (.int .u64 e)).set 1 (.int .u64 p)).set 2 (.slice a2 E.length c2)) (p := ⟨w.heap.size + 1, 0, none⟩) (by dsimp only; omega) (.int .i64 0)) (p := ⟨w.heap.size + 1, 1, none⟩) (by dsimp only; omega) (.int .i64 0))
    obtain ⟨x0, x1, _, _, lX⟩ := f_blk (((Blk.far (Blk.far (Blk.far F5 (p := ⟨w.heap.size, 0, none⟩) (by dsimp only; omega) (.int .u64 e)) (p := ⟨w.heap.size, 1, none⟩) (by dsimp only; omega) (.int .u64 p)) (p := ⟨w.heap.size, 2, none⟩) (by dsimp only; omega) (.slice a2 E.length c2)).set 0 (.int .i64 0)).set 1 (.int .i64 0))
    refine bodyPost_ret (v := .tuple #[.agg #[.int .u64 e, .int .u64 p, .slice a2 E.length c2], .agg #[.int .i64 0, .int .i64 0]]) (by simp [results, Tryz.results35, go_sem, v0, v1, v2, x0, x1, lF, lX]) rfl ⟨_, by rw [HK.out, HF0.out], ?_, by (repeat (first | with_reducible exact Below.refl _ _ | with_reducible assumption | (with_reducible refine below_alloc ?_ _) | (with_reducible refine Below.setCell ?_ (by first | omega | (simp; done) | (simp; omega)) _) | (with_reducible refine Below.drew ?_) | (with_reducible refine below_drewN ?_ _) | (refine below_then (by with_reducible assumption) ?_)))⟩
    refine rEntriesW.mono (rEntriesW.keep HV2.out fun b hb => ?_) fun b hb => ⟨by have := hb.1; have := hbw1.size; omega, by have := hb.2; simp; omega⟩
    have h1 : w1.heap.size ≤ b := hb.1
    have h2 : b < w2.heap.size := hb.2
    (repeat rw [Below.heap_setCell _ _ _ _ (by dsimp only; omega)])
    exact (hb35.block b (by omega)).trans (HT3.out.block b h2 (by omega))
  · simp only [if_neg hk]
    have d1 : decide (u.k = 0) = false := decide_eq_false hk
    clear hk
    go_enter Tryz.func35, Tryz.ntmps35
    go_wp2_with fail
    refine HN.out.mono ?_
    rintro r w1 ⟨rfl, hrd, hb1⟩
    have R1 : Blk w1 w.heap.size 25 #[.int .u64 0, .int .u64 0, .slice none 0 0] := Blk.later (by (repeat (first | assumption | exact Blk.newAt _ _ _ (by first | (simp; done) | (simp; omega)) | refine Blk.alloc ?_ _ | refine Blk.drew ?_ | refine Blk.drewN ?_ _ | refine Blk.far ?_ (by first | (simp; done) | (simp; omega)) _))) hb1
    have F1 : Blk w1 (w.heap.size + 1) 48 #[.int .i64 0, .int .i64 0] := Blk.later (by (repeat (first | assumption | exact Blk.newAt _ _ _ (by first | (simp; done) | (simp; omega)) | refine Blk.alloc ?_ _ | refine Blk.drew ?_ | refine Blk.drewN ?_ _ | refine Blk.far ?_ (by first | (simp; done) | (simp; omega)) _))) hb1
    have hbw1 : Below w.heap.size w w1 := by (repeat (first | with_reducible exact Below.refl _ _ | with_reducible assumption | (with_reducible refine below_alloc ?_ _) | (with_reducible refine Below.setCell ?_ (by first | omega | (simp; done) | (simp; omega)) _) | (with_reducible refine Below.drew ?_) | (with_reducible refine below_drewN ?_ _) | (refine below_then (by with_reducible assumption) ?_)))
    simp at hrd
    have HIN1 := hid (RdInv.refl hrd)
    have hg := hrd.blk.lt
    clear hb1
    go_wp2_with fail
    refine (HRD.out w1 hrd).mono ?_
    rintro r w2 ⟨v2, rfl, hv2, hst2⟩
    obtain ⟨a2, c2, hfv, _, _⟩ := sl_form (entriesW_entries hv2)
    simp only [List.cons.injEq, and_true] at hfv
    subst hfv
    have R2 := R1.tch hst2.2 (by omega)
    have F2 := F1.tch hst2.2 (by omega)
    have HIN2 := hid (HIN1.out.step hst2)
    have hz2 := HIN2.out.tch.size
    have HV2 := hid hv2
    clear hrd hv2 hst2 R1 F1
    go_wp2_with fail
    refine (rd_end _ (HIN2.out.row ((by (repeat (first | with_reducible exact Below.refl _ _ | with_reducible assumption | (with_reducible refine below_alloc ?_ _) | (with_reducible refine Below.setCell ?_ (by first | omega | (simp; done) | (simp; omega)) _) | (with_reducible refine Below.drew ?_) | (with_reducible refine below_drewN ?_ _) | (refine below_then (by with_reducible assumption) ?_))) : Below w2.heap.size w2 _).mono hz2)).rd).mono ?_
    rintro r w3 ⟨rfl, hst3⟩
    rw [HU.out] at hst3
    have E3 : Blk w3 w2.heap.size 25 #[.int .u64 e, .int .u64 p, .slice a2 E.length c2] := Blk.tch (by (repeat (first | assumption | exact Blk.newAt _ _ _ (by first | (simp; done) | (simp; omega)) | refine Blk.alloc ?_ _ | refine Blk.drew ?_ | refine Blk.drewN ?_ _ | refine Blk.far ?_ (by first | (simp; done) | (simp; omega)) _))) hst3.2 (by omega)
    have R3 : Blk w3 w.heap.size 25 #[.int .u64 0, .int .u64 0, .slice none 0 0] := Blk.tch (Blk.later R2 (by (repeat (first | with_reducible exact Below.refl _ _ | with_reducible assumption | (with_reducible refine below_alloc ?_ _) | (with_reducible refine Below.setCell ?_ (by first | omega | (simp; done) | (simp; omega)) _) | (with_reducible refine Below.drew ?_) | (with_reducible refine below_drewN ?_ _) | (refine below_then (by with_reducible assumption) ?_))) : Below w2.heap.size w2 _)) hst3.2 (by omega)
    have F3 : Blk w3 (w.heap.size + 1) 48 #[.int .i64 0, .int .i64 0] := Blk.tch (Blk.later F2 (by (repeat (first | with_reducible exact Below.refl _ _ | with_reducible assumption | (with_reducible refine below_alloc ?_ _) | (with_reducible refine Below.setCell ?_ (by first | omega | (simp; done) | (simp; omega)) _) | (with_reducible refine Below.drew ?_) | (with_reducible refine below_drewN ?_ _) | (refine below_then (by with_reducible assumption) ?_))) : Below w2.heap.size w2 _)) hst3.2 (by omega)
    have HIN3 := hid ((HIN2.out.row ((by (repeat (first | with_reducible exact Below.refl _ _ | with_reducible assumption | (with_reducible refine below_alloc ?_ _) | (with_reducible refine Below.setCell ?_ (by first | omega | (simp; done) | (simp; omega)) _) | (with_reducible refine Below.drew ?_) | (with_reducible refine below_drewN ?_ _) | (refine below_then (by with_reducible assumption) ?_))) : Below w2.heap.size w2 _).mono hz2)).step hst3)
    have hT3 : Tch (· = w.heap.size + 1 + 1) w2 w3 := (Tch.of_later (F := (· = w.heap.size + 1 + 1)) (by (repeat (first | with_reducible exact Below.refl _ _ | with_reducible assumption | (with_reducible refine below_alloc ?_ _) | (with_reducible refine Below.setCell ?_ (by first | omega | (simp; done) | (simp; omega)) _) | (with_reducible refine Below.drew ?_) | (with_reducible refine below_drewN ?_ _) | (refine below_then (by with_reducible assumption) ?_))) : Below w2.heap.size w2 _)).trans hst3.2 fun b _ h => h
    have HT3 := hid hT3
    have hz3 := HIN3.out.tch.size
    have hs3 := hT3.size
    clear hst3 hT3 R2 F2
    go_wp2_with fail
    refine (rd_fault w3 HIN3.out.rd).mono ?_
    rintro r w4 ⟨rfl, hb4⟩
    have E4 := E3.later hb4
    have R4 := R3.later hb4
    have F4 := F3.later hb4
    have hG := fault_good (w4.alloc (.cells #[.int .i64 u.k, .int .i64 u.f] 48)) u.k u.f
    rw [d1] at hG
    have HG := hid hG
    have hs4 := hb4.size
    have HB4 := hid hb4
    clear hG d1 hb4 E3 R3 F3
    go_wp2_with fail
    refine HG.out.mono ?_
    rintro r w5 ⟨rfl, hb5⟩
    have E5 := (E4.alloc (.cells #[.int .i64 u.k, .int .i64 u.f] 48)).later hb5
    have R5 := (R4.alloc (.cells #[.int .i64 u.k, .int .i64 u.f] 48)).later hb5
    have F5 := (F4.alloc (.cells #[.int .i64 u.k, .int .i64 u.f] 48)).later hb5
    have X5 := Blk.later (Blk.newAt w4 _ _ rfl) hb5
    have hb45 : Below w4.heap.size w4 w5 := by (repeat (first | with_reducible exact Below.refl _ _ | with_reducible assumption | (with_reducible refine below_alloc ?_ _) | (with_reducible refine Below.setCell ?_ (by first | omega | (simp; done) | (simp; omega)) _) | (with_reducible refine Below.drew ?_) | (with_reducible refine below_drewN ?_ _) | (refine below_then (by with_reducible assumption) ?_)))
    have hb35 : Below w3.heap.size w3 w5 := below_then hb45 HB4.out
    have hs5 := hb45.size
    obtain ⟨e0, e1, e2, _, _, _, le⟩ := b_blk E5
    obtain ⟨r0, r1, r2, t0, t1, t2, lr⟩ := b_blk R5
    obtain ⟨f0, f1, g0, g1, lf⟩ := f_blk F5
    have hbw5 : Below w.heap.size w w5 := hbw1.trans ((HIN2.out.tch.trans HT3.out fun b _ h => h).to_below (by omega) (fun b _ h => by omega) |>.trans (hb35.mono (by omega)))
    clear E4 R4 F4 hb5

    obtain ⟨z0, z1, _, _, lz⟩ := f_blk X5
    clear X5 E5 R5 F5
    go_wp2_with fail
    go_region
    all_goals
      go_wp2
      refine bodyPost_ret (v := .tuple #[.agg #[.int .u64 0, .int .u64 0, .slice none 0 0], .agg #[.int .i64 u.k, .int .i64 u.f]]) (by simp [results, Tryz.results35, go_sem, r0, r1, r2, t0, t1, t2, f0, f1, g0, g1, lr, lf]) rfl ⟨_, rfl, ⟨none, 0, rfl, Nat.le_refl _, Nat.zero_le _, .inl rfl⟩, by (repeat (first | with_reducible exact Below.refl _ _ | with_reducible assumption | (with_reducible refine below_alloc ?_ _) | (with_reducible refine Below.setCell ?_ (by first | omega | (simp; done) | (simp; omega)) _) | (with_reducible refine Below.drew ?_) | (with_reducible refine below_drewN ?_ _) | (refine below_then (by with_reducible assumption) ?_)))⟩

set_option maxRecDepth 100000 in
set_option maxHeartbeats 6400000 in
theorem batch_decodeloose (w : World) (B : List UInt8) (a : Option Addr) (n c : Nat) (hl : rBytes.r (· < w.heap.size) w [.slice a n c] B) (hB : B.length ≤ 1000000000) :
    Calls Tryz.prog 36 #[.slice a n c] w fun r w' => ∃ v, r = .returned (.tuple #[.agg #[.int .u64 (decB B (blkL B)).2.1.epoch, .int .u64 (decB B (blkL B)).2.1.base, v], .bool (decB B (blkL B)).2.2, .agg #[.int .i64 (decB B (blkL B)).1.k, .int .i64 (decB B (blkL B)).1.f]]) ∧ rEntriesW.r (Fresh w w') w' [v] (decB B (blkL B)).2.1.entries ∧ Below w.heap.size w w' := by
  obtain ⟨rfl, hmx, hcc, hcm⟩ := sl_len hl
  have HN := hid (rd_new ((w.alloc (.cells #[.int .u64 0, .int .u64 0, .slice none 0 0] 25)).alloc (.cells #[.int .i64 0, .int .i64 0] 48)) B a _ c (lift hl (by (repeat (first | with_reducible exact Below.refl _ _ | with_reducible assumption | (with_reducible refine below_alloc ?_ _) | (with_reducible refine Below.setCell ?_ (by first | omega | (simp; done) | (simp; omega)) _) | (with_reducible refine Below.drew ?_) | (with_reducible refine below_drewN ?_ _) | (refine below_then (by with_reducible assumption) ?_))))))
  have hRD := fun (W : World) (h : RdAt W (w.heap.size + 1 + 1) B a ⟨0, 0, 0⟩) => batch_readloose W h hB
  have hok : ((Rs.batch B (blkL B) ⟨0, 0, 0⟩).1.fin B.length).ok B.length ∨ True := .inr trivial
  unfold decB
  generalize hZ : Rs.batch B (blkL B) ⟨0, 0, 0⟩ = Z at *
  obtain ⟨s1, b, q⟩ := Z
  obtain ⟨e, p, E⟩ := b
  dsimp only at *
  generalize hu : s1.fin B.length = u at *
  have HU := hid hu
  have HRD := hid hRD
  clear hl hZ hok hRD hu
  by_cases hk : u.k = 0
  · simp only [if_pos hk]
    have d1 : decide (u.k = 0) = true := decide_eq_true hk
    have HK := hid hk
    clear hk
    go_enter Tryz.func36, Tryz.ntmps36
    go_wp2_with fail
    refine HN.out.mono ?_
    rintro r w1 ⟨rfl, hrd, hb1⟩
    have R1 : Blk w1 w.heap.size 25 #[.int .u64 0, .int .u64 0, .slice none 0 0] := Blk.later (by (repeat (first | assumption | exact Blk.newAt _ _ _ (by first | (simp; done) | (simp; omega)) | refine Blk.alloc ?_ _ | refine Blk.drew ?_ | refine Blk.drewN ?_ _ | refine Blk.far ?_ (by first | (simp; done) | (simp; omega)) _))) hb1
    have F1 : Blk w1 (w.heap.size + 1) 48 #[.int .i64 0, .int .i64 0] := Blk.later (by (repeat (first | assumption | exact Blk.newAt _ _ _ (by first | (simp; done) | (simp; omega)) | refine Blk.alloc ?_ _ | refine Blk.drew ?_ | refine Blk.drewN ?_ _ | refine Blk.far ?_ (by first | (simp; done) | (simp; omega)) _))) hb1
    have hbw1 : Below w.heap.size w w1 := by (repeat (first | with_reducible exact Below.refl _ _ | with_reducible assumption | (with_reducible refine below_alloc ?_ _) | (with_reducible refine Below.setCell ?_ (by first | omega | (simp; done) | (simp; omega)) _) | (with_reducible refine Below.drew ?_) | (with_reducible refine below_drewN ?_ _) | (refine below_then (by with_reducible assumption) ?_)))
    simp at hrd
    have HIN1 := hid (RdInv.refl hrd)
    have hg := hrd.blk.lt
    clear hb1
    go_wp2_with fail
    refine (HRD.out w1 hrd).mono ?_
    rintro r w2 ⟨v2, rfl, hv2, hst2⟩
    obtain ⟨a2, c2, hfv, _, _⟩ := sl_form (entriesW_entries hv2)
    simp only [List.cons.injEq, and_true] at hfv
    subst hfv
    have R2 := R1.tch hst2.2 (by omega)
    have F2 := F1.tch hst2.2 (by omega)
    have HIN2 := hid (HIN1.out.step hst2)
    have hz2 := HIN2.out.tch.size
    have HV2 := hid hv2
    clear hrd hv2 hst2 R1 F1
    go_wp2_with fail
    refine (rd_end _ (HIN2.out.row ((by (repeat (first | with_reducible exact Below.refl _ _ | with_reducible assumption | (with_reducible refine below_alloc ?_ _) | (with_reducible refine Below.setCell ?_ (by first | omega | (simp; done) | (simp; omega)) _) | (with_reducible refine Below.drew ?_) | (with_reducible refine below_drewN ?_ _) | (refine below_then (by with_reducible assumption) ?_))) : Below w2.heap.size w2 _).mono hz2)).rd).mono ?_
    rintro r w3 ⟨rfl, hst3⟩
    rw [HU.out] at hst3
    have E3 : Blk w3 w2.heap.size 25 #[.int .u64 e, .int .u64 p, .slice a2 E.length c2] := Blk.tch (by (repeat (first | assumption | exact Blk.newAt _ _ _ (by first | (simp; done) | (simp; omega)) | refine Blk.alloc ?_ _ | refine Blk.drew ?_ | refine Blk.drewN ?_ _ | refine Blk.far ?_ (by first | (simp; done) | (simp; omega)) _))) hst3.2 (by omega)
    have R3 : Blk w3 w.heap.size 25 #[.int .u64 0, .int .u64 0, .slice none 0 0] := Blk.tch (Blk.later R2 (by (repeat (first | with_reducible exact Below.refl _ _ | with_reducible assumption | (with_reducible refine below_alloc ?_ _) | (with_reducible refine Below.setCell ?_ (by first | omega | (simp; done) | (simp; omega)) _) | (with_reducible refine Below.drew ?_) | (with_reducible refine below_drewN ?_ _) | (refine below_then (by with_reducible assumption) ?_))) : Below w2.heap.size w2 _)) hst3.2 (by omega)
    have F3 : Blk w3 (w.heap.size + 1) 48 #[.int .i64 0, .int .i64 0] := Blk.tch (Blk.later F2 (by (repeat (first | with_reducible exact Below.refl _ _ | with_reducible assumption | (with_reducible refine below_alloc ?_ _) | (with_reducible refine Below.setCell ?_ (by first | omega | (simp; done) | (simp; omega)) _) | (with_reducible refine Below.drew ?_) | (with_reducible refine below_drewN ?_ _) | (refine below_then (by with_reducible assumption) ?_))) : Below w2.heap.size w2 _)) hst3.2 (by omega)
    have HIN3 := hid ((HIN2.out.row ((by (repeat (first | with_reducible exact Below.refl _ _ | with_reducible assumption | (with_reducible refine below_alloc ?_ _) | (with_reducible refine Below.setCell ?_ (by first | omega | (simp; done) | (simp; omega)) _) | (with_reducible refine Below.drew ?_) | (with_reducible refine below_drewN ?_ _) | (refine below_then (by with_reducible assumption) ?_))) : Below w2.heap.size w2 _).mono hz2)).step hst3)
    have hT3 : Tch (· = w.heap.size + 1 + 1) w2 w3 := (Tch.of_later (F := (· = w.heap.size + 1 + 1)) (by (repeat (first | with_reducible exact Below.refl _ _ | with_reducible assumption | (with_reducible refine below_alloc ?_ _) | (with_reducible refine Below.setCell ?_ (by first | omega | (simp; done) | (simp; omega)) _) | (with_reducible refine Below.drew ?_) | (with_reducible refine below_drewN ?_ _) | (refine below_then (by with_reducible assumption) ?_))) : Below w2.heap.size w2 _)).trans hst3.2 fun b _ h => h
    have HT3 := hid hT3
    have hz3 := HIN3.out.tch.size
    have hs3 := hT3.size
    clear hst3 hT3 R2 F2
    go_wp2_with fail
    refine (rd_fault w3 HIN3.out.rd).mono ?_
    rintro r w4 ⟨rfl, hb4⟩
    have E4 := E3.later hb4
    have R4 := R3.later hb4
    have F4 := F3.later hb4
    have hG := fault_good (w4.alloc (.cells #[.int .i64 u.k, .int .i64 u.f] 48)) u.k u.f
    rw [d1] at hG
    have HG := hid hG
    have hs4 := hb4.size
    have HB4 := hid hb4
    clear hG d1 hb4 E3 R3 F3
    go_wp2_with fail
    refine HG.out.mono ?_
    rintro r w5 ⟨rfl, hb5⟩
    have E5 := (E4.alloc (.cells #[.int .i64 u.k, .int .i64 u.f] 48)).later hb5
    have R5 := (R4.alloc (.cells #[.int .i64 u.k, .int .i64 u.f] 48)).later hb5
    have F5 := (F4.alloc (.cells #[.int .i64 u.k, .int .i64 u.f] 48)).later hb5
    have X5 := Blk.later (Blk.newAt w4 _ _ rfl) hb5
    have hb45 : Below w4.heap.size w4 w5 := by (repeat (first | with_reducible exact Below.refl _ _ | with_reducible assumption | (with_reducible refine below_alloc ?_ _) | (with_reducible refine Below.setCell ?_ (by first | omega | (simp; done) | (simp; omega)) _) | (with_reducible refine Below.drew ?_) | (with_reducible refine below_drewN ?_ _) | (refine below_then (by with_reducible assumption) ?_)))
    have hb35 : Below w3.heap.size w3 w5 := below_then hb45 HB4.out
    have hs5 := hb45.size
    obtain ⟨e0, e1, e2, _, _, _, le⟩ := b_blk E5
    obtain ⟨r0, r1, r2, t0, t1, t2, lr⟩ := b_blk R5
    obtain ⟨f0, f1, g0, g1, lf⟩ := f_blk F5
    have hbw5 : Below w.heap.size w w5 := hbw1.trans ((HIN2.out.tch.trans HT3.out fun b _ h => h).to_below (by omega) (fun b _ h => by omega) |>.trans (hb35.mono (by omega)))
    clear E4 R4 F4 hb5

    have HF0 := hid (HIN3.out.rd.ok.zero HK.out)
    go_wp2
    obtain ⟨v0, v1, v2, _, _, _, lF⟩ := b_blk (Blk.far (Blk.far (((R5.set 0 (.int .u64 e)).set 1 (.int .u64 p)).set 2 (.slice a2 E.length c2)) (p := ⟨w.heap.size + 1, 0, none⟩) (by dsimp only; omega) (.int .i64 0)) (p := ⟨w.heap.size + 1, 1, none⟩) (by dsimp only; omega) (.int .i64 0))
    obtain ⟨x0, x1, _, _, lX⟩ := f_blk (((Blk.far (Blk.far (Blk.far F5 (p := ⟨w.heap.size, 0, none⟩) (by dsimp only; omega) (.int .u64 e)) (p := ⟨w.heap.size, 1, none⟩) (by dsimp only; omega) (.int .u64 p)) (p := ⟨w.heap.size, 2, none⟩) (by dsimp only; omega) (.slice a2 E.length c2)).set 0 (.int .i64 0)).set 1 (.int .i64 0))
    refine bodyPost_ret (v := .tuple #[.agg #[.int .u64 e, .int .u64 p, .slice a2 E.length c2], .bool q, .agg #[.int .i64 0, .int .i64 0]]) (by simp [results, Tryz.results36, go_sem, v0, v1, v2, x0, x1, lF, lX]) rfl ⟨_, by rw [HK.out, HF0.out], ?_, by (repeat (first | with_reducible exact Below.refl _ _ | with_reducible assumption | (with_reducible refine below_alloc ?_ _) | (with_reducible refine Below.setCell ?_ (by first | omega | (simp; done) | (simp; omega)) _) | (with_reducible refine Below.drew ?_) | (with_reducible refine below_drewN ?_ _) | (refine below_then (by with_reducible assumption) ?_)))⟩
    refine rEntriesW.mono (rEntriesW.keep HV2.out fun b hb => ?_) fun b hb => ⟨by have := hb.1; have := hbw1.size; omega, by have := hb.2; simp; omega⟩
    have h1 : w1.heap.size ≤ b := hb.1
    have h2 : b < w2.heap.size := hb.2
    (repeat rw [Below.heap_setCell _ _ _ _ (by dsimp only; omega)])
    exact (hb35.block b (by omega)).trans (HT3.out.block b h2 (by omega))
  · simp only [if_neg hk]
    have d1 : decide (u.k = 0) = false := decide_eq_false hk
    clear hk
    go_enter Tryz.func36, Tryz.ntmps36
    go_wp2_with fail
    refine HN.out.mono ?_
    rintro r w1 ⟨rfl, hrd, hb1⟩
    have R1 : Blk w1 w.heap.size 25 #[.int .u64 0, .int .u64 0, .slice none 0 0] := Blk.later (by (repeat (first | assumption | exact Blk.newAt _ _ _ (by first | (simp; done) | (simp; omega)) | refine Blk.alloc ?_ _ | refine Blk.drew ?_ | refine Blk.drewN ?_ _ | refine Blk.far ?_ (by first | (simp; done) | (simp; omega)) _))) hb1
    have F1 : Blk w1 (w.heap.size + 1) 48 #[.int .i64 0, .int .i64 0] := Blk.later (by (repeat (first | assumption | exact Blk.newAt _ _ _ (by first | (simp; done) | (simp; omega)) | refine Blk.alloc ?_ _ | refine Blk.drew ?_ | refine Blk.drewN ?_ _ | refine Blk.far ?_ (by first | (simp; done) | (simp; omega)) _))) hb1
    have hbw1 : Below w.heap.size w w1 := by (repeat (first | with_reducible exact Below.refl _ _ | with_reducible assumption | (with_reducible refine below_alloc ?_ _) | (with_reducible refine Below.setCell ?_ (by first | omega | (simp; done) | (simp; omega)) _) | (with_reducible refine Below.drew ?_) | (with_reducible refine below_drewN ?_ _) | (refine below_then (by with_reducible assumption) ?_)))
    simp at hrd
    have HIN1 := hid (RdInv.refl hrd)
    have hg := hrd.blk.lt
    clear hb1
    go_wp2_with fail
    refine (HRD.out w1 hrd).mono ?_
    rintro r w2 ⟨v2, rfl, hv2, hst2⟩
    obtain ⟨a2, c2, hfv, _, _⟩ := sl_form (entriesW_entries hv2)
    simp only [List.cons.injEq, and_true] at hfv
    subst hfv
    have R2 := R1.tch hst2.2 (by omega)
    have F2 := F1.tch hst2.2 (by omega)
    have HIN2 := hid (HIN1.out.step hst2)
    have hz2 := HIN2.out.tch.size
    have HV2 := hid hv2
    clear hrd hv2 hst2 R1 F1
    go_wp2_with fail
    refine (rd_end _ (HIN2.out.row ((by (repeat (first | with_reducible exact Below.refl _ _ | with_reducible assumption | (with_reducible refine below_alloc ?_ _) | (with_reducible refine Below.setCell ?_ (by first | omega | (simp; done) | (simp; omega)) _) | (with_reducible refine Below.drew ?_) | (with_reducible refine below_drewN ?_ _) | (refine below_then (by with_reducible assumption) ?_))) : Below w2.heap.size w2 _).mono hz2)).rd).mono ?_
    rintro r w3 ⟨rfl, hst3⟩
    rw [HU.out] at hst3
    have E3 : Blk w3 w2.heap.size 25 #[.int .u64 e, .int .u64 p, .slice a2 E.length c2] := Blk.tch (by (repeat (first | assumption | exact Blk.newAt _ _ _ (by first | (simp; done) | (simp; omega)) | refine Blk.alloc ?_ _ | refine Blk.drew ?_ | refine Blk.drewN ?_ _ | refine Blk.far ?_ (by first | (simp; done) | (simp; omega)) _))) hst3.2 (by omega)
    have R3 : Blk w3 w.heap.size 25 #[.int .u64 0, .int .u64 0, .slice none 0 0] := Blk.tch (Blk.later R2 (by (repeat (first | with_reducible exact Below.refl _ _ | with_reducible assumption | (with_reducible refine below_alloc ?_ _) | (with_reducible refine Below.setCell ?_ (by first | omega | (simp; done) | (simp; omega)) _) | (with_reducible refine Below.drew ?_) | (with_reducible refine below_drewN ?_ _) | (refine below_then (by with_reducible assumption) ?_))) : Below w2.heap.size w2 _)) hst3.2 (by omega)
    have F3 : Blk w3 (w.heap.size + 1) 48 #[.int .i64 0, .int .i64 0] := Blk.tch (Blk.later F2 (by (repeat (first | with_reducible exact Below.refl _ _ | with_reducible assumption | (with_reducible refine below_alloc ?_ _) | (with_reducible refine Below.setCell ?_ (by first | omega | (simp; done) | (simp; omega)) _) | (with_reducible refine Below.drew ?_) | (with_reducible refine below_drewN ?_ _) | (refine below_then (by with_reducible assumption) ?_))) : Below w2.heap.size w2 _)) hst3.2 (by omega)
    have HIN3 := hid ((HIN2.out.row ((by (repeat (first | with_reducible exact Below.refl _ _ | with_reducible assumption | (with_reducible refine below_alloc ?_ _) | (with_reducible refine Below.setCell ?_ (by first | omega | (simp; done) | (simp; omega)) _) | (with_reducible refine Below.drew ?_) | (with_reducible refine below_drewN ?_ _) | (refine below_then (by with_reducible assumption) ?_))) : Below w2.heap.size w2 _).mono hz2)).step hst3)
    have hT3 : Tch (· = w.heap.size + 1 + 1) w2 w3 := (Tch.of_later (F := (· = w.heap.size + 1 + 1)) (by (repeat (first | with_reducible exact Below.refl _ _ | with_reducible assumption | (with_reducible refine below_alloc ?_ _) | (with_reducible refine Below.setCell ?_ (by first | omega | (simp; done) | (simp; omega)) _) | (with_reducible refine Below.drew ?_) | (with_reducible refine below_drewN ?_ _) | (refine below_then (by with_reducible assumption) ?_))) : Below w2.heap.size w2 _)).trans hst3.2 fun b _ h => h
    have HT3 := hid hT3
    have hz3 := HIN3.out.tch.size
    have hs3 := hT3.size
    clear hst3 hT3 R2 F2
    go_wp2_with fail
    refine (rd_fault w3 HIN3.out.rd).mono ?_
    rintro r w4 ⟨rfl, hb4⟩
    have E4 := E3.later hb4
    have R4 := R3.later hb4
    have F4 := F3.later hb4
    have hG := fault_good (w4.alloc (.cells #[.int .i64 u.k, .int .i64 u.f] 48)) u.k u.f
    rw [d1] at hG
    have HG := hid hG
    have hs4 := hb4.size
    have HB4 := hid hb4
    clear hG d1 hb4 E3 R3 F3
    go_wp2_with fail
    refine HG.out.mono ?_
    rintro r w5 ⟨rfl, hb5⟩
    have E5 := (E4.alloc (.cells #[.int .i64 u.k, .int .i64 u.f] 48)).later hb5
    have R5 := (R4.alloc (.cells #[.int .i64 u.k, .int .i64 u.f] 48)).later hb5
    have F5 := (F4.alloc (.cells #[.int .i64 u.k, .int .i64 u.f] 48)).later hb5
    have X5 := Blk.later (Blk.newAt w4 _ _ rfl) hb5
    have hb45 : Below w4.heap.size w4 w5 := by (repeat (first | with_reducible exact Below.refl _ _ | with_reducible assumption | (with_reducible refine below_alloc ?_ _) | (with_reducible refine Below.setCell ?_ (by first | omega | (simp; done) | (simp; omega)) _) | (with_reducible refine Below.drew ?_) | (with_reducible refine below_drewN ?_ _) | (refine below_then (by with_reducible assumption) ?_)))
    have hb35 : Below w3.heap.size w3 w5 := below_then hb45 HB4.out
    have hs5 := hb45.size
    obtain ⟨e0, e1, e2, _, _, _, le⟩ := b_blk E5
    obtain ⟨r0, r1, r2, t0, t1, t2, lr⟩ := b_blk R5
    obtain ⟨f0, f1, g0, g1, lf⟩ := f_blk F5
    have hbw5 : Below w.heap.size w w5 := hbw1.trans ((HIN2.out.tch.trans HT3.out fun b _ h => h).to_below (by omega) (fun b _ h => by omega) |>.trans (hb35.mono (by omega)))
    clear E4 R4 F4 hb5

    obtain ⟨z0, z1, _, _, lz⟩ := f_blk X5
    clear X5 E5 R5 F5
    go_wp2_with fail
    go_region
    all_goals
      go_wp2
      refine bodyPost_ret (v := .tuple #[.agg #[.int .u64 0, .int .u64 0, .slice none 0 0], .bool false, .agg #[.int .i64 u.k, .int .i64 u.f]]) (by simp [results, Tryz.results36, go_sem, r0, r1, r2, t0, t1, t2, f0, f1, g0, g1, lr, lf]) rfl ⟨_, rfl, ⟨none, 0, rfl, Nat.le_refl _, Nat.zero_le _, .inl rfl⟩, by (repeat (first | with_reducible exact Below.refl _ _ | with_reducible assumption | (with_reducible refine below_alloc ?_ _) | (with_reducible refine Below.setCell ?_ (by first | omega | (simp; done) | (simp; omega)) _) | (with_reducible refine Below.drew ?_) | (with_reducible refine below_drewN ?_ _) | (refine below_then (by with_reducible assumption) ?_)))⟩
end Go.Proofs.YtkipiefcnjfdjaaGreat
