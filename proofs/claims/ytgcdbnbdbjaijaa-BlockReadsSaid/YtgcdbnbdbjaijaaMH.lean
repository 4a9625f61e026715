/- The document's block, read. BlockReads: for every input the law returns true. BlockReads: for every input the law returns true. -/
import Derived.Test.YtgcdbnbdbjaijaaLast
import Derived.Test.YtgcdbnbdbjaijaaMC
import Derived.Test.YtgcdbnbdbjaijaaMF
import Derived.Deep.Cut
import Derived.Deep.RegionHeld3
namespace Go.Proofs.Ytgcdbnbdbjaijaa
open Go.RowKit Go.Bs Go.Maps
set_option linter.unusedVariables false
set_option linter.unusedSimpArgs false

theorem take1 (B : List UInt8) (s : Rs) : (s.take B 1).1 = (s.byte B).1 := rfl
theorem take1_k {B : List UInt8} {s : Rs} (h : (s.byte B).1.k = 0) : (s.take B 1).2 = [(s.byte B).2] := by
  have h' : (s.skip B.length 1).2.k = 0 := h
  unfold Rs.take Rs.byte
  cases hk : (s.skip B.length 1).1
  · exact absurd h' (Rs.skip_false hk).1
  · have := Rs.skip_true hk
    have hp : s.p < B.length := by omega
    have e1 : (B.drop s.p).take 1 = [B[s.p]] := by rw [List.drop_eq_getElem_cons hp]; rfl
    have e2 : B.getD s.p 0 = B[s.p] := by simp [hp]
    simp only [if_true]
    rw [show (1 : Int).toNat = 1 from rfl, e1, e2]
/-- What stands at the last test of the document's Loose. -/
structure LInv (w W : World) (B : List UInt8) (a : Option Addr) (c : Nat) (s sf : Rs) (ge : Nat) (D : List UInt8) (aD : Option Addr) (cD : Nat) : Prop where
  b0 : Blk W w.heap.size 61 #[.slice a B.length c, .int .i64 (s.p : Int), .int .i64 s.k, .int .i64 s.f]
  b1 : Blk W (w.heap.size + 1) 61 #[.slice none 0 0, .int .i64 0, .int .i64 0, .int .i64 0]
  be : Blk W ge 61 #[.slice a B.length c, .int .i64 (sf.p : Int), .int .i64 sf.k, .int .i64 sf.f]
  lo : w.heap.size + 1 < ge
  dat : rBytes.r (fun q => ge < q ∧ q < W.heap.size) W [.slice aD D.length cD] D
  bel : Below w.heap.size w W

theorem LInv.later {w V V' : World} {B : List UInt8} {a : Option Addr} {c : Nat} {s sf : Rs} {ge : Nat} {D : List UInt8} {aD : Option Addr} {cD : Nat} (h : LInv w V B a c s sf ge D aD cD) (hb : Below V.heap.size V V') : LInv w V' B a c s sf ge D aD cD :=
  ⟨h.b0.later hb, h.b1.later hb, h.be.later hb, h.lo, rBytes.mono (rBytes.keep h.dat fun q hq => hb.block q hq.2) fun q hq => ⟨hq.1, Nat.lt_of_lt_of_le hq.2 hb.size⟩, below_then hb h.bel⟩
theorem LInv.data {w V : World} {B : List UInt8} {a : Option Addr} {c : Nat} {s sf : Rs} {ge : Nat} {D D' : List UInt8} {aD aD' : Option Addr} {cD cD' : Nat} (h : LInv w V B a c s sf ge D aD cD) (hd : rBytes.r (fun q => ge < q ∧ q < V.heap.size) V [.slice aD' D'.length cD'] D') : LInv w V B a c s sf ge D' aD' cD' :=
  ⟨h.b0, h.b1, h.be, h.lo, hd, h.bel⟩
theorem LInv.set {w V : World} {B : List UInt8} {a : Option Addr} {c : Nat} {s sf : Rs} {ge : Nat} {D : List UInt8} {aD : Option Addr} {cD : Nat} (h : LInv w V B a c s sf ge D aD cD) (t : Rs) :
    LInv w ((((V.setCell ⟨ge, 0, none⟩ (.slice a B.length c)).setCell ⟨ge, 1, none⟩ (.int .i64 (t.p : Int))).setCell ⟨ge, 2, none⟩ (.int .i64 t.k)).setCell ⟨ge, 3, none⟩ (.int .i64 t.f)) B a c s t ge D aD cD := by
  have hlo := h.lo
  refine ⟨?_, ?_, ?_, hlo, ?_, ?_⟩
  · exact Blk.far (Blk.far (Blk.far (Blk.far h.b0 (by dsimp only; omega) _) (by dsimp only; omega) _) (by dsimp only; omega) _) (by dsimp only; omega) _
  · exact Blk.far (Blk.far (Blk.far (Blk.far h.b1 (by dsimp only; omega) _) (by dsimp only; omega) _) (by dsimp only; omega) _) (by dsimp only; omega) _
  · exact Blk.set (Blk.set (Blk.set (Blk.set h.be 0 _) 1 _) 2 _) 3 _
  · refine rBytes.mono (rBytes.keep h.dat fun q hq => ?_) fun q hq => ⟨hq.1, by have := hq.2; simp [World.setCell]; omega⟩
    have hq1 := hq.1
    repeat (rw [Below.heap_setCell _ _ _ _ (by dsimp only; omega)])
  · have hb := h.bel
    (repeat (first | with_reducible exact Below.refl _ _ | with_reducible assumption | (with_reducible refine below_alloc ?_ _) | (with_reducible refine Below.setCell ?_ (by first | omega | (simp; done) | (simp; omega)) _) | (with_reducible refine Below.drew ?_) | (with_reducible refine below_drewN ?_ _) | (refine below_then (by with_reducible assumption) ?_)))

set_option maxRecDepth 100000 in
set_option maxHeartbeats 12800000 in
theorem ref16_loose (w : World) (a : Option Addr) (c : Nat) (B : List UInt8) (hl : rBytes.r (· < w.heap.size) w [.slice a B.length c] B) (s : Rs) (hs : s.ok B.length) (hB : B.length ≤ 1000000000) (most : Int) (hm : -9223372036854775808 ≤ most ∧ most ≤ 9223372036854775807) :
    Calls Try.prog 50 #[CV a B.length c s, .int .i64 most] w fun r w' => ∃ v, r = .returned (.tuple #[CV a B.length c (s.loose B most).1, v, .bool (s.loose B most).2.2]) ∧ rBytes.r (fun q => w.heap.size ≤ q ∧ q < w'.heap.size) w' [v] (s.loose B most).2.1 ∧ Below w.heap.size w w' := by
  have HL := hid hl
  have hI := hid (fun (W : World) (hW : Below w.heap.size w W) => ref04_int W a c B (lift HL.out hW) s hs (by omega) (min most 1048576) (by omega))
  have hiok := Rs.int_ok hs (m := min most 1048576)
  have hip := Rs.int_p (B := B) (s := s) (m := min most 1048576)
  have hile : (s.int B (min most 1048576)).2 ≤ 1048576 := by have := Rs.int_le (B := B) (s := s) (m := min most 1048576); omega
  have hbok := Rs.byte_ok hiok
  have hbp := Rs.byte_p hiok
  have hBY := hid (fun (W : World) (hW : Below w.heap.size w W) => ref02_take W a c B (lift HL.out hW) (s.int B (min most 1048576)).1 hiok 1 (by omega) (by omega))
  have hTK := hid (fun (W : World) (hW : Below w.heap.size w W) => ref02_take W a c B (lift HL.out hW) ((s.int B (min most 1048576)).1.byte B).1 hbok ((s.int B (min most 1048576)).2 : Int) (by omega) (by omega))
  have htok := Rs.take_ok (B := B) hbok ((s.int B (min most 1048576)).2 : Int)
  have htp := Rs.take_p hbok ((s.int B (min most 1048576)).2 : Int)
  have htl : (((s.int B (min most 1048576)).1.byte B).1.take B ((s.int B (min most 1048576)).2 : Int)).2.length ≤ 1048576 := by
    by_cases h0 : (((s.int B (min most 1048576)).1.byte B).1.take B ((s.int B (min most 1048576)).2 : Int)).1.k = 0
    · rw [(Rs.take_more h0).2.2]; omega
    · rw [Rs.take_bad h0]; simp
  have hBL := hid (fun (W : World) (hW : Below w.heap.size w W) => ref06_read W a c B (lift HL.out hW) ((s.int B (min most 1048576)).1.byte B).1 hbok (by omega) 1048576 (by omega))
  have hblok := Rs.blob_ok hbok 1048576
  have hblp := Rs.blob_p hbok 1048576
  have hbll : (((s.int B (min most 1048576)).1.byte B).1.blob B 1048576).2.length ≤ B.length := by
    unfold Rs.blob Rs.take
    dsimp only
    split
    · simp; omega
    · simp
  have hxf := exB_facts (((s.int B (min most 1048576)).1.byte B).1.blob B 1048576).2 ((s.int B (min most 1048576)).2 : Int)
  have hX := hid (fun (W : World) (aD : Option Addr) (nD cD : Nat) (hl : rBytes.r (· < W.heap.size) W [.slice aD nD cD] (((s.int B (min most 1048576)).1.byte B).1.blob B 1048576).2) => ref12_bytes W (((s.int B (min most 1048576)).1.byte B).1.blob B 1048576).2 aD nD cD hl (by omega) ((s.int B (min most 1048576)).2 : Int) (by omega))
  have hF7 := hid (fun (W : World) => ref02_fail W a B.length c ((s.int B (min most 1048576)).1.byte B).1 7 ((((s.int B (min most 1048576)).1.byte B).1.p : Int) - 1) (by omega))
  have hF3 := hid (fun (W : World) => ref02_fail W a B.length c (((s.int B (min most 1048576)).1.byte B).1.blob B 1048576).1 3 ((((s.int B (min most 1048576)).1.byte B).1.blob B 1048576).1.p : Int) (by omega))
  have hFX := hid (fun (W : World) (hk : (exB (((s.int B (min most 1048576)).1.byte B).1.blob B 1048576).2 ((s.int B (min most 1048576)).2 : Int)).2.1 ≠ 0) => ref02_fail W a B.length c (((s.int B (min most 1048576)).1.byte B).1.blob B 1048576).1 (exB (((s.int B (min most 1048576)).1.byte B).1.blob B 1048576).2 ((s.int B (min most 1048576)).2 : Int)).2.1 ((exB (((s.int B (min most 1048576)).1.byte B).1.blob B 1048576).2 ((s.int B (min most 1048576)).2 : Int)).2.2 + (((((s.int B (min most 1048576)).1.byte B).1.blob B 1048576).1.p : Int) - ((((s.int B (min most 1048576)).1.byte B).1.blob B 1048576).2.length : Int))) hk)
  have hfk3 := Rs.fail_k (s := (((s.int B (min most 1048576)).1.byte B).1.blob B 1048576).1) (c := 3) (at_ := ((((s.int B (min most 1048576)).1.byte B).1.blob B 1048576).1.p : Int)) (by omega)
  have hfkx := fun hk => Rs.fail_k (s := (((s.int B (min most 1048576)).1.byte B).1.blob B 1048576).1) (c := (exB (((s.int B (min most 1048576)).1.byte B).1.blob B 1048576).2 ((s.int B (min most 1048576)).2 : Int)).2.1) (at_ := ((exB (((s.int B (min most 1048576)).1.byte B).1.blob B 1048576).2 ((s.int B (min most 1048576)).2 : Int)).2.2 + (((((s.int B (min most 1048576)).1.byte B).1.blob B 1048576).1.p : Int) - ((((s.int B (min most 1048576)).1.byte B).1.blob B 1048576).2.length : Int)))) hk
  have hby1 := take1_k (B := B) (s := (s.int B (min most 1048576)).1)
  have hb1 : ((s.int B (min most 1048576)).1.byte B).1.k = 0 → ((s.int B (min most 1048576)).1.byte B).1.p = (s.int B (min most 1048576)).1.p + 1 := fun hk => byte_p rfl hk
  rw [take1] at hBY
  have hUeq : ((s.int B (min most 1048576)).1.byte B).1.unp B (s.int B (min most 1048576)).2 = (if (((s.int B (min most 1048576)).1.byte B).1.blob B 1048576).1.k = 0 then
    (if (exB (((s.int B (min most 1048576)).1.byte B).1.blob B 1048576).2 ((s.int B (min most 1048576)).2 : Int)).2.1 = 0 then
      (if (exB (((s.int B (min most 1048576)).1.byte B).1.blob B 1048576).2 ((s.int B (min most 1048576)).2 : Int)).1.length < (s.int B (min most 1048576)).2 then ((((s.int B (min most 1048576)).1.byte B).1.blob B 1048576).1.fail 3 ((((s.int B (min most 1048576)).1.byte B).1.blob B 1048576).1.p : Int), (exB (((s.int B (min most 1048576)).1.byte B).1.blob B 1048576).2 ((s.int B (min most 1048576)).2 : Int)).1) else ((((s.int B (min most 1048576)).1.byte B).1.blob B 1048576).1, (exB (((s.int B (min most 1048576)).1.byte B).1.blob B 1048576).2 ((s.int B (min most 1048576)).2 : Int)).1))
    else ((((s.int B (min most 1048576)).1.byte B).1.blob B 1048576).1.fail (exB (((s.int B (min most 1048576)).1.byte B).1.blob B 1048576).2 ((s.int B (min most 1048576)).2 : Int)).2.1 ((exB (((s.int B (min most 1048576)).1.byte B).1.blob B 1048576).2 ((s.int B (min most 1048576)).2 : Int)).2.2 + (((((s.int B (min most 1048576)).1.byte B).1.blob B 1048576).1.p : Int) - ((((s.int B (min most 1048576)).1.byte B).1.blob B 1048576).2.length : Int))), []))
  else ((((s.int B (min most 1048576)).1.byte B).1.blob B 1048576).1, [])) := by unfold Rs.unp; rfl
  unfold Rs.loose
  generalize ((s.int B (min most 1048576)).1.byte B).1.unp B (s.int B (min most 1048576)).2 = U at *
  generalize ((s.int B (min most 1048576)).1.byte B).1.fail 7 ((((s.int B (min most 1048576)).1.byte B).1.p : Int) - 1) = F7 at *
  generalize (((s.int B (min most 1048576)).1.byte B).1.blob B 1048576).1.fail 3 ((((s.int B (min most 1048576)).1.byte B).1.blob B 1048576).1.p : Int) = F3 at *
  generalize (((s.int B (min most 1048576)).1.byte B).1.blob B 1048576).1.fail (exB (((s.int B (min most 1048576)).1.byte B).1.blob B 1048576).2 ((s.int B (min most 1048576)).2 : Int)).2.1 ((exB (((s.int B (min most 1048576)).1.byte B).1.blob B 1048576).2 ((s.int B (min most 1048576)).2 : Int)).2.2 + (((((s.int B (min most 1048576)).1.byte B).1.blob B 1048576).1.p : Int) - ((((s.int B (min most 1048576)).1.byte B).1.blob B 1048576).2.length : Int))) = FX at *
  generalize exB (((s.int B (min most 1048576)).1.byte B).1.blob B 1048576).2 ((s.int B (min most 1048576)).2 : Int) = X at *
  generalize ((s.int B (min most 1048576)).1.byte B).1.blob B 1048576 = BL at *
  generalize ((s.int B (min most 1048576)).1.byte B).1.take B ((s.int B (min most 1048576)).2 : Int) = T at *
  generalize ((s.int B (min most 1048576)).1.take B 1).2 = WY at *
  generalize (s.int B (min most 1048576)).1.byte B = Y at *
  generalize s.int B (min most 1048576) = N at *
  obtain ⟨sd, n⟩ := N
  obtain ⟨se, y⟩ := Y
  obtain ⟨st, DT⟩ := T
  obtain ⟨sb, TB⟩ := BL
  obtain ⟨DX, kx, fx⟩ := X
  dsimp only at *
  have hM : (if most ≤ 1048576 then most else 1048576) = min most 1048576 := by split <;> omega
  have hM1 : (1048576 : Int) < most → min most 1048576 = 1048576 := by omega
  have hM2 : ¬ (1048576 : Int) < most → min most 1048576 = most := by omega
  generalize min most 1048576 = M at *
  have hy := y.toNat_lt
  have hzs := hs.le
  clear hl hs
  unfold CV at *
  have HOKS := hid (And.intro hbok.le (And.intro htok.le hblok.le))
  have hcut := hid (fun (W : World) (hW : Below w.heap.size w W) (p : Nat) (h1 : s.p ≤ p) (h2 : p ≤ B.length) => cut_bytes (lift HL.out hW) (lo := s.p) (hi := p) h1 h2)
  have hBB := hid (fun (W : World) (D : List UInt8) (aD : Option Addr) (cD : Nat) (h : rBytes.r (· < W.heap.size) W [.slice aD D.length cD] D) (hlen : D.length ≤ 1048576) => ref16_bytes W D aD _ cD h hlen)
  clear hiok hbok htok hblok
  obtain ⟨qm, hqm⟩ : ∃ q, decide ((1048576 : Int) < most) = q := ⟨_, rfl⟩
  have hmq : Hid (M = if qm = true then 1048576 else most) := hid (by
    cases qm
    · rw [if_neg (by simp)]; exact hM2 (of_decide_eq_false hqm)
    · rw [if_pos rfl]; exact hM1 (of_decide_eq_true hqm))
  clear hM hM1 hM2
  rw [hmq.out] at hI
  clear hmq
  by_cases hk : se.k = 0
  · have dk : (se.k != (0 : Int)) = false := by simp [hk]
    have hwy := hby1 hk
    have hp1 := hid (hb1 hk)
    subst hwy
    rw [if_pos hk]
    have HK := hid hk
    clear hk hb1 hby1
    by_cases h0 : y.toNat = 0
    · have d0 : ((y.toNat : Int) == 0) = true := by rw [h0]; rfl
      have d1 : decide ((1 : Int) < (y.toNat : Int)) = false := decide_eq_false (by omega)
      have d1' : decide (1 < y.toNat) = false := decide_eq_false (by omega)
      rw [if_pos h0]
      clear h0 hUeq
      by_cases ht : st.k = 0
      · have dt : (st.k != (0 : Int)) = false := by simp [ht]
        rw [if_pos ht]
        clear ht
        dsimp only
        go_enter Try.func50, Try.ntmps50
        cases qm
        all_goals
          simp only [if_true, if_false, Bool.false_eq_true] at hI
          go_wp2_with fail
          refine (hI.out _ (by (repeat (first | with_reducible exact Below.refl _ _ | with_reducible assumption | (with_reducible refine below_alloc ?_ _) | (with_reducible refine Below.setCell ?_ (by first | omega | (simp; done) | (simp; omega)) _) | (with_reducible refine Below.drew ?_) | (with_reducible refine below_drewN ?_ _) | (refine below_then (by with_reducible assumption) ?_))))).mono ?_
          rintro r w1 ⟨rfl, hb⟩
          have B0 : Blk w1 w.heap.size 61 #[.slice a B.length c, .int .i64 (s.p : Int), .int .i64 s.k, .int .i64 s.f] := Blk.later (by (repeat (first | assumption | exact Blk.newAt _ _ _ (by first | (simp; done) | (simp; omega)) | refine Blk.alloc ?_ _ | refine Blk.drew ?_ | refine Blk.drewN ?_ _ | refine Blk.far ?_ (by first | (simp; done) | (simp; omega)) _))) hb
          have B1 : Blk w1 (w.heap.size + 1) 61 #[.slice none 0 0, .int .i64 0, .int .i64 0, .int .i64 0] := Blk.later (by (repeat (first | assumption | exact Blk.newAt _ _ _ (by first | (simp; done) | (simp; omega)) | refine Blk.alloc ?_ _ | refine Blk.drew ?_ | refine Blk.drewN ?_ _ | refine Blk.far ?_ (by first | (simp; done) | (simp; omega)) _))) hb
          have hbw1 : Below w.heap.size w w1 := by (repeat (first | with_reducible exact Below.refl _ _ | with_reducible assumption | (with_reducible refine below_alloc ?_ _) | (with_reducible refine Below.setCell ?_ (by first | omega | (simp; done) | (simp; omega)) _) | (with_reducible refine Below.drew ?_) | (with_reducible refine below_drewN ?_ _) | (refine below_then (by with_reducible assumption) ?_)))
          have hz1 := hb.size
          simp at hz1
          clear hb
          go_wp2_with fail
          refine (hBY.out _ (by (repeat (first | with_reducible exact Below.refl _ _ | with_reducible assumption | (with_reducible refine below_alloc ?_ _) | (with_reducible refine Below.setCell ?_ (by first | omega | (simp; done) | (simp; omega)) _) | (with_reducible refine Below.drew ?_) | (with_reducible refine below_drewN ?_ _) | (refine below_then (by with_reducible assumption) ?_))))).mono ?_
          rintro r w2 ⟨v, rfl, hr, hb⟩
          obtain ⟨aW, cW, hv, hr2, _⟩ := sl_form hr
          simp only [List.cons.injEq, and_true] at hv
          subst hv
          have HW2 := hid (rBytes.mono (S' := (· < w2.heap.size)) hr2 fun q hq => hq.2)
          have C0 := (B0.alloc _).later hb
          have C1 := (B1.alloc _).later hb
          have CD : Blk w2 w1.heap.size 61 #[.slice a B.length c, .int .i64 (sd.p : Int), .int .i64 sd.k, .int .i64 sd.f] := Blk.later (Blk.newAt w1 _ _ rfl) hb
          have hbw2 : Below w.heap.size w w2 := by (repeat (first | with_reducible exact Below.refl _ _ | with_reducible assumption | (with_reducible refine below_alloc ?_ _) | (with_reducible refine Below.setCell ?_ (by first | omega | (simp; done) | (simp; omega)) _) | (with_reducible refine Below.drew ?_) | (with_reducible refine below_drewN ?_ _) | (refine below_then (by with_reducible assumption) ?_)))
          have hz2 := hb.size
          simp at hz2
          clear hb hr hr2 B0 B1
          have hV2 : LInv w (w2.alloc (.cells #[.slice a B.length c, .int .i64 (se.p : Int), .int .i64 se.k, .int .i64 se.f] 61)) B a c s se w2.heap.size [] none 0 := ⟨C0.alloc _, C1.alloc _, Blk.newAt _ _ _ rfl, by omega, empty_bytes rfl rfl (by omega), by (repeat (first | with_reducible exact Below.refl _ _ | with_reducible assumption | (with_reducible refine below_alloc ?_ _) | (with_reducible refine Below.setCell ?_ (by first | omega | (simp; done) | (simp; omega)) _) | (with_reducible refine Below.drew ?_) | (with_reducible refine below_drewN ?_ _) | (refine below_then (by with_reducible assumption) ?_)))⟩
          have HV2 := hid hV2
          clear hV2
          obtain ⟨gw, ow, hA, hgw, hcw⟩ := byte_at HW2.out (i := 0) (by simp)
          subst hA
          simp at hcw
          obtain ⟨x0, x1, x2, x3, e0, e1, e2, e3, l0⟩ := c_blk CD
          clear C0 C1

          go_wp2_with fail
          refine (hTK.out _ (by (repeat (first | with_reducible exact Below.refl _ _ | with_reducible assumption | (with_reducible refine below_alloc ?_ _) | (with_reducible refine Below.setCell ?_ (by first | omega | (simp; done) | (simp; omega)) _) | (with_reducible refine Below.drew ?_) | (with_reducible refine below_drewN ?_ _) | (refine below_then (by with_reducible assumption) ?_))))).mono ?_
          rintro r w3 ⟨v, rfl, hr, hb⟩

          obtain ⟨a3, c3, hv, hr2, _⟩ := sl_form hr
          simp only [List.cons.injEq, and_true] at hv
          subst hv

          have hV3 := (HV2.out.later hb).data (rBytes.mono hr2 fun q hq => (⟨by have := hq.1; simp at this; omega, hq.2⟩ : w2.heap.size < q ∧ q < w3.heap.size))
          have HV3 := hid (hV3.set st)
          obtain ⟨x0, x1, x2, x3, e0, e1, e2, e3, l0⟩ := c_blk hV3.be
          clear hr hr2 hb hV3

          go_upto_region 21 with (fail)
          refine wp_world (fun V => LInv w V B a c s st w2.heap.size DT a3 c3) (HV3.out) ?_
          intro V hV
          clear x0 x1 x2 x3 e0 e1 e2 e3 l0

          obtain ⟨x0, x1, x2, x3, e0, e1, e2, e3, l0⟩ := c_blk hV.be
          obtain ⟨y0, y1, y2, y3, g0, g1, g2, g3, l1⟩ := c_blk hV.b1
          obtain ⟨z0, z1, z2, z3, f0, f1, f2, f3, l2⟩ := c_blk hV.b0
          have hbl := hV.bel
          have hlo := hV.lo
          have HDV := hid hV.dat
          have HV1 := hid hV.b1
          have hpl2 := HOKS.out.2.1
          obtain ⟨aC, cC, hsl, hsub⟩ := hcut.out V hbl st.p (by omega) hpl2
          have hlS : ((B.drop s.p).take (st.p - s.p)).length = st.p - s.p := by simp; omega
          generalize hS : (B.drop s.p).take (st.p - s.p) = SS at *
          have HS := hid hS
          have HLS := hid hlS
          have HSUB := hid hsub
          have HDW : Hid (rBytes.r (· < V.heap.size) V [.slice a3 DT.length c3] DT) := hid (rBytes.mono HDV.out fun q hq => hq.2)
          have HB := hid (fun (W : World) (hW : Below V.heap.size V W) => hBB.out W DT a3 c3 (lift HDW.out hW) (htl))
          clear hV hS hlS hsub
          generalize hBB2 : blockB DT = BB at *
          have HBB2 := hid hBB2
          clear hBB2
          have iz1 : (0 : Int) ≤ (s.p : Int) := by omega
          have iz2 : (s.p : Int) ≤ (st.p : Int) := by omega
          go_wp2_with fail
          refine wp_region_held_drew (S := fun w' => w'.cell? ⟨w2.heap.size, 0, none⟩ = some (.slice a B.length c) ∧ w'.cell? ⟨w2.heap.size, 1, none⟩ = some (.int .i64 (st.p : Int)) ∧ w'.cell? ⟨w2.heap.size, 2, none⟩ = some (.int .i64 st.k) ∧ w'.cell? ⟨w2.heap.size, 3, none⟩ = some (.int .i64 st.f) ∧ w'.cell? ⟨w.heap.size, 1, none⟩ = some (.int .i64 (s.p : Int))) (by kernel_rfl) ⟨x0, x1, x2, x3, z1⟩ (fun hHeld => ?_)
          refine wpAnyH_take (i := 0) (oi := _) (v := ?_) rfl (by decide +kernel) (by decide +kernel) (by decide +kernel) (fun _ _ _ h => h) (Or.inl ⟨by rfl, ?_⟩) (by assumption) ?_
          rotate_left
          · (intro w hSw; (try dsimp only at hSw); go_simp <;> with_reducible rfl)
          (try simp only [Act.put, List.setIfInBounds_toArray, List.set_cons_zero, List.set_cons_succ])
          refine wpAnyH_take (i := 1) (oi := _) (v := ?_) rfl (by decide +kernel) (by decide +kernel) (by decide +kernel) (fun _ _ _ h => h) (Or.inl ⟨by rfl, ?_⟩) (by assumption) ?_
          rotate_left
          · (intro w hSw; (try dsimp only at hSw); go_simp <;> with_reducible rfl)
          (try simp only [Act.put, List.setIfInBounds_toArray, List.set_cons_zero, List.set_cons_succ])
          refine wpAnyH_take (i := 2) (oi := _) (v := ?_) rfl (by decide +kernel) (by decide +kernel) (by decide +kernel) (fun _ _ _ h => h) (Or.inl ⟨by rfl, ?_⟩) (by assumption) ?_
          rotate_left
          · (intro w hSw; (try dsimp only at hSw); go_simp <;> with_reducible rfl)
          (try simp only [Act.put, List.setIfInBounds_toArray, List.set_cons_zero, List.set_cons_succ])
          refine wpAnyH_take (i := 4) (oi := _) (v := ?_) rfl (by decide +kernel) (by decide +kernel) (by decide +kernel) (fun _ _ _ h => h) (Or.inl ⟨by rfl, ?_⟩) (by assumption) ?_
          rotate_left
          · (intro w hSw; (try dsimp only at hSw); go_simp <;> with_reducible rfl)
          (try simp only [Act.put, List.setIfInBounds_toArray, List.set_cons_zero, List.set_cons_succ])
          refine wpAnyH_take (i := 5) (oi := _) (v := ?_) rfl (by decide +kernel) (by decide +kernel) (by decide +kernel) (fun _ _ _ h => h) (Or.inl ⟨by rfl, ?_⟩) (by assumption) ?_
          rotate_left
          · (intro w hSw; (try dsimp only at hSw); go_simp <;> with_reducible rfl)
          (try simp only [Act.put, List.setIfInBounds_toArray, List.set_cons_zero, List.set_cons_succ])
          refine wpAnyH_take (i := 6) (oi := _) (v := ?_) rfl (by decide +kernel) (by decide +kernel) (by decide +kernel) (fun _ _ _ h => h) (Or.inl ⟨by rfl, ?_⟩) (by assumption) ?_
          rotate_left
          · (intro w hSw; (try dsimp only at hSw); go_simp <;> with_reducible rfl)
          (try simp only [Act.put, List.setIfInBounds_toArray, List.set_cons_zero, List.set_cons_succ])
          refine wpAnyH_take (i := 7) (oi := _) (v := ?_) rfl (by decide +kernel) (by decide +kernel) (by decide +kernel) (fun _ _ _ h => h) (Or.inl ⟨by rfl, ?_⟩) (by assumption) ?_
          rotate_left
          · (intro w hSw; (try dsimp only at hSw); go_simp <;> with_reducible rfl)
          (try simp only [Act.put, List.setIfInBounds_toArray, List.set_cons_zero, List.set_cons_succ])
          refine wpAnyH_take (i := 8) (oi := _) (v := ?_) rfl (by decide +kernel) (by decide +kernel) (by decide +kernel) (fun _ _ _ h => h) (Or.inl ⟨by rfl, ?_⟩) (by assumption) ?_
          rotate_left
          · (intro w hSw; (try dsimp only at hSw); go_simp <;> with_reducible rfl)
          (try simp only [Act.put, List.setIfInBounds_toArray, List.set_cons_zero, List.set_cons_succ])
          refine wpAnyH_take (i := 9) (oi := _) (v := ?_) rfl (by decide +kernel) (by decide +kernel) (by decide +kernel) (fun _ _ _ h => h) (Or.inl ⟨by rfl, ?_⟩) (by assumption) ?_
          rotate_left
          · (intro w hSw; (try dsimp only at hSw); go_simp <;> with_reducible rfl)
          (try simp only [Act.put, List.setIfInBounds_toArray, List.set_cons_zero, List.set_cons_succ])
          refine wpAnyH_take (i := 10) (oi := _) (v := ?_) rfl (by decide +kernel) (by decide +kernel) (by decide +kernel) (fun _ _ _ h => h) (Or.inl ⟨by rfl, ?_⟩) (by assumption) ?_
          rotate_left
          · (intro w hSw; (try dsimp only at hSw); go_simp <;> with_reducible rfl)
          (try simp only [Act.put, List.setIfInBounds_toArray, List.set_cons_zero, List.set_cons_succ])
          refine wpAnyH_ready (rs := [3]) (by decide +kernel) (by simp) ?_
          refine AllReadyH.cons (o := _) rfl (fun K hK => ?_) AllReadyH.nil
          (go_simp; go_at_call 30; refine (HB.out _ (by (repeat (first | with_reducible exact Below.refl _ _ | with_reducible assumption | (with_reducible refine below_alloc ?_ _) | (with_reducible refine Below.setCell ?_ (by first | omega | (simp; done) | (simp; omega)) _) | (with_reducible refine Below.drew ?_) | (with_reducible refine below_drewN ?_ _) | (refine below_then (by with_reducible assumption) ?_))))).mono ?_; rintro e w8 ⟨v8, rfl, hr8, hb8⟩; obtain ⟨a8, c8, hv8, hr8', _⟩ := sl_form hr8; simp only [List.cons.injEq, and_true] at hv8; subst hv8; have hbv8 : Below V.heap.size V w8 := (by (repeat (first | with_reducible exact Below.refl _ _ | with_reducible assumption | (with_reducible refine below_alloc ?_ _) | (with_reducible refine Below.setCell ?_ (by first | omega | (simp; done) | (simp; omega)) _) | (with_reducible refine Below.drew ?_) | (with_reducible refine below_drewN ?_ _) | (refine below_then (by with_reducible assumption) ?_)))); have k0 := (hbv8.cell (p := ⟨w2.heap.size, 0, none⟩) l0).trans x0; have k1 := (hbv8.cell (p := ⟨w2.heap.size, 1, none⟩) l0).trans x1; have k2 := (hbv8.cell (p := ⟨w2.heap.size, 2, none⟩) l0).trans x2; have k3 := (hbv8.cell (p := ⟨w2.heap.size, 3, none⟩) l0).trans x3; have k4 := (hbv8.cell (p := ⟨w.heap.size, 1, none⟩) l2).trans z1; have B8 := HV1.out.later hbv8; obtain ⟨m0, m1, m2, m3, p0, p1, p2, p3, l8⟩ := c_blk B8; have HR8 := hid hr8'; have HB8 := hid hbv8; have hs8 := hbv8.size; clear B8 y0 y1 y2 y3 g0 g1 g2 g3 l1; clear hr8 hr8' hb8 hbv8; (try dsimp only))
          refine hK.out _ _ ?_ (fun hHeld => ?_)
          · ((try dsimp only); refine ⟨?_, ?_, ?_, ?_, ?_⟩ <;> (first | assumption | (go_keep; done)))
          clear hK K
          (try simp only [Act.put, List.setIfInBounds_toArray, List.set_cons_zero, List.set_cons_succ])
          refine wpAnyH_ready (rs := [11]) (by decide +kernel) (by simp) ?_
          refine AllReadyH.cons (o := _) rfl (fun K hK => ?_) AllReadyH.nil
          (go_simp; go_at_call 20; refine (same_bytes BB SS a8 aC _ c8 _ cC _ (rBytes.mono HR8.out fun q hq => hq.2) (lift HSUB.out HB8.out)).mono ?_; rintro e w9 ⟨rfl, rfl⟩; (try dsimp only))
          refine hK.out _ _ ?_ (fun hHeld => ?_)
          · ((try dsimp only); refine ⟨?_, ?_, ?_, ?_, ?_⟩ <;> (first | assumption | (go_keep; done)))
          clear hK K
          (try simp only [Act.put, List.setIfInBounds_toArray, List.set_cons_zero, List.set_cons_succ])
          refine wpAnyH_ready (rs := [12]) (by decide +kernel) (by simp) ?_
          refine AllReadyH.cons (o := _) rfl (fun K hK => ?_) AllReadyH.nil
          go_simp
          refine hK.out _ _ ?_ (fun hHeld => ?_)
          · refine ⟨?_, ?_, ?_, ?_, ?_⟩
            all_goals
              rw [World.cell?_setCell_far _ _ _ _ (by dsimp only; omega), World.cell?_setCell_far _ _ _ _ (by dsimp only; omega), World.cell?_setCell_far _ _ _ _ (by dsimp only; omega), World.cell?_setCell_far _ _ _ _ (by dsimp only; omega)]
              assumption
          clear hK K
          (try simp only [Act.put, List.setIfInBounds_toArray, List.set_cons_zero, List.set_cons_succ])
          refine wpAnyH_take (i := 13) (oi := _) (v := ?_) rfl (by decide +kernel) (by decide +kernel) (by decide +kernel) (fun _ _ _ h => h) (Or.inl ⟨by rfl, ?_⟩) (by assumption) ?_
          rotate_left
          · (intro w hSw; (try dsimp only at hSw); go_simp <;> with_reducible rfl)
          (try simp only [Act.put, List.setIfInBounds_toArray, List.set_cons_zero, List.set_cons_succ])
          refine wpAnyH_take (i := 14) (oi := _) (v := ?_) rfl (by decide +kernel) (by decide +kernel) (by decide +kernel) (fun _ _ _ h => h) (Or.inl ⟨by rfl, ?_⟩) (by assumption) ?_
          rotate_left
          · (intro w hSw; (try dsimp only at hSw); go_simp <;> with_reducible rfl)
          (try simp only [Act.put, List.setIfInBounds_toArray, List.set_cons_zero, List.set_cons_succ])
          simp only [List.getElem_toArray, List.getElem_cons_zero, List.getElem_cons_succ, Act.put, List.setIfInBounds_toArray, List.set_cons_zero, List.set_cons_succ]
          refine wpAnyH_done (by kernel_rfl) ?_ _
          have hbe8 : Below w.heap.size w w8 := below_then HB8.out hbl
          go_wp2
          refine bodyPost_ret (v := .tuple #[.agg #[.slice a B.length c, .int .i64 (st.p : Int), .int .i64 st.k, .int .i64 st.f], .slice a3 DT.length c3, .bool (decide (BB = SS))]) (by simp [results, Try.results50, go_sem, m0, m1, m2, m3, l8]) rfl ⟨_, by rw [HS.out, HBB2.out], ?_, by (repeat (first | with_reducible exact Below.refl _ _ | with_reducible assumption | (with_reducible refine below_alloc ?_ _) | (with_reducible refine Below.setCell ?_ (by first | omega | (simp; done) | (simp; omega)) _) | (with_reducible refine Below.drew ?_) | (with_reducible refine below_drewN ?_ _) | (refine below_then (by with_reducible assumption) ?_)))⟩
          refine rBytes.mono (rBytes.keep (rBytes.keep HDV.out fun q hq => HB8.out.block q hq.2) fun q hq => ?_) fun q hq => ⟨by omega, by simp [World.setCell]; omega⟩
          repeat (rw [Below.heap_setCell _ _ _ _ (by dsimp only; omega)])
      · have dt : (st.k != (0 : Int)) = true := by simp [ht]
        rw [if_neg ht]
        clear ht
        dsimp only
        go_enter Try.func50, Try.ntmps50
        cases qm
        all_goals
          simp only [if_true, if_false, Bool.false_eq_true] at hI
          go_wp2_with fail
          refine (hI.out _ (by (repeat (first | with_reducible exact Below.refl _ _ | with_reducible assumption | (with_reducible refine below_alloc ?_ _) | (with_reducible refine Below.setCell ?_ (by first | omega | (simp; done) | (simp; omega)) _) | (with_reducible refine Below.drew ?_) | (with_reducible refine below_drewN ?_ _) | (refine below_then (by with_reducible assumption) ?_))))).mono ?_
          rintro r w1 ⟨rfl, hb⟩
          have B0 : Blk w1 w.heap.size 61 #[.slice a B.length c, .int .i64 (s.p : Int), .int .i64 s.k, .int .i64 s.f] := Blk.later (by (repeat (first | assumption | exact Blk.newAt _ _ _ (by first | (simp; done) | (simp; omega)) | refine Blk.alloc ?_ _ | refine Blk.drew ?_ | refine Blk.drewN ?_ _ | refine Blk.far ?_ (by first | (simp; done) | (simp; omega)) _))) hb
          have B1 : Blk w1 (w.heap.size + 1) 61 #[.slice none 0 0, .int .i64 0, .int .i64 0, .int .i64 0] := Blk.later (by (repeat (first | assumption | exact Blk.newAt _ _ _ (by first | (simp; done) | (simp; omega)) | refine Blk.alloc ?_ _ | refine Blk.drew ?_ | refine Blk.drewN ?_ _ | refine Blk.far ?_ (by first | (simp; done) | (simp; omega)) _))) hb
          have hbw1 : Below w.heap.size w w1 := by (repeat (first | with_reducible exact Below.refl _ _ | with_reducible assumption | (with_reducible refine below_alloc ?_ _) | (with_reducible refine Below.setCell ?_ (by first | omega | (simp; done) | (simp; omega)) _) | (with_reducible refine Below.drew ?_) | (with_reducible refine below_drewN ?_ _) | (refine below_then (by with_reducible assumption) ?_)))
          have hz1 := hb.size
          simp at hz1
          clear hb
          go_wp2_with fail
          refine (hBY.out _ (by (repeat (first | with_reducible exact Below.refl _ _ | with_reducible assumption | (with_reducible refine below_alloc ?_ _) | (with_reducible refine Below.setCell ?_ (by first | omega | (simp; done) | (simp; omega)) _) | (with_reducible refine Below.drew ?_) | (with_reducible refine below_drewN ?_ _) | (refine below_then (by with_reducible assumption) ?_))))).mono ?_
          rintro r w2 ⟨v, rfl, hr, hb⟩
          obtain ⟨aW, cW, hv, hr2, _⟩ := sl_form hr
          simp only [List.cons.injEq, and_true] at hv
          subst hv
          have HW2 := hid (rBytes.mono (S' := (· < w2.heap.size)) hr2 fun q hq => hq.2)
          have C0 := (B0.alloc _).later hb
          have C1 := (B1.alloc _).later hb
          have CD : Blk w2 w1.heap.size 61 #[.slice a B.length c, .int .i64 (sd.p : Int), .int .i64 sd.k, .int .i64 sd.f] := Blk.later (Blk.newAt w1 _ _ rfl) hb
          have hbw2 : Below w.heap.size w w2 := by (repeat (first | with_reducible exact Below.refl _ _ | with_reducible assumption | (with_reducible refine below_alloc ?_ _) | (with_reducible refine Below.setCell ?_ (by first | omega | (simp; done) | (simp; omega)) _) | (with_reducible refine Below.drew ?_) | (with_reducible refine below_drewN ?_ _) | (refine below_then (by with_reducible assumption) ?_)))
          have hz2 := hb.size
          simp at hz2
          clear hb hr hr2 B0 B1
          have hV2 : LInv w (w2.alloc (.cells #[.slice a B.length c, .int .i64 (se.p : Int), .int .i64 se.k, .int .i64 se.f] 61)) B a c s se w2.heap.size [] none 0 := ⟨C0.alloc _, C1.alloc _, Blk.newAt _ _ _ rfl, by omega, empty_bytes rfl rfl (by omega), by (repeat (first | with_reducible exact Below.refl _ _ | with_reducible assumption | (with_reducible refine below_alloc ?_ _) | (with_reducible refine Below.setCell ?_ (by first | omega | (simp; done) | (simp; omega)) _) | (with_reducible refine Below.drew ?_) | (with_reducible refine below_drewN ?_ _) | (refine below_then (by with_reducible assumption) ?_)))⟩
          have HV2 := hid hV2
          clear hV2
          obtain ⟨gw, ow, hA, hgw, hcw⟩ := byte_at HW2.out (i := 0) (by simp)
          subst hA
          simp at hcw
          obtain ⟨x0, x1, x2, x3, e0, e1, e2, e3, l0⟩ := c_blk CD
          clear C0 C1

          go_wp2_with fail
          refine (hTK.out _ (by (repeat (first | with_reducible exact Below.refl _ _ | with_reducible assumption | (with_reducible refine below_alloc ?_ _) | (with_reducible refine Below.setCell ?_ (by first | omega | (simp; done) | (simp; omega)) _) | (with_reducible refine Below.drew ?_) | (with_reducible refine below_drewN ?_ _) | (refine below_then (by with_reducible assumption) ?_))))).mono ?_
          rintro r w3 ⟨v, rfl, hr, hb⟩

          obtain ⟨a3, c3, hv, hr2, _⟩ := sl_form hr
          simp only [List.cons.injEq, and_true] at hv
          subst hv

          have hV3 := (HV2.out.later hb).data (rBytes.mono hr2 fun q hq => (⟨by have := hq.1; simp at this; omega, hq.2⟩ : w2.heap.size < q ∧ q < w3.heap.size))
          have HV3 := hid (hV3.set st)
          obtain ⟨x0, x1, x2, x3, e0, e1, e2, e3, l0⟩ := c_blk hV3.be
          clear hr hr2 hb hV3

          go_upto_region 21 with (fail)
          refine wp_world (fun V => LInv w V B a c s st w2.heap.size DT a3 c3) (HV3.out) ?_
          intro V hV
          clear x0 x1 x2 x3 e0 e1 e2 e3 l0

          obtain ⟨x0, x1, x2, x3, e0, e1, e2, e3, l0⟩ := c_blk hV.be
          obtain ⟨y0, y1, y2, y3, g0, g1, g2, g3, l1⟩ := c_blk hV.b1
          have hbl := hV.bel
          go_wp2
          refine bodyPost_ret (v := .tuple #[.agg #[.slice a B.length c, .int .i64 (st.p : Int), .int .i64 st.k, .int .i64 st.f], .slice none 0 0, .bool false]) (by simp [results, Try.results50, go_sem, y0, y1, y2, y3, l1]) rfl ⟨_, rfl, empty_bytes rfl rfl (by omega), by (repeat (first | with_reducible exact Below.refl _ _ | with_reducible assumption | (with_reducible refine below_alloc ?_ _) | (with_reducible refine Below.setCell ?_ (by first | omega | (simp; done) | (simp; omega)) _) | (with_reducible refine Below.drew ?_) | (with_reducible refine below_drewN ?_ _) | (refine below_then (by with_reducible assumption) ?_)))⟩
    · have d0 : ((y.toNat : Int) == 0) = false := by rw [beq_eq_false_iff_ne]; omega
      rw [if_neg h0]
      by_cases h1 : y.toNat = 1
      · have d1 : decide ((1 : Int) < (y.toNat : Int)) = false := decide_eq_false (by omega)
        have d1' : decide (1 < y.toNat) = false := decide_eq_false (by omega)
        rw [if_pos h1]
        clear h0 h1
        by_cases hb : sb.k = 0
        · have db : (sb.k == (0 : Int)) = true := by simp [hb]
          rw [if_pos hb] at hUeq
          by_cases hx : kx = 0
          · have dx : (kx != (0 : Int)) = false := by simp [hx]
            rw [if_pos hx] at hUeq
            by_cases hn : DX.length < n
            · have dn : decide ((DX.length : Int) < (n : Int)) = true := decide_eq_true (by omega)
              have dn' : decide (DX.length < n) = true := decide_eq_true hn
              rw [if_pos hn] at hUeq
              subst hUeq
              dsimp only
              rw [if_neg hfk3]
              have dt : (F3.k != (0 : Int)) = true := by simp [hfk3]
              clear hb hx hn
              dsimp only
              go_enter Try.func50, Try.ntmps50
              cases qm
              all_goals
                simp only [if_true, if_false, Bool.false_eq_true] at hI
                go_wp2_with fail
                refine (hI.out _ (by (repeat (first | with_reducible exact Below.refl _ _ | with_reducible assumption | (with_reducible refine below_alloc ?_ _) | (with_reducible refine Below.setCell ?_ (by first | omega | (simp; done) | (simp; omega)) _) | (with_reducible refine Below.drew ?_) | (with_reducible refine below_drewN ?_ _) | (refine below_then (by with_reducible assumption) ?_))))).mono ?_
                rintro r w1 ⟨rfl, hb⟩
                have B0 : Blk w1 w.heap.size 61 #[.slice a B.length c, .int .i64 (s.p : Int), .int .i64 s.k, .int .i64 s.f] := Blk.later (by (repeat (first | assumption | exact Blk.newAt _ _ _ (by first | (simp; done) | (simp; omega)) | refine Blk.alloc ?_ _ | refine Blk.drew ?_ | refine Blk.drewN ?_ _ | refine Blk.far ?_ (by first | (simp; done) | (simp; omega)) _))) hb
                have B1 : Blk w1 (w.heap.size + 1) 61 #[.slice none 0 0, .int .i64 0, .int .i64 0, .int .i64 0] := Blk.later (by (repeat (first | assumption | exact Blk.newAt _ _ _ (by first | (simp; done) | (simp; omega)) | refine Blk.alloc ?_ _ | refine Blk.drew ?_ | refine Blk.drewN ?_ _ | refine Blk.far ?_ (by first | (simp; done) | (simp; omega)) _))) hb
                have hbw1 : Below w.heap.size w w1 := by (repeat (first | with_reducible exact Below.refl _ _ | with_reducible assumption | (with_reducible refine below_alloc ?_ _) | (with_reducible refine Below.setCell ?_ (by first | omega | (simp; done) | (simp; omega)) _) | (with_reducible refine Below.drew ?_) | (with_reducible refine below_drewN ?_ _) | (refine below_then (by with_reducible assumption) ?_)))
                have hz1 := hb.size
                simp at hz1
                clear hb
                go_wp2_with fail
                refine (hBY.out _ (by (repeat (first | with_reducible exact Below.refl _ _ | with_reducible assumption | (with_reducible refine below_alloc ?_ _) | (with_reducible refine Below.setCell ?_ (by first | omega | (simp; done) | (simp; omega)) _) | (with_reducible refine Below.drew ?_) | (with_reducible refine below_drewN ?_ _) | (refine below_then (by with_reducible assumption) ?_))))).mono ?_
                rintro r w2 ⟨v, rfl, hr, hb⟩
                obtain ⟨aW, cW, hv, hr2, _⟩ := sl_form hr
                simp only [List.cons.injEq, and_true] at hv
                subst hv
                have HW2 := hid (rBytes.mono (S' := (· < w2.heap.size)) hr2 fun q hq => hq.2)
                have C0 := (B0.alloc _).later hb
                have C1 := (B1.alloc _).later hb
                have CD : Blk w2 w1.heap.size 61 #[.slice a B.length c, .int .i64 (sd.p : Int), .int .i64 sd.k, .int .i64 sd.f] := Blk.later (Blk.newAt w1 _ _ rfl) hb
                have hbw2 : Below w.heap.size w w2 := by (repeat (first | with_reducible exact Below.refl _ _ | with_reducible assumption | (with_reducible refine below_alloc ?_ _) | (with_reducible refine Below.setCell ?_ (by first | omega | (simp; done) | (simp; omega)) _) | (with_reducible refine Below.drew ?_) | (with_reducible refine below_drewN ?_ _) | (refine below_then (by with_reducible assumption) ?_)))
                have hz2 := hb.size
                simp at hz2
                clear hb hr hr2 B0 B1
                have hV2 : LInv w (w2.alloc (.cells #[.slice a B.length c, .int .i64 (se.p : Int), .int .i64 se.k, .int .i64 se.f] 61)) B a c s se w2.heap.size [] none 0 := ⟨C0.alloc _, C1.alloc _, Blk.newAt _ _ _ rfl, by omega, empty_bytes rfl rfl (by omega), by (repeat (first | with_reducible exact Below.refl _ _ | with_reducible assumption | (with_reducible refine below_alloc ?_ _) | (with_reducible refine Below.setCell ?_ (by first | omega | (simp; done) | (simp; omega)) _) | (with_reducible refine Below.drew ?_) | (with_reducible refine below_drewN ?_ _) | (refine below_then (by with_reducible assumption) ?_)))⟩
                have HV2 := hid hV2
                clear hV2
                obtain ⟨gw, ow, hA, hgw, hcw⟩ := byte_at HW2.out (i := 0) (by simp)
                subst hA
                simp at hcw
                obtain ⟨x0, x1, x2, x3, e0, e1, e2, e3, l0⟩ := c_blk CD
                clear C0 C1

                go_wp2_with fail
                refine (hBL.out _ (by (repeat (first | with_reducible exact Below.refl _ _ | with_reducible assumption | (with_reducible refine below_alloc ?_ _) | (with_reducible refine Below.setCell ?_ (by first | omega | (simp; done) | (simp; omega)) _) | (with_reducible refine Below.drew ?_) | (with_reducible refine below_drewN ?_ _) | (refine below_then (by with_reducible assumption) ?_))))).mono ?_
                rintro r w3 ⟨v, rfl, hr, hb⟩

                obtain ⟨a3, c3, hv, hr2, _⟩ := sl_form hr
                simp only [List.cons.injEq, and_true] at hv
                subst hv

                have hV3 := (HV2.out.later hb).data (rBytes.mono hr2 fun q hq => (⟨by have := hq.1; simp at this; omega, hq.2⟩ : w2.heap.size < q ∧ q < w3.heap.size))
                have HV3 := hid ((hV3.set sb).later (below_alloc (Below.refl _ _) (.cells #[.slice a B.length c, .int .i64 (sb.p : Int), .int .i64 sb.k, .int .i64 sb.f] 61)))
                obtain ⟨x0, x1, x2, x3, e0, e1, e2, e3, l0⟩ := c_blk hV3.be
                clear hr hr2 hb hV3

                go_upto_region 14 with (fail)
                refine wp_world (fun V => LInv w V B a c s sb w2.heap.size TB a3 c3) (HV3.out) ?_
                intro V hV
                clear x0 x1 x2 x3 e0 e1 e2 e3 l0

                have HVV := hid hV
                obtain ⟨x0, x1, x2, x3, e0, e1, e2, e3, l0⟩ := c_blk hV.be
                clear hV
                go_wp2_with fail
                refine (hX.out V a3 _ c3 (rBytes.mono HVV.out.dat fun q hq => hq.2)).mono ?_
                rintro r w4 ⟨v, rfl, hr, hb⟩

                obtain ⟨a4, c4, hv, hr2, _⟩ := sl_form hr
                simp only [List.cons.injEq, and_true] at hv
                subst hv

                have hzV := HVV.out.be.lt
                have hV4 := (HVV.out.later hb).data (rBytes.mono hr2 fun q hq => (⟨by omega, hq.2⟩ : w2.heap.size < q ∧ q < w4.heap.size))
                have HV4 := hid hV4
                clear hr hr2 hb hV4 x0 x1 x2 x3 e0 e1 e2 e3 l0
                obtain ⟨x0, x1, x2, x3, e0, e1, e2, e3, l0⟩ := c_blk HV4.out.be

                go_wp2_with fail
                refine (hF3.out _).mono ?_
                rintro r w5 ⟨rfl, hb⟩
                have hb45 : Below w4.heap.size w4 w5 := by (repeat (first | with_reducible exact Below.refl _ _ | with_reducible assumption | (with_reducible refine below_alloc ?_ _) | (with_reducible refine Below.setCell ?_ (by first | omega | (simp; done) | (simp; omega)) _) | (with_reducible refine Below.drew ?_) | (with_reducible refine below_drewN ?_ _) | (refine below_then (by with_reducible assumption) ?_)))
                have HV5 := hid ((HV4.out.later hb45).set F3)
                have hV5 := HV4.out.later hb45
                clear x0 x1 x2 x3 e0 e1 e2 e3 l0
                obtain ⟨x0, x1, x2, x3, e0, e1, e2, e3, l0⟩ := c_blk hV5.be
                clear hb hV5

                go_upto_region 21 with (fail)
                refine wp_world (fun V => LInv w V B a c s F3 w2.heap.size DX a4 c4) (HV5.out) ?_
                intro V hV
                clear x0 x1 x2 x3 e0 e1 e2 e3 l0

                obtain ⟨x0, x1, x2, x3, e0, e1, e2, e3, l0⟩ := c_blk hV.be
                obtain ⟨y0, y1, y2, y3, g0, g1, g2, g3, l1⟩ := c_blk hV.b1
                have hbl := hV.bel
                go_wp2
                refine bodyPost_ret (v := .tuple #[.agg #[.slice a B.length c, .int .i64 (F3.p : Int), .int .i64 F3.k, .int .i64 F3.f], .slice none 0 0, .bool false]) (by simp [results, Try.results50, go_sem, y0, y1, y2, y3, l1]) rfl ⟨_, rfl, empty_bytes rfl rfl (by omega), by (repeat (first | with_reducible exact Below.refl _ _ | with_reducible assumption | (with_reducible refine below_alloc ?_ _) | (with_reducible refine Below.setCell ?_ (by first | omega | (simp; done) | (simp; omega)) _) | (with_reducible refine Below.drew ?_) | (with_reducible refine below_drewN ?_ _) | (refine below_then (by with_reducible assumption) ?_)))⟩
            · have dn : decide ((DX.length : Int) < (n : Int)) = false := decide_eq_false (by omega)
              have dn' : decide (DX.length < n) = false := decide_eq_false hn
              rw [if_neg hn] at hUeq
              subst hUeq
              dsimp only
              rw [if_pos hb]
              have dt : (sb.k != (0 : Int)) = false := by simp [hb]
              clear hb hx hn
              dsimp only
              go_enter Try.func50, Try.ntmps50
              cases qm
              all_goals
                simp only [if_true, if_false, Bool.false_eq_true] at hI
                go_wp2_with fail
                refine (hI.out _ (by (repeat (first | with_reducible exact Below.refl _ _ | with_reducible assumption | (with_reducible refine below_alloc ?_ _) | (with_reducible refine Below.setCell ?_ (by first | omega | (simp; done) | (simp; omega)) _) | (with_reducible refine Below.drew ?_) | (with_reducible refine below_drewN ?_ _) | (refine below_then (by with_reducible assumption) ?_))))).mono ?_
                rintro r w1 ⟨rfl, hb⟩
                have B0 : Blk w1 w.heap.size 61 #[.slice a B.length c, .int .i64 (s.p : Int), .int .i64 s.k, .int .i64 s.f] := Blk.later (by (repeat (first | assumption | exact Blk.newAt _ _ _ (by first | (simp; done) | (simp; omega)) | refine Blk.alloc ?_ _ | refine Blk.drew ?_ | refine Blk.drewN ?_ _ | refine Blk.far ?_ (by first | (simp; done) | (simp; omega)) _))) hb
                have B1 : Blk w1 (w.heap.size + 1) 61 #[.slice none 0 0, .int .i64 0, .int .i64 0, .int .i64 0] := Blk.later (by (repeat (first | assumption | exact Blk.newAt _ _ _ (by first | (simp; done) | (simp; omega)) | refine Blk.alloc ?_ _ | refine Blk.drew ?_ | refine Blk.drewN ?_ _ | refine Blk.far ?_ (by first | (simp; done) | (simp; omega)) _))) hb
                have hbw1 : Below w.heap.size w w1 := by (repeat (first | with_reducible exact Below.refl _ _ | with_reducible assumption | (with_reducible refine below_alloc ?_ _) | (with_reducible refine Below.setCell ?_ (by first | omega | (simp; done) | (simp; omega)) _) | (with_reducible refine Below.drew ?_) | (with_reducible refine below_drewN ?_ _) | (refine below_then (by with_reducible assumption) ?_)))
                have hz1 := hb.size
                simp at hz1
                clear hb
                go_wp2_with fail
                refine (hBY.out _ (by (repeat (first | with_reducible exact Below.refl _ _ | with_reducible assumption | (with_reducible refine below_alloc ?_ _) | (with_reducible refine Below.setCell ?_ (by first | omega | (simp; done) | (simp; omega)) _) | (with_reducible refine Below.drew ?_) | (with_reducible refine below_drewN ?_ _) | (refine below_then (by with_reducible assumption) ?_))))).mono ?_
                rintro r w2 ⟨v, rfl, hr, hb⟩
                obtain ⟨aW, cW, hv, hr2, _⟩ := sl_form hr
                simp only [List.cons.injEq, and_true] at hv
                subst hv
                have HW2 := hid (rBytes.mono (S' := (· < w2.heap.size)) hr2 fun q hq => hq.2)
                have C0 := (B0.alloc _).later hb
                have C1 := (B1.alloc _).later hb
                have CD : Blk w2 w1.heap.size 61 #[.slice a B.length c, .int .i64 (sd.p : Int), .int .i64 sd.k, .int .i64 sd.f] := Blk.later (Blk.newAt w1 _ _ rfl) hb
                have hbw2 : Below w.heap.size w w2 := by (repeat (first | with_reducible exact Below.refl _ _ | with_reducible assumption | (with_reducible refine below_alloc ?_ _) | (with_reducible refine Below.setCell ?_ (by first | omega | (simp; done) | (simp; omega)) _) | (with_reducible refine Below.drew ?_) | (with_reducible refine below_drewN ?_ _) | (refine below_then (by with_reducible assumption) ?_)))
                have hz2 := hb.size
                simp at hz2
                clear hb hr hr2 B0 B1
                have hV2 : LInv w (w2.alloc (.cells #[.slice a B.length c, .int .i64 (se.p : Int), .int .i64 se.k, .int .i64 se.f] 61)) B a c s se w2.heap.size [] none 0 := ⟨C0.alloc _, C1.alloc _, Blk.newAt _ _ _ rfl, by omega, empty_bytes rfl rfl (by omega), by (repeat (first | with_reducible exact Below.refl _ _ | with_reducible assumption | (with_reducible refine below_alloc ?_ _) | (with_reducible refine Below.setCell ?_ (by first | omega | (simp; done) | (simp; omega)) _) | (with_reducible refine Below.drew ?_) | (with_reducible refine below_drewN ?_ _) | (refine below_then (by with_reducible assumption) ?_)))⟩
                have HV2 := hid hV2
                clear hV2
                obtain ⟨gw, ow, hA, hgw, hcw⟩ := byte_at HW2.out (i := 0) (by simp)
                subst hA
                simp at hcw
                obtain ⟨x0, x1, x2, x3, e0, e1, e2, e3, l0⟩ := c_blk CD
                clear C0 C1

                go_wp2_with fail
                refine (hBL.out _ (by (repeat (first | with_reducible exact Below.refl _ _ | with_reducible assumption | (with_reducible refine below_alloc ?_ _) | (with_reducible refine Below.setCell ?_ (by first | omega | (simp; done) | (simp; omega)) _) | (with_reducible refine Below.drew ?_) | (with_reducible refine below_drewN ?_ _) | (refine below_then (by with_reducible assumption) ?_))))).mono ?_
                rintro r w3 ⟨v, rfl, hr, hb⟩

                obtain ⟨a3, c3, hv, hr2, _⟩ := sl_form hr
                simp only [List.cons.injEq, and_true] at hv
                subst hv

                have hV3 := (HV2.out.later hb).data (rBytes.mono hr2 fun q hq => (⟨by have := hq.1; simp at this; omega, hq.2⟩ : w2.heap.size < q ∧ q < w3.heap.size))
                have HV3 := hid ((hV3.set sb).later (below_alloc (Below.refl _ _) (.cells #[.slice a B.length c, .int .i64 (sb.p : Int), .int .i64 sb.k, .int .i64 sb.f] 61)))
                obtain ⟨x0, x1, x2, x3, e0, e1, e2, e3, l0⟩ := c_blk hV3.be
                clear hr hr2 hb hV3

                go_upto_region 14 with (fail)
                refine wp_world (fun V => LInv w V B a c s sb w2.heap.size TB a3 c3) (HV3.out) ?_
                intro V hV
                clear x0 x1 x2 x3 e0 e1 e2 e3 l0

                have HVV := hid hV
                obtain ⟨x0, x1, x2, x3, e0, e1, e2, e3, l0⟩ := c_blk hV.be
                clear hV
                go_wp2_with fail
                refine (hX.out V a3 _ c3 (rBytes.mono HVV.out.dat fun q hq => hq.2)).mono ?_
                rintro r w4 ⟨v, rfl, hr, hb⟩

                obtain ⟨a4, c4, hv, hr2, _⟩ := sl_form hr
                simp only [List.cons.injEq, and_true] at hv
                subst hv

                have hzV := HVV.out.be.lt
                have hV4 := (HVV.out.later hb).data (rBytes.mono hr2 fun q hq => (⟨by omega, hq.2⟩ : w2.heap.size < q ∧ q < w4.heap.size))
                have HV4 := hid hV4
                clear hr hr2 hb hV4 x0 x1 x2 x3 e0 e1 e2 e3 l0
                obtain ⟨x0, x1, x2, x3, e0, e1, e2, e3, l0⟩ := c_blk HV4.out.be

                go_upto_region 21 with (fail)
                refine wp_world (fun V => LInv w V B a c s sb w2.heap.size DX a4 c4) (HV4.out.later (below_alloc (Below.refl _ _) (.cells #[.int .i64 kx, .int .i64 fx] 48))) ?_
                intro V hV
                clear x0 x1 x2 x3 e0 e1 e2 e3 l0

                obtain ⟨x0, x1, x2, x3, e0, e1, e2, e3, l0⟩ := c_blk hV.be
                obtain ⟨y0, y1, y2, y3, g0, g1, g2, g3, l1⟩ := c_blk hV.b1
                obtain ⟨z0, z1, z2, z3, f0, f1, f2, f3, l2⟩ := c_blk hV.b0
                have hbl := hV.bel
                have hlo := hV.lo
                have HDV := hid hV.dat
                have HV1 := hid hV.b1
                have hpl2 := HOKS.out.2.2
                obtain ⟨aC, cC, hsl, hsub⟩ := hcut.out V hbl sb.p (by omega) hpl2
                have hlS : ((B.drop s.p).take (sb.p - s.p)).length = sb.p - s.p := by simp; omega
                generalize hS : (B.drop s.p).take (sb.p - s.p) = SS at *
                have HS := hid hS
                have HLS := hid hlS
                have HSUB := hid hsub
                have HDW : Hid (rBytes.r (· < V.heap.size) V [.slice a4 DX.length c4] DX) := hid (rBytes.mono HDV.out fun q hq => hq.2)
                have HB := hid (fun (W : World) (hW : Below V.heap.size V W) => hBB.out W DX a4 c4 (lift HDW.out hW) (by have := hxf.1; omega))
                clear hV hS hlS hsub
                generalize hBB2 : blockB DX = BB at *
                have HBB2 := hid hBB2
                clear hBB2
                have iz1 : (0 : Int) ≤ (s.p : Int) := by omega
                have iz2 : (s.p : Int) ≤ (sb.p : Int) := by omega
                go_wp2_with fail
                refine wp_region_held_drew (S := fun w' => w'.cell? ⟨w2.heap.size, 0, none⟩ = some (.slice a B.length c) ∧ w'.cell? ⟨w2.heap.size, 1, none⟩ = some (.int .i64 (sb.p : Int)) ∧ w'.cell? ⟨w2.heap.size, 2, none⟩ = some (.int .i64 sb.k) ∧ w'.cell? ⟨w2.heap.size, 3, none⟩ = some (.int .i64 sb.f) ∧ w'.cell? ⟨w.heap.size, 1, none⟩ = some (.int .i64 (s.p : Int))) (by kernel_rfl) ⟨x0, x1, x2, x3, z1⟩ (fun hHeld => ?_)
                refine wpAnyH_take (i := 0) (oi := _) (v := ?_) rfl (by decide +kernel) (by decide +kernel) (by decide +kernel) (fun _ _ _ h => h) (Or.inl ⟨by rfl, ?_⟩) (by assumption) ?_
                rotate_left
                · (intro w hSw; (try dsimp only at hSw); go_simp <;> with_reducible rfl)
                (try simp only [Act.put, List.setIfInBounds_toArray, List.set_cons_zero, List.set_cons_succ])
                refine wpAnyH_take (i := 1) (oi := _) (v := ?_) rfl (by decide +kernel) (by decide +kernel) (by decide +kernel) (fun _ _ _ h => h) (Or.inl ⟨by rfl, ?_⟩) (by assumption) ?_
                rotate_left
                · (intro w hSw; (try dsimp only at hSw); go_simp <;> with_reducible rfl)
                (try simp only [Act.put, List.setIfInBounds_toArray, List.set_cons_zero, List.set_cons_succ])
                refine wpAnyH_take (i := 2) (oi := _) (v := ?_) rfl (by decide +kernel) (by decide +kernel) (by decide +kernel) (fun _ _ _ h => h) (Or.inl ⟨by rfl, ?_⟩) (by assumption) ?_
                rotate_left
                · (intro w hSw; (try dsimp only at hSw); go_simp <;> with_reducible rfl)
                (try simp only [Act.put, List.setIfInBounds_toArray, List.set_cons_zero, List.set_cons_succ])
                refine wpAnyH_take (i := 4) (oi := _) (v := ?_) rfl (by decide +kernel) (by decide +kernel) (by decide +kernel) (fun _ _ _ h => h) (Or.inl ⟨by rfl, ?_⟩) (by assumption) ?_
                rotate_left
                · (intro w hSw; (try dsimp only at hSw); go_simp <;> with_reducible rfl)
                (try simp only [Act.put, List.setIfInBounds_toArray, List.set_cons_zero, List.set_cons_succ])
                refine wpAnyH_take (i := 5) (oi := _) (v := ?_) rfl (by decide +kernel) (by decide +kernel) (by decide +kernel) (fun _ _ _ h => h) (Or.inl ⟨by rfl, ?_⟩) (by assumption) ?_
                rotate_left
                · (intro w hSw; (try dsimp only at hSw); go_simp <;> with_reducible rfl)
                (try simp only [Act.put, List.setIfInBounds_toArray, List.set_cons_zero, List.set_cons_succ])
                refine wpAnyH_take (i := 6) (oi := _) (v := ?_) rfl (by decide +kernel) (by decide +kernel) (by decide +kernel) (fun _ _ _ h => h) (Or.inl ⟨by rfl, ?_⟩) (by assumption) ?_
                rotate_left
                · (intro w hSw; (try dsimp only at hSw); go_simp <;> with_reducible rfl)
                (try simp only [Act.put, List.setIfInBounds_toArray, List.set_cons_zero, List.set_cons_succ])
                refine wpAnyH_take (i := 7) (oi := _) (v := ?_) rfl (by decide +kernel) (by decide +kernel) (by decide +kernel) (fun _ _ _ h => h) (Or.inl ⟨by rfl, ?_⟩) (by assumption) ?_
                rotate_left
                · (intro w hSw; (try dsimp only at hSw); go_simp <;> with_reducible rfl)
                (try simp only [Act.put, List.setIfInBounds_toArray, List.set_cons_zero, List.set_cons_succ])
                refine wpAnyH_take (i := 8) (oi := _) (v := ?_) rfl (by decide +kernel) (by decide +kernel) (by decide +kernel) (fun _ _ _ h => h) (Or.inl ⟨by rfl, ?_⟩) (by assumption) ?_
                rotate_left
                · (intro w hSw; (try dsimp only at hSw); go_simp <;> with_reducible rfl)
                (try simp only [Act.put, List.setIfInBounds_toArray, List.set_cons_zero, List.set_cons_succ])
                refine wpAnyH_take (i := 9) (oi := _) (v := ?_) rfl (by decide +kernel) (by decide +kernel) (by decide +kernel) (fun _ _ _ h => h) (Or.inl ⟨by rfl, ?_⟩) (by assumption) ?_
                rotate_left
                · (intro w hSw; (try dsimp only at hSw); go_simp <;> with_reducible rfl)
                (try simp only [Act.put, List.setIfInBounds_toArray, List.set_cons_zero, List.set_cons_succ])
                refine wpAnyH_take (i := 10) (oi := _) (v := ?_) rfl (by decide +kernel) (by decide +kernel) (by decide +kernel) (fun _ _ _ h => h) (Or.inl ⟨by rfl, ?_⟩) (by assumption) ?_
                rotate_left
                · (intro w hSw; (try dsimp only at hSw); go_simp <;> with_reducible rfl)
                (try simp only [Act.put, List.setIfInBounds_toArray, List.set_cons_zero, List.set_cons_succ])
                refine wpAnyH_ready (rs := [3]) (by decide +kernel) (by simp) ?_
                refine AllReadyH.cons (o := _) rfl (fun K hK => ?_) AllReadyH.nil
                (go_simp; go_at_call 30; refine (HB.out _ (by (repeat (first | with_reducible exact Below.refl _ _ | with_reducible assumption | (with_reducible refine below_alloc ?_ _) | (with_reducible refine Below.setCell ?_ (by first | omega | (simp; done) | (simp; omega)) _) | (with_reducible refine Below.drew ?_) | (with_reducible refine below_drewN ?_ _) | (refine below_then (by with_reducible assumption) ?_))))).mono ?_; rintro e w8 ⟨v8, rfl, hr8, hb8⟩; obtain ⟨a8, c8, hv8, hr8', _⟩ := sl_form hr8; simp only [List.cons.injEq, and_true] at hv8; subst hv8; have hbv8 : Below V.heap.size V w8 := (by (repeat (first | with_reducible exact Below.refl _ _ | with_reducible assumption | (with_reducible refine below_alloc ?_ _) | (with_reducible refine Below.setCell ?_ (by first | omega | (simp; done) | (simp; omega)) _) | (with_reducible refine Below.drew ?_) | (with_reducible refine below_drewN ?_ _) | (refine below_then (by with_reducible assumption) ?_)))); have k0 := (hbv8.cell (p := ⟨w2.heap.size, 0, none⟩) l0).trans x0; have k1 := (hbv8.cell (p := ⟨w2.heap.size, 1, none⟩) l0).trans x1; have k2 := (hbv8.cell (p := ⟨w2.heap.size, 2, none⟩) l0).trans x2; have k3 := (hbv8.cell (p := ⟨w2.heap.size, 3, none⟩) l0).trans x3; have k4 := (hbv8.cell (p := ⟨w.heap.size, 1, none⟩) l2).trans z1; have B8 := HV1.out.later hbv8; obtain ⟨m0, m1, m2, m3, p0, p1, p2, p3, l8⟩ := c_blk B8; have HR8 := hid hr8'; have HB8 := hid hbv8; have hs8 := hbv8.size; clear B8 y0 y1 y2 y3 g0 g1 g2 g3 l1; clear hr8 hr8' hb8 hbv8; (try dsimp only))
                refine hK.out _ _ ?_ (fun hHeld => ?_)
                · ((try dsimp only); refine ⟨?_, ?_, ?_, ?_, ?_⟩ <;> (first | assumption | (go_keep; done)))
                clear hK K
                (try simp only [Act.put, List.setIfInBounds_toArray, List.set_cons_zero, List.set_cons_succ])
                refine wpAnyH_ready (rs := [11]) (by decide +kernel) (by simp) ?_
                refine AllReadyH.cons (o := _) rfl (fun K hK => ?_) AllReadyH.nil
                (go_simp; go_at_call 20; refine (same_bytes BB SS a8 aC _ c8 _ cC _ (rBytes.mono HR8.out fun q hq => hq.2) (lift HSUB.out HB8.out)).mono ?_; rintro e w9 ⟨rfl, rfl⟩; (try dsimp only))
                refine hK.out _ _ ?_ (fun hHeld => ?_)
                · ((try dsimp only); refine ⟨?_, ?_, ?_, ?_, ?_⟩ <;> (first | assumption | (go_keep; done)))
                clear hK K
                (try simp only [Act.put, List.setIfInBounds_toArray, List.set_cons_zero, List.set_cons_succ])
                refine wpAnyH_ready (rs := [12]) (by decide +kernel) (by simp) ?_
                refine AllReadyH.cons (o := _) rfl (fun K hK => ?_) AllReadyH.nil
                go_simp
                refine hK.out _ _ ?_ (fun hHeld => ?_)
                · refine ⟨?_, ?_, ?_, ?_, ?_⟩
                  all_goals
                    rw [World.cell?_setCell_far _ _ _ _ (by dsimp only; omega), World.cell?_setCell_far _ _ _ _ (by dsimp only; omega), World.cell?_setCell_far _ _ _ _ (by dsimp only; omega), World.cell?_setCell_far _ _ _ _ (by dsimp only; omega)]
                    assumption
                clear hK K
                (try simp only [Act.put, List.setIfInBounds_toArray, List.set_cons_zero, List.set_cons_succ])
                refine wpAnyH_take (i := 13) (oi := _) (v := ?_) rfl (by decide +kernel) (by decide +kernel) (by decide +kernel) (fun _ _ _ h => h) (Or.inl ⟨by rfl, ?_⟩) (by assumption) ?_
                rotate_left
                · (intro w hSw; (try dsimp only at hSw); go_simp <;> with_reducible rfl)
                (try simp only [Act.put, List.setIfInBounds_toArray, List.set_cons_zero, List.set_cons_succ])
                refine wpAnyH_take (i := 14) (oi := _) (v := ?_) rfl (by decide +kernel) (by decide +kernel) (by decide +kernel) (fun _ _ _ h => h) (Or.inl ⟨by rfl, ?_⟩) (by assumption) ?_
                rotate_left
                · (intro w hSw; (try dsimp only at hSw); go_simp <;> with_reducible rfl)
                (try simp only [Act.put, List.setIfInBounds_toArray, List.set_cons_zero, List.set_cons_succ])
                simp only [List.getElem_toArray, List.getElem_cons_zero, List.getElem_cons_succ, Act.put, List.setIfInBounds_toArray, List.set_cons_zero, List.set_cons_succ]
                refine wpAnyH_done (by kernel_rfl) ?_ _
                have hbe8 : Below w.heap.size w w8 := below_then HB8.out hbl
                go_wp2
                refine bodyPost_ret (v := .tuple #[.agg #[.slice a B.length c, .int .i64 (sb.p : Int), .int .i64 sb.k, .int .i64 sb.f], .slice a4 DX.length c4, .bool (decide (BB = SS))]) (by simp [results, Try.results50, go_sem, m0, m1, m2, m3, l8]) rfl ⟨_, by rw [HS.out, HBB2.out], ?_, by (repeat (first | with_reducible exact Below.refl _ _ | with_reducible assumption | (with_reducible refine below_alloc ?_ _) | (with_reducible refine Below.setCell ?_ (by first | omega | (simp; done) | (simp; omega)) _) | (with_reducible refine Below.drew ?_) | (with_reducible refine below_drewN ?_ _) | (refine below_then (by with_reducible assumption) ?_)))⟩
                refine rBytes.mono (rBytes.keep (rBytes.keep HDV.out fun q hq => HB8.out.block q hq.2) fun q hq => ?_) fun q hq => ⟨by omega, by simp [World.setCell]; omega⟩
                repeat (rw [Below.heap_setCell _ _ _ _ (by dsimp only; omega)])
          · have dx : (kx != (0 : Int)) = true := by simp [hx]
            rw [if_neg hx] at hUeq
            subst hUeq
            have hfx := hfkx hx
            have hdx := hxf.2.2.2 hx
            subst hdx
            dsimp only
            rw [if_neg hfx]
            have dt : (FX.k != (0 : Int)) = true := by simp [hfx]
            have HX0 := hid hx
            have hsbp := HOKS.out.2.2
            have hfx1 := hxf.2.1
            have hfx2 := hxf.2.2.1
            have hFX2 := hid (fun (W : World) => hFX.out W HX0.out)
            rw [show fx + ((sb.p : Int) - (TB.length : Int)) = (sb.p : Int) - (TB.length : Int) + fx by omega] at hFX2
            clear hb hx hfx hFX
            dsimp only
            go_enter Try.func50, Try.ntmps50
            cases qm
            all_goals
              simp only [if_true, if_false, Bool.false_eq_true] at hI
              go_wp2_with fail
              refine (hI.out _ (by (repeat (first | with_reducible exact Below.refl _ _ | with_reducible assumption | (with_reducible refine below_alloc ?_ _) | (with_reducible refine Below.setCell ?_ (by first | omega | (simp; done) | (simp; omega)) _) | (with_reducible refine Below.drew ?_) | (with_reducible refine below_drewN ?_ _) | (refine below_then (by with_reducible assumption) ?_))))).mono ?_
              rintro r w1 ⟨rfl, hb⟩
              have B0 : Blk w1 w.heap.size 61 #[.slice a B.length c, .int .i64 (s.p : Int), .int .i64 s.k, .int .i64 s.f] := Blk.later (by (repeat (first | assumption | exact Blk.newAt _ _ _ (by first | (simp; done) | (simp; omega)) | refine Blk.alloc ?_ _ | refine Blk.drew ?_ | refine Blk.drewN ?_ _ | refine Blk.far ?_ (by first | (simp; done) | (simp; omega)) _))) hb
              have B1 : Blk w1 (w.heap.size + 1) 61 #[.slice none 0 0, .int .i64 0, .int .i64 0, .int .i64 0] := Blk.later (by (repeat (first | assumption | exact Blk.newAt _ _ _ (by first | (simp; done) | (simp; omega)) | refine Blk.alloc ?_ _ | refine Blk.drew ?_ | refine Blk.drewN ?_ _ | refine Blk.far ?_ (by first | (simp; done) | (simp; omega)) _))) hb
              have hbw1 : Below w.heap.size w w1 := by (repeat (first | with_reducible exact Below.refl _ _ | with_reducible assumption | (with_reducible refine below_alloc ?_ _) | (with_reducible refine Below.setCell ?_ (by first | omega | (simp; done) | (simp; omega)) _) | (with_reducible refine Below.drew ?_) | (with_reducible refine below_drewN ?_ _) | (refine below_then (by with_reducible assumption) ?_)))
              have hz1 := hb.size
              simp at hz1
              clear hb
              go_wp2_with fail
              refine (hBY.out _ (by (repeat (first | with_reducible exact Below.refl _ _ | with_reducible assumption | (with_reducible refine below_alloc ?_ _) | (with_reducible refine Below.setCell ?_ (by first | omega | (simp; done) | (simp; omega)) _) | (with_reducible refine Below.drew ?_) | (with_reducible refine below_drewN ?_ _) | (refine below_then (by with_reducible assumption) ?_))))).mono ?_
              rintro r w2 ⟨v, rfl, hr, hb⟩
              obtain ⟨aW, cW, hv, hr2, _⟩ := sl_form hr
              simp only [List.cons.injEq, and_true] at hv
              subst hv
              have HW2 := hid (rBytes.mono (S' := (· < w2.heap.size)) hr2 fun q hq => hq.2)
              have C0 := (B0.alloc _).later hb
              have C1 := (B1.alloc _).later hb
              have CD : Blk w2 w1.heap.size 61 #[.slice a B.length c, .int .i64 (sd.p : Int), .int .i64 sd.k, .int .i64 sd.f] := Blk.later (Blk.newAt w1 _ _ rfl) hb
              have hbw2 : Below w.heap.size w w2 := by (repeat (first | with_reducible exact Below.refl _ _ | with_reducible assumption | (with_reducible refine below_alloc ?_ _) | (with_reducible refine Below.setCell ?_ (by first | omega | (simp; done) | (simp; omega)) _) | (with_reducible refine Below.drew ?_) | (with_reducible refine below_drewN ?_ _) | (refine below_then (by with_reducible assumption) ?_)))
              have hz2 := hb.size
              simp at hz2
              clear hb hr hr2 B0 B1
              have hV2 : LInv w (w2.alloc (.cells #[.slice a B.length c, .int .i64 (se.p : Int), .int .i64 se.k, .int .i64 se.f] 61)) B a c s se w2.heap.size [] none 0 := ⟨C0.alloc _, C1.alloc _, Blk.newAt _ _ _ rfl, by omega, empty_bytes rfl rfl (by omega), by (repeat (first | with_reducible exact Below.refl _ _ | with_reducible assumption | (with_reducible refine below_alloc ?_ _) | (with_reducible refine Below.setCell ?_ (by first | omega | (simp; done) | (simp; omega)) _) | (with_reducible refine Below.drew ?_) | (with_reducible refine below_drewN ?_ _) | (refine below_then (by with_reducible assumption) ?_)))⟩
              have HV2 := hid hV2
              clear hV2
              obtain ⟨gw, ow, hA, hgw, hcw⟩ := byte_at HW2.out (i := 0) (by simp)
              subst hA
              simp at hcw
              obtain ⟨x0, x1, x2, x3, e0, e1, e2, e3, l0⟩ := c_blk CD
              clear C0 C1

              go_wp2_with fail
              refine (hBL.out _ (by (repeat (first | with_reducible exact Below.refl _ _ | with_reducible assumption | (with_reducible refine below_alloc ?_ _) | (with_reducible refine Below.setCell ?_ (by first | omega | (simp; done) | (simp; omega)) _) | (with_reducible refine Below.drew ?_) | (with_reducible refine below_drewN ?_ _) | (refine below_then (by with_reducible assumption) ?_))))).mono ?_
              rintro r w3 ⟨v, rfl, hr, hb⟩

              obtain ⟨a3, c3, hv, hr2, _⟩ := sl_form hr
              simp only [List.cons.injEq, and_true] at hv
              subst hv

              have hV3 := (HV2.out.later hb).data (rBytes.mono hr2 fun q hq => (⟨by have := hq.1; simp at this; omega, hq.2⟩ : w2.heap.size < q ∧ q < w3.heap.size))
              have HV3 := hid ((hV3.set sb).later (below_alloc (Below.refl _ _) (.cells #[.slice a B.length c, .int .i64 (sb.p : Int), .int .i64 sb.k, .int .i64 sb.f] 61)))
              obtain ⟨x0, x1, x2, x3, e0, e1, e2, e3, l0⟩ := c_blk hV3.be
              clear hr hr2 hb hV3

              go_upto_region 14 with (fail)
              refine wp_world (fun V => LInv w V B a c s sb w2.heap.size TB a3 c3) (HV3.out) ?_
              intro V hV
              clear x0 x1 x2 x3 e0 e1 e2 e3 l0

              have HVV := hid hV
              obtain ⟨x0, x1, x2, x3, e0, e1, e2, e3, l0⟩ := c_blk hV.be
              clear hV
              go_wp2_with fail
              refine (hX.out V a3 _ c3 (rBytes.mono HVV.out.dat fun q hq => hq.2)).mono ?_
              rintro r w4 ⟨v, rfl, hr, hb⟩

              obtain ⟨a4, c4, hv, hr2, _⟩ := sl_form hr
              simp only [List.cons.injEq, and_true] at hv
              subst hv

              have hzV := HVV.out.be.lt
              have hV4 := (HVV.out.later hb).data (rBytes.mono hr2 fun q hq => (⟨by omega, hq.2⟩ : w2.heap.size < q ∧ q < w4.heap.size))
              have HV4 := hid hV4
              clear hr hr2 hb hV4 x0 x1 x2 x3 e0 e1 e2 e3 l0
              obtain ⟨x0, x1, x2, x3, e0, e1, e2, e3, l0⟩ := c_blk HV4.out.be

              go_wp2_with fail
              refine (hFX2.out _).mono ?_
              rintro r w5 ⟨rfl, hb⟩
              have hb45 : Below w4.heap.size w4 w5 := by (repeat (first | with_reducible exact Below.refl _ _ | with_reducible assumption | (with_reducible refine below_alloc ?_ _) | (with_reducible refine Below.setCell ?_ (by first | omega | (simp; done) | (simp; omega)) _) | (with_reducible refine Below.drew ?_) | (with_reducible refine below_drewN ?_ _) | (refine below_then (by with_reducible assumption) ?_)))
              have HV5 := hid ((HV4.out.later hb45).set FX)
              have hV5 := HV4.out.later hb45
              clear x0 x1 x2 x3 e0 e1 e2 e3 l0
              obtain ⟨x0, x1, x2, x3, e0, e1, e2, e3, l0⟩ := c_blk hV5.be
              clear hb hV5

              go_upto_region 21 with (fail)
              refine wp_world (fun V => LInv w V B a c s FX w2.heap.size [] a4 c4) (HV5.out) ?_
              intro V hV
              clear x0 x1 x2 x3 e0 e1 e2 e3 l0

              obtain ⟨x0, x1, x2, x3, e0, e1, e2, e3, l0⟩ := c_blk hV.be
              obtain ⟨y0, y1, y2, y3, g0, g1, g2, g3, l1⟩ := c_blk hV.b1
              have hbl := hV.bel
              go_wp2
              refine bodyPost_ret (v := .tuple #[.agg #[.slice a B.length c, .int .i64 (FX.p : Int), .int .i64 FX.k, .int .i64 FX.f], .slice none 0 0, .bool false]) (by simp [results, Try.results50, go_sem, y0, y1, y2, y3, l1]) rfl ⟨_, rfl, empty_bytes rfl rfl (by omega), by (repeat (first | with_reducible exact Below.refl _ _ | with_reducible assumption | (with_reducible refine below_alloc ?_ _) | (with_reducible refine Below.setCell ?_ (by first | omega | (simp; done) | (simp; omega)) _) | (with_reducible refine Below.drew ?_) | (with_reducible refine below_drewN ?_ _) | (refine below_then (by with_reducible assumption) ?_)))⟩
        · have db : (sb.k == (0 : Int)) = false := by simp [hb]
          rw [if_neg hb] at hUeq
          subst hUeq
          dsimp only
          rw [if_neg hb]
          have dt : (sb.k != (0 : Int)) = true := by simp [hb]
          clear hb
          dsimp only
          go_enter Try.func50, Try.ntmps50
          cases qm
          all_goals
            simp only [if_true, if_false, Bool.false_eq_true] at hI
            go_wp2_with fail
            refine (hI.out _ (by (repeat (first | with_reducible exact Below.refl _ _ | with_reducible assumption | (with_reducible refine below_alloc ?_ _) | (with_reducible refine Below.setCell ?_ (by first | omega | (simp; done) | (simp; omega)) _) | (with_reducible refine Below.drew ?_) | (with_reducible refine below_drewN ?_ _) | (refine below_then (by with_reducible assumption) ?_))))).mono ?_
            rintro r w1 ⟨rfl, hb⟩
            have B0 : Blk w1 w.heap.size 61 #[.slice a B.length c, .int .i64 (s.p : Int), .int .i64 s.k, .int .i64 s.f] := Blk.later (by (repeat (first | assumption | exact Blk.newAt _ _ _ (by first | (simp; done) | (simp; omega)) | refine Blk.alloc ?_ _ | refine Blk.drew ?_ | refine Blk.drewN ?_ _ | refine Blk.far ?_ (by first | (simp; done) | (simp; omega)) _))) hb
            have B1 : Blk w1 (w.heap.size + 1) 61 #[.slice none 0 0, .int .i64 0, .int .i64 0, .int .i64 0] := Blk.later (by (repeat (first | assumption | exact Blk.newAt _ _ _ (by first | (simp; done) | (simp; omega)) | refine Blk.alloc ?_ _ | refine Blk.drew ?_ | refine Blk.drewN ?_ _ | refine Blk.far ?_ (by first | (simp; done) | (simp; omega)) _))) hb
            have hbw1 : Below w.heap.size w w1 := by (repeat (first | with_reducible exact Below.refl _ _ | with_reducible assumption | (with_reducible refine below_alloc ?_ _) | (with_reducible refine Below.setCell ?_ (by first | omega | (simp; done) | (simp; omega)) _) | (with_reducible refine Below.drew ?_) | (with_reducible refine below_drewN ?_ _) | (refine below_then (by with_reducible assumption) ?_)))
            have hz1 := hb.size
            simp at hz1
            clear hb
            go_wp2_with fail
            refine (hBY.out _ (by (repeat (first | with_reducible exact Below.refl _ _ | with_reducible assumption | (with_reducible refine below_alloc ?_ _) | (with_reducible refine Below.setCell ?_ (by first | omega | (simp; done) | (simp; omega)) _) | (with_reducible refine Below.drew ?_) | (with_reducible refine below_drewN ?_ _) | (refine below_then (by with_reducible assumption) ?_))))).mono ?_
            rintro r w2 ⟨v, rfl, hr, hb⟩
            obtain ⟨aW, cW, hv, hr2, _⟩ := sl_form hr
            simp only [List.cons.injEq, and_true] at hv
            subst hv
            have HW2 := hid (rBytes.mono (S' := (· < w2.heap.size)) hr2 fun q hq => hq.2)
            have C0 := (B0.alloc _).later hb
            have C1 := (B1.alloc _).later hb
            have CD : Blk w2 w1.heap.size 61 #[.slice a B.length c, .int .i64 (sd.p : Int), .int .i64 sd.k, .int .i64 sd.f] := Blk.later (Blk.newAt w1 _ _ rfl) hb
            have hbw2 : Below w.heap.size w w2 := by (repeat (first | with_reducible exact Below.refl _ _ | with_reducible assumption | (with_reducible refine below_alloc ?_ _) | (with_reducible refine Below.setCell ?_ (by first | omega | (simp; done) | (simp; omega)) _) | (with_reducible refine Below.drew ?_) | (with_reducible refine below_drewN ?_ _) | (refine below_then (by with_reducible assumption) ?_)))
            have hz2 := hb.size
            simp at hz2
            clear hb hr hr2 B0 B1
            have hV2 : LInv w (w2.alloc (.cells #[.slice a B.length c, .int .i64 (se.p : Int), .int .i64 se.k, .int .i64 se.f] 61)) B a c s se w2.heap.size [] none 0 := ⟨C0.alloc _, C1.alloc _, Blk.newAt _ _ _ rfl, by omega, empty_bytes rfl rfl (by omega), by (repeat (first | with_reducible exact Below.refl _ _ | with_reducible assumption | (with_reducible refine below_alloc ?_ _) | (with_reducible refine Below.setCell ?_ (by first | omega | (simp; done) | (simp; omega)) _) | (with_reducible refine Below.drew ?_) | (with_reducible refine below_drewN ?_ _) | (refine below_then (by with_reducible assumption) ?_)))⟩
            have HV2 := hid hV2
            clear hV2
            obtain ⟨gw, ow, hA, hgw, hcw⟩ := byte_at HW2.out (i := 0) (by simp)
            subst hA
            simp at hcw
            obtain ⟨x0, x1, x2, x3, e0, e1, e2, e3, l0⟩ := c_blk CD
            clear C0 C1

            go_wp2_with fail
            refine (hBL.out _ (by (repeat (first | with_reducible exact Below.refl _ _ | with_reducible assumption | (with_reducible refine below_alloc ?_ _) | (with_reducible refine Below.setCell ?_ (by first | omega | (simp; done) | (simp; omega)) _) | (with_reducible refine Below.drew ?_) | (with_reducible refine below_drewN ?_ _) | (refine below_then (by with_reducible assumption) ?_))))).mono ?_
            rintro r w3 ⟨v, rfl, hr, hb⟩

            obtain ⟨a3, c3, hv, hr2, _⟩ := sl_form hr
            simp only [List.cons.injEq, and_true] at hv
            subst hv

            have hV3 := (HV2.out.later hb).data (rBytes.mono hr2 fun q hq => (⟨by have := hq.1; simp at this; omega, hq.2⟩ : w2.heap.size < q ∧ q < w3.heap.size))
            have HV3 := hid ((hV3.set sb).later (below_alloc (Below.refl _ _) (.cells #[.slice a B.length c, .int .i64 (sb.p : Int), .int .i64 sb.k, .int .i64 sb.f] 61)))
            obtain ⟨x0, x1, x2, x3, e0, e1, e2, e3, l0⟩ := c_blk hV3.be
            clear hr hr2 hb hV3

            go_upto_region 14 with (fail)
            refine wp_world (fun V => LInv w V B a c s sb w2.heap.size TB a3 c3) (HV3.out) ?_
            intro V hV
            clear x0 x1 x2 x3 e0 e1 e2 e3 l0

            obtain ⟨x0, x1, x2, x3, e0, e1, e2, e3, l0⟩ := c_blk hV.be
            obtain ⟨y0, y1, y2, y3, g0, g1, g2, g3, l1⟩ := c_blk hV.b1
            have hbl := hV.bel
            go_wp2
            refine bodyPost_ret (v := .tuple #[.agg #[.slice a B.length c, .int .i64 (sb.p : Int), .int .i64 sb.k, .int .i64 sb.f], .slice none 0 0, .bool false]) (by simp [results, Try.results50, go_sem, y0, y1, y2, y3, l1]) rfl ⟨_, rfl, empty_bytes rfl rfl (by omega), by (repeat (first | with_reducible exact Below.refl _ _ | with_reducible assumption | (with_reducible refine below_alloc ?_ _) | (with_reducible refine Below.setCell ?_ (by first | omega | (simp; done) | (simp; omega)) _) | (with_reducible refine Below.drew ?_) | (with_reducible refine below_drewN ?_ _) | (refine below_then (by with_reducible assumption) ?_)))⟩
      · have d1 : decide ((1 : Int) < (y.toNat : Int)) = true := decide_eq_true (by omega)
        have d1' : decide (1 < y.toNat) = true := decide_eq_true (by omega)
        rw [if_neg h1]
        clear h0 h1 hUeq
        rw [show (se.p : Int) - 1 = (sd.p : Int) by have := hp1.out; omega] at hF7
        dsimp only
        go_enter Try.func50, Try.ntmps50
        cases qm
        all_goals
          simp only [if_true, if_false, Bool.false_eq_true] at hI
          go_wp2_with fail
          refine (hI.out _ (by (repeat (first | with_reducible exact Below.refl _ _ | with_reducible assumption | (with_reducible refine below_alloc ?_ _) | (with_reducible refine Below.setCell ?_ (by first | omega | (simp; done) | (simp; omega)) _) | (with_reducible refine Below.drew ?_) | (with_reducible refine below_drewN ?_ _) | (refine below_then (by with_reducible assumption) ?_))))).mono ?_
          rintro r w1 ⟨rfl, hb⟩
          have B0 : Blk w1 w.heap.size 61 #[.slice a B.length c, .int .i64 (s.p : Int), .int .i64 s.k, .int .i64 s.f] := Blk.later (by (repeat (first | assumption | exact Blk.newAt _ _ _ (by first | (simp; done) | (simp; omega)) | refine Blk.alloc ?_ _ | refine Blk.drew ?_ | refine Blk.drewN ?_ _ | refine Blk.far ?_ (by first | (simp; done) | (simp; omega)) _))) hb
          have B1 : Blk w1 (w.heap.size + 1) 61 #[.slice none 0 0, .int .i64 0, .int .i64 0, .int .i64 0] := Blk.later (by (repeat (first | assumption | exact Blk.newAt _ _ _ (by first | (simp; done) | (simp; omega)) | refine Blk.alloc ?_ _ | refine Blk.drew ?_ | refine Blk.drewN ?_ _ | refine Blk.far ?_ (by first | (simp; done) | (simp; omega)) _))) hb
          have hbw1 : Below w.heap.size w w1 := by (repeat (first | with_reducible exact Below.refl _ _ | with_reducible assumption | (with_reducible refine below_alloc ?_ _) | (with_reducible refine Below.setCell ?_ (by first | omega | (simp; done) | (simp; omega)) _) | (with_reducible refine Below.drew ?_) | (with_reducible refine below_drewN ?_ _) | (refine below_then (by with_reducible assumption) ?_)))
          have hz1 := hb.size
          simp at hz1
          clear hb
          go_wp2_with fail
          refine (hBY.out _ (by (repeat (first | with_reducible exact Below.refl _ _ | with_reducible assumption | (with_reducible refine below_alloc ?_ _) | (with_reducible refine Below.setCell ?_ (by first | omega | (simp; done) | (simp; omega)) _) | (with_reducible refine Below.drew ?_) | (with_reducible refine below_drewN ?_ _) | (refine below_then (by with_reducible assumption) ?_))))).mono ?_
          rintro r w2 ⟨v, rfl, hr, hb⟩
          obtain ⟨aW, cW, hv, hr2, _⟩ := sl_form hr
          simp only [List.cons.injEq, and_true] at hv
          subst hv
          have HW2 := hid (rBytes.mono (S' := (· < w2.heap.size)) hr2 fun q hq => hq.2)
          have C0 := (B0.alloc _).later hb
          have C1 := (B1.alloc _).later hb
          have CD : Blk w2 w1.heap.size 61 #[.slice a B.length c, .int .i64 (sd.p : Int), .int .i64 sd.k, .int .i64 sd.f] := Blk.later (Blk.newAt w1 _ _ rfl) hb
          have hbw2 : Below w.heap.size w w2 := by (repeat (first | with_reducible exact Below.refl _ _ | with_reducible assumption | (with_reducible refine below_alloc ?_ _) | (with_reducible refine Below.setCell ?_ (by first | omega | (simp; done) | (simp; omega)) _) | (with_reducible refine Below.drew ?_) | (with_reducible refine below_drewN ?_ _) | (refine below_then (by with_reducible assumption) ?_)))
          have hz2 := hb.size
          simp at hz2
          clear hb hr hr2 B0 B1
          have hV2 : LInv w (w2.alloc (.cells #[.slice a B.length c, .int .i64 (se.p : Int), .int .i64 se.k, .int .i64 se.f] 61)) B a c s se w2.heap.size [] none 0 := ⟨C0.alloc _, C1.alloc _, Blk.newAt _ _ _ rfl, by omega, empty_bytes rfl rfl (by omega), by (repeat (first | with_reducible exact Below.refl _ _ | with_reducible assumption | (with_reducible refine below_alloc ?_ _) | (with_reducible refine Below.setCell ?_ (by first | omega | (simp; done) | (simp; omega)) _) | (with_reducible refine Below.drew ?_) | (with_reducible refine below_drewN ?_ _) | (refine below_then (by with_reducible assumption) ?_)))⟩
          have HV2 := hid hV2
          clear hV2
          obtain ⟨gw, ow, hA, hgw, hcw⟩ := byte_at HW2.out (i := 0) (by simp)
          subst hA
          simp at hcw
          obtain ⟨x0, x1, x2, x3, e0, e1, e2, e3, l0⟩ := c_blk CD
          clear C0 C1

          go_wp2_with fail
          refine (hF7.out _).mono ?_
          rintro r w3 ⟨rfl, hb⟩
          have hV3 := HV2.out.later hb
          obtain ⟨y0, y1, y2, y3, g0, g1, g2, g3, l1⟩ := c_blk hV3.b1
          have hbl := hV3.bel
          clear hb hV3 x0 x1 x2 x3 e0 e1 e2 e3 l0
          go_wp2
          refine bodyPost_ret (v := .tuple #[.agg #[.slice a B.length c, .int .i64 (F7.p : Int), .int .i64 F7.k, .int .i64 F7.f], .slice none 0 0, .bool false]) (by simp [results, Try.results50, go_sem, y0, y1, y2, y3, l1]) rfl ⟨_, rfl, empty_bytes rfl rfl (by omega), by (repeat (first | with_reducible exact Below.refl _ _ | with_reducible assumption | (with_reducible refine below_alloc ?_ _) | (with_reducible refine Below.setCell ?_ (by first | omega | (simp; done) | (simp; omega)) _) | (with_reducible refine Below.drew ?_) | (with_reducible refine below_drewN ?_ _) | (refine below_then (by with_reducible assumption) ?_)))⟩
  · have dk : (se.k != (0 : Int)) = true := by simp [hk]
    rw [if_neg hk]
    clear hk hb1 hby1 hUeq
    dsimp only
    go_enter Try.func50, Try.ntmps50
    cases qm
    all_goals
      simp only [if_true, if_false, Bool.false_eq_true] at hI
      go_wp2_with fail
      refine (hI.out _ (by (repeat (first | with_reducible exact Below.refl _ _ | with_reducible assumption | (with_reducible refine below_alloc ?_ _) | (with_reducible refine Below.setCell ?_ (by first | omega | (simp; done) | (simp; omega)) _) | (with_reducible refine Below.drew ?_) | (with_reducible refine below_drewN ?_ _) | (refine below_then (by with_reducible assumption) ?_))))).mono ?_
      rintro r w1 ⟨rfl, hb⟩
      have B0 : Blk w1 w.heap.size 61 #[.slice a B.length c, .int .i64 (s.p : Int), .int .i64 s.k, .int .i64 s.f] := Blk.later (by (repeat (first | assumption | exact Blk.newAt _ _ _ (by first | (simp; done) | (simp; omega)) | refine Blk.alloc ?_ _ | refine Blk.drew ?_ | refine Blk.drewN ?_ _ | refine Blk.far ?_ (by first | (simp; done) | (simp; omega)) _))) hb
      have B1 : Blk w1 (w.heap.size + 1) 61 #[.slice none 0 0, .int .i64 0, .int .i64 0, .int .i64 0] := Blk.later (by (repeat (first | assumption | exact Blk.newAt _ _ _ (by first | (simp; done) | (simp; omega)) | refine Blk.alloc ?_ _ | refine Blk.drew ?_ | refine Blk.drewN ?_ _ | refine Blk.far ?_ (by first | (simp; done) | (simp; omega)) _))) hb
      have hbw1 : Below w.heap.size w w1 := by (repeat (first | with_reducible exact Below.refl _ _ | with_reducible assumption | (with_reducible refine below_alloc ?_ _) | (with_reducible refine Below.setCell ?_ (by first | omega | (simp; done) | (simp; omega)) _) | (with_reducible refine Below.drew ?_) | (with_reducible refine below_drewN ?_ _) | (refine below_then (by with_reducible assumption) ?_)))
      have hz1 := hb.size
      simp at hz1
      clear hb
      go_wp2_with fail
      refine (hBY.out _ (by (repeat (first | with_reducible exact Below.refl _ _ | with_reducible assumption | (with_reducible refine below_alloc ?_ _) | (with_reducible refine Below.setCell ?_ (by first | omega | (simp; done) | (simp; omega)) _) | (with_reducible refine Below.drew ?_) | (with_reducible refine below_drewN ?_ _) | (refine below_then (by with_reducible assumption) ?_))))).mono ?_
      rintro r w2 ⟨v, rfl, hr, hb⟩
      obtain ⟨aW, cW, hv, hr2, _⟩ := sl_form hr
      simp only [List.cons.injEq, and_true] at hv
      subst hv
      have HW2 := hid (rBytes.mono (S' := (· < w2.heap.size)) hr2 fun q hq => hq.2)
      have C0 := (B0.alloc _).later hb
      have C1 := (B1.alloc _).later hb
      have CD : Blk w2 w1.heap.size 61 #[.slice a B.length c, .int .i64 (sd.p : Int), .int .i64 sd.k, .int .i64 sd.f] := Blk.later (Blk.newAt w1 _ _ rfl) hb
      have hbw2 : Below w.heap.size w w2 := by (repeat (first | with_reducible exact Below.refl _ _ | with_reducible assumption | (with_reducible refine below_alloc ?_ _) | (with_reducible refine Below.setCell ?_ (by first | omega | (simp; done) | (simp; omega)) _) | (with_reducible refine Below.drew ?_) | (with_reducible refine below_drewN ?_ _) | (refine below_then (by with_reducible assumption) ?_)))
      have hz2 := hb.size
      simp at hz2
      clear hb hr hr2 B0 B1
      obtain ⟨y0, y1, y2, y3, g0, g1, g2, g3, l1⟩ := c_blk C1
      clear C0 C1 CD HW2
      go_wp2
      refine bodyPost_ret (v := .tuple #[.agg #[.slice a B.length c, .int .i64 (se.p : Int), .int .i64 se.k, .int .i64 se.f], .slice none 0 0, .bool false]) (by simp [results, Try.results50, go_sem, y0, y1, y2, y3, l1]) rfl ⟨_, rfl, empty_bytes rfl rfl (by omega), by (repeat (first | with_reducible exact Below.refl _ _ | with_reducible assumption | (with_reducible refine below_alloc ?_ _) | (with_reducible refine Below.setCell ?_ (by first | omega | (simp; done) | (simp; omega)) _) | (with_reducible refine Below.drew ?_) | (with_reducible refine below_drewN ?_ _) | (refine below_then (by with_reducible assumption) ?_)))⟩
end Go.Proofs.Ytgcdbnbdbjaijaa
namespace Go.Proofs.Ytgcdbnbdbjaijaa
open Go.RowKit Go.Bs Go.Maps
set_option linter.unusedVariables false
set_option linter.unusedSimpArgs false

theorem Rs.loose_bad {B : List UInt8} {s : Rs} {most : Int} (h : (s.loose B most).1.k ≠ 0) : (s.loose B most).2.1 = [] ∧ (s.loose B most).2.2 = false := by
  unfold Rs.loose at *
  by_cases h1 : ((s.int B (min most 1048576)).1.byte B).1.k = 0
  · rw [if_pos h1] at h ⊢
    by_cases h2 : ((s.int B (min most 1048576)).1.byte B).2.toNat = 0
    · rw [if_pos h2] at h ⊢
      by_cases h3 : (((s.int B (min most 1048576)).1.byte B).1.take B ((s.int B (min most 1048576)).2 : Int)).1.k = 0
      · rw [if_pos h3] at h; exact absurd h3 h
      · rw [if_neg h3]; exact ⟨rfl, rfl⟩
    · rw [if_neg h2] at h ⊢
      by_cases h4 : ((s.int B (min most 1048576)).1.byte B).2.toNat = 1
      · rw [if_pos h4] at h ⊢
        by_cases h3 : (((s.int B (min most 1048576)).1.byte B).1.unp B (s.int B (min most 1048576)).2).1.k = 0
        · rw [if_pos h3] at h; exact absurd h3 h
        · rw [if_neg h3]; exact ⟨rfl, rfl⟩
      · rw [if_neg h4]; exact ⟨rfl, rfl⟩
  · rw [if_neg h1]; exact ⟨rfl, rfl⟩

set_option maxRecDepth 100000 in
set_option maxHeartbeats 3200000 in
theorem ref16_read (w : World) (a : Option Addr) (c : Nat) (B : List UInt8) (hl : rBytes.r (· < w.heap.size) w [.slice a B.length c] B) (s : Rs) (hs : s.ok B.length) (hB : B.length ≤ 1000000000) (most : Int) (hm : -9223372036854775808 ≤ most ∧ most ≤ 9223372036854775807) :
    Calls Try.prog 48 #[CV a B.length c s, .int .i64 most] w fun r w' => ∃ v, r = .returned (.tuple #[CV a B.length c (Rs.strict (s.loose B most)).1, v]) ∧ rBytes.r (fun q => w.heap.size ≤ q ∧ q < w'.heap.size) w' [v] (Rs.strict (s.loose B most)).2 ∧ Below w.heap.size w w' := by
  have hLS := hid (fun (W : World) (hW : Below w.heap.size w W) => ref16_loose W a c B (lift hl hW) s hs hB most hm)
  have hbad := Rs.loose_bad (B := B) (s := s) (most := most)
  unfold Rs.strict
  generalize s.loose B most = L at *
  obtain ⟨s1, D, q⟩ := L
  have hF := hid (fun (W : World) => ref02_fail W a B.length c s1 12 s1.p (by omega))
  dsimp only at *
  clear hl hs
  unfold CV at *
  by_cases hk : s1.k = 0
  · have dk : (s1.k == (0 : Int)) = true := by simp [hk]
    rw [if_pos hk]
    clear hk hbad
    cases q
    · rw [if_neg (by simp)]
      dsimp only
      generalize s1.fail 12 s1.p = s2 at *
      go_enter Try.func48, Try.ntmps48
      go_wp2_with fail
      refine (hLS.out _ (by (repeat (first | with_reducible exact Below.refl _ _ | with_reducible assumption | (with_reducible refine below_alloc ?_ _) | (with_reducible refine Below.setCell ?_ (by first | omega | (simp; done) | (simp; omega)) _) | (with_reducible refine Below.drew ?_) | (with_reducible refine below_drewN ?_ _) | (refine below_then (by with_reducible assumption) ?_))))).mono ?_
      rintro r w1 ⟨v, rfl, hr, hb⟩

      obtain ⟨a1, c1, hv, hr2, _⟩ := sl_form hr
      simp only [List.cons.injEq, and_true] at hv
      subst hv

      have B1 : Blk w1 (w.heap.size + 1) 61 #[.slice none 0 0, .int .i64 0, .int .i64 0, .int .i64 0] := Blk.later (by (repeat (first | assumption | exact Blk.newAt _ _ _ (by first | (simp; done) | (simp; omega)) | refine Blk.alloc ?_ _ | refine Blk.drew ?_ | refine Blk.drewN ?_ _ | refine Blk.far ?_ (by first | (simp; done) | (simp; omega)) _))) hb
      have hbw : Below w.heap.size w w1 := by (repeat (first | with_reducible exact Below.refl _ _ | with_reducible assumption | (with_reducible refine below_alloc ?_ _) | (with_reducible refine Below.setCell ?_ (by first | omega | (simp; done) | (simp; omega)) _) | (with_reducible refine Below.drew ?_) | (with_reducible refine below_drewN ?_ _) | (refine below_then (by with_reducible assumption) ?_)))
      have HR := hid hr2
      have hz1 := hb.size
      simp at hz1
      clear hr hr2 hb

      go_wp2_with fail
      refine (hF.out _).mono ?_
      rintro r w2 ⟨rfl, hb2⟩
      have B1' := (B1.alloc _).later hb2
      have hbw2 : Below w.heap.size w w2 := by (repeat (first | with_reducible exact Below.refl _ _ | with_reducible assumption | (with_reducible refine below_alloc ?_ _) | (with_reducible refine Below.setCell ?_ (by first | omega | (simp; done) | (simp; omega)) _) | (with_reducible refine Below.drew ?_) | (with_reducible refine below_drewN ?_ _) | (refine below_then (by with_reducible assumption) ?_)))
      obtain ⟨y0, y1, y2, y3, g0, g1, g2, g3, l1⟩ := c_blk B1'
      clear hb2 B1 B1'
      go_wp2
      refine bodyPost_ret (v := .tuple #[.agg #[.slice a B.length c, .int .i64 (s2.p : Int), .int .i64 s2.k, .int .i64 s2.f], .slice none 0 0]) (by simp [results, Try.results48, go_sem, y0, y1, y2, y3, l1]) rfl ⟨_, rfl, empty_bytes rfl rfl (by omega), by (repeat (first | with_reducible exact Below.refl _ _ | with_reducible assumption | (with_reducible refine below_alloc ?_ _) | (with_reducible refine Below.setCell ?_ (by first | omega | (simp; done) | (simp; omega)) _) | (with_reducible refine Below.drew ?_) | (with_reducible refine below_drewN ?_ _) | (refine below_then (by with_reducible assumption) ?_)))⟩
    · rw [if_pos rfl]
      dsimp only
      go_enter Try.func48, Try.ntmps48
      go_wp2_with fail
      refine (hLS.out _ (by (repeat (first | with_reducible exact Below.refl _ _ | with_reducible assumption | (with_reducible refine below_alloc ?_ _) | (with_reducible refine Below.setCell ?_ (by first | omega | (simp; done) | (simp; omega)) _) | (with_reducible refine Below.drew ?_) | (with_reducible refine below_drewN ?_ _) | (refine below_then (by with_reducible assumption) ?_))))).mono ?_
      rintro r w1 ⟨v, rfl, hr, hb⟩

      obtain ⟨a1, c1, hv, hr2, _⟩ := sl_form hr
      simp only [List.cons.injEq, and_true] at hv
      subst hv

      have B1 : Blk w1 (w.heap.size + 1) 61 #[.slice none 0 0, .int .i64 0, .int .i64 0, .int .i64 0] := Blk.later (by (repeat (first | assumption | exact Blk.newAt _ _ _ (by first | (simp; done) | (simp; omega)) | refine Blk.alloc ?_ _ | refine Blk.drew ?_ | refine Blk.drewN ?_ _ | refine Blk.far ?_ (by first | (simp; done) | (simp; omega)) _))) hb
      have hbw : Below w.heap.size w w1 := by (repeat (first | with_reducible exact Below.refl _ _ | with_reducible assumption | (with_reducible refine below_alloc ?_ _) | (with_reducible refine Below.setCell ?_ (by first | omega | (simp; done) | (simp; omega)) _) | (with_reducible refine Below.drew ?_) | (with_reducible refine below_drewN ?_ _) | (refine below_then (by with_reducible assumption) ?_)))
      have HR := hid hr2
      have hz1 := hb.size
      simp at hz1
      clear hr hr2 hb

      obtain ⟨y0, y1, y2, y3, g0, g1, g2, g3, l1⟩ := c_blk B1
      clear B1
      go_wp2
      refine bodyPost_ret (v := .tuple #[.agg #[.slice a B.length c, .int .i64 (s1.p : Int), .int .i64 s1.k, .int .i64 s1.f], .slice a1 D.length c1]) (by simp [results, Try.results48, go_sem, y0, y1, y2, y3, l1]) rfl ⟨_, rfl, ?_, by (repeat (first | with_reducible exact Below.refl _ _ | with_reducible assumption | (with_reducible refine below_alloc ?_ _) | (with_reducible refine Below.setCell ?_ (by first | omega | (simp; done) | (simp; omega)) _) | (with_reducible refine Below.drew ?_) | (with_reducible refine below_drewN ?_ _) | (refine below_then (by with_reducible assumption) ?_)))⟩
      refine rBytes.mono (rBytes.keep HR.out fun q hq => ?_) fun q hq => ⟨by have := hq.1; simp at this; omega, by have := hq.2; simp [World.setCell]; omega⟩
      have hq1 := hq.1
      have hq2 := hq.2
      simp at hq1
      repeat (first | rw [Below.heap_setCell _ _ _ _ (by dsimp only; omega)] | rw [Below.heap_alloc _ _ _ (by simp [World.setCell]; omega)])
  · have dk : (s1.k == (0 : Int)) = false := by simp [hk]
    rw [if_neg hk]
    obtain ⟨hD, hq⟩ := hbad hk
    subst hD
    subst hq
    dsimp only
    clear hk
    go_enter Try.func48, Try.ntmps48
    go_wp2_with fail
    refine (hLS.out _ (by (repeat (first | with_reducible exact Below.refl _ _ | with_reducible assumption | (with_reducible refine below_alloc ?_ _) | (with_reducible refine Below.setCell ?_ (by first | omega | (simp; done) | (simp; omega)) _) | (with_reducible refine Below.drew ?_) | (with_reducible refine below_drewN ?_ _) | (refine below_then (by with_reducible assumption) ?_))))).mono ?_
    rintro r w1 ⟨v, rfl, hr, hb⟩

    obtain ⟨a1, c1, hv, hr2, _⟩ := sl_form hr
    simp only [List.cons.injEq, and_true] at hv
    subst hv

    have B1 : Blk w1 (w.heap.size + 1) 61 #[.slice none 0 0, .int .i64 0, .int .i64 0, .int .i64 0] := Blk.later (by (repeat (first | assumption | exact Blk.newAt _ _ _ (by first | (simp; done) | (simp; omega)) | refine Blk.alloc ?_ _ | refine Blk.drew ?_ | refine Blk.drewN ?_ _ | refine Blk.far ?_ (by first | (simp; done) | (simp; omega)) _))) hb
    have hbw : Below w.heap.size w w1 := by (repeat (first | with_reducible exact Below.refl _ _ | with_reducible assumption | (with_reducible refine below_alloc ?_ _) | (with_reducible refine Below.setCell ?_ (by first | omega | (simp; done) | (simp; omega)) _) | (with_reducible refine Below.drew ?_) | (with_reducible refine below_drewN ?_ _) | (refine below_then (by with_reducible assumption) ?_)))
    have HR := hid hr2
    have hz1 := hb.size
    simp at hz1
    clear hr hr2 hb

    obtain ⟨y0, y1, y2, y3, g0, g1, g2, g3, l1⟩ := c_blk B1
    clear B1
    go_wp2
    refine bodyPost_ret (v := .tuple #[.agg #[.slice a B.length c, .int .i64 (s1.p : Int), .int .i64 s1.k, .int .i64 s1.f], .slice a1 ([] : List UInt8).length c1]) (by simp [results, Try.results48, go_sem, y0, y1, y2, y3, l1]) rfl ⟨_, rfl, ?_, by (repeat (first | with_reducible exact Below.refl _ _ | with_reducible assumption | (with_reducible refine below_alloc ?_ _) | (with_reducible refine Below.setCell ?_ (by first | omega | (simp; done) | (simp; omega)) _) | (with_reducible refine Below.drew ?_) | (with_reducible refine below_drewN ?_ _) | (refine below_then (by with_reducible assumption) ?_)))⟩
    refine rBytes.mono (rBytes.keep HR.out fun q hq => ?_) fun q hq => ⟨by have := hq.1; simp at this; omega, by have := hq.2; simp [World.setCell]; omega⟩
    have hq1 := hq.1
    have hq2 := hq.2
    simp at hq1
    repeat (first | rw [Below.heap_setCell _ _ _ _ (by dsimp only; omega)] | rw [Below.heap_alloc _ _ _ (by simp [World.setCell]; omega)])
end Go.Proofs.Ytgcdbnbdbjaijaa
namespace Go.Proofs.Ytgcdbnbdbjaijaa
open Go.RowKit Go.Bs Go.Maps
set_option linter.unusedVariables false
set_option linter.unusedSimpArgs false

theorem rd_again {W : World} {g w0 : Nat} {B : List UInt8} {a : Option Addr} {s : Rs} (hb : Blk W g 107 #[.slice a B.length B.length, .int .i64 (s.p : Int), .int .i64 s.k, .int .i64 s.f]) (hd : rBytes.r (· < w0) W [.slice a B.length B.length] B) (hg : w0 ≤ g) (hs : s.ok B.length) : RdAt W g B a s :=
  ⟨hb, rBytes.mono hd fun q hq => ⟨Nat.lt_of_lt_of_le hq (Nat.le_trans hg (Nat.le_of_lt hb.lt)), by omega⟩, hs⟩

set_option maxRecDepth 100000 in
set_option maxHeartbeats 12800000 in
theorem blockReads_c (b : List UInt8) (a : Option Addr) (n c : Nat) (most : Int) (hmo : -9223372036854775808 ≤ most ∧ most ≤ 9223372036854775807) (w : World) (hl : rBytes.r (· < w.heap.size) w [.slice a n c] b) :
    Calls Try.prog 9 #[.slice a n c, .int .i64 most] w fun r w' => r = .returned (.bool true) ∧ Below w.heap.size w w' := by
  obtain ⟨rfl, hm, hcc, hcm⟩ := sl_len hl
  have hcap : rBytes.r (· < w.heap.size) w [.slice a b.length b.length] b := by
    obtain ⟨a', c', e, h1, h2, h3⟩ := hl
    simp at e
    obtain ⟨rfl, rfl⟩ := e
    exact rSl_mk rfl (Nat.le_refl _) (by simp [maxLen]; omega) h3
  by_cases h200 : b.length ≤ 200
  · have d0 : decide ((200 : Int) < (b.length : Int)) = false := decide_eq_false (by omega)
    have hM : (if most ≤ 200 then most else 200) = min most 200 := by split <;> omega
    have hM2 : (if (200 : Int) < most then (200 : Int) else most) = min most 200 := by split <;> omega
    have hM3 : ¬ most ≤ 200 → min most 200 = 200 := by omega
    have hMr : -9223372036854775808 ≤ min most 200 ∧ min most 200 ≤ 9223372036854775807 := by omega
    generalize min most 200 = M at *
    have HL := hid hl
    have HCAP := hid hcap
    have hNEW := hid (fun (W : World) (hW : Below w.heap.size w W) => rd_new W b a _ c (lift HL.out hW))
    have hok0 : (⟨0, 0, 0⟩ : Rs).ok b.length := ⟨Nat.zero_le _, fun _ => rfl⟩
    have hRD := hid (fun (W : World) (g : Nat) (h : RdAt W g b a ⟨0, 0, 0⟩) => block_read W h (by omega) M hMr)
    have hLS := hid (fun (W : World) (g : Nat) (h : RdAt W g b a ⟨0, 0, 0⟩) => block_loose W h (by omega) M hMr)
    have hRR := hid (fun (W : World) (hW : Below w.heap.size w W) => ref16_read W a c b (lift HL.out hW) ⟨0, 0, 0⟩ hok0 (by omega) M hMr)
    have hRL := hid (fun (W : World) (hW : Below w.heap.size w W) => ref16_loose W a c b (lift HL.out hW) ⟨0, 0, 0⟩ hok0 (by omega) M hMr)
    have hGT := hid (fun (W : World) (hW : Below w.heap.size w W) => block_get W b a _ c (lift HL.out hW) (by omega) M hMr)
    have hGL := hid (fun (W : World) (hW : Below w.heap.size w W) => block_getloose W b a _ c (lift HL.out hW) (by omega) M hMr)
    have hbad := Rs.loose_bad (B := b) (s := ⟨0, 0, 0⟩) (most := M)
    have hlok := Rs.loose_ok (B := b) (s := ⟨0, 0, 0⟩) hok0 M
    unfold Rs.strict at hRD hRR hGT
    generalize (⟨0, 0, 0⟩ : Rs).loose b M = L at *
    obtain ⟨⟨p, k, f⟩, D, q⟩ := L
    dsimp only at *
    unfold CV at *
    clear hl hcap
    by_cases hk : k = 0
    · have hf := hlok.zero hk
      dsimp only at hf
      subst hk
      subst hf
      unfold getL getR at *
      simp only [if_true] at hRD hRR hGT hGL
      have hpl := hlok.le
      dsimp only at hpl
      clear hbad hlok
      cases q
      · simp only [Bool.false_eq_true, if_false, Rs.fail, if_true, show ¬ ((12 : Int) = 0) by omega] at hRD hRR hGT
        go_enter Try.func9, Try.ntmps9
        go_wp2_with fail
        refine (hNEW.out _ (Below.refl _ _)).mono ?_
        rintro r w1 ⟨rfl, hr1, hb1⟩
        have R1 := hr1.blk
        have hbw1 := hb1
        clear hr1
        go_wp2_with fail
        refine (hNEW.out _ hbw1).mono ?_
        rintro r w2 ⟨rfl, hr2, hb2⟩
        have R2 := hr2.blk
        have hbw2 := below_then hb2 hbw1
        have hz2 := hr2.blk.lt
        have hz1 := R1.lt
        have hrd := rd_again (R1.later hb2) (Rp.below rBytes HCAP.out hbw2) (Nat.le_refl _) hok0
        have HC := hid (hRD.out w2 _ hrd)
        clear hr2 hrd
        go_wp2_with fail
        refine HC.out.mono ?_
        rintro r w3 ⟨v, rfl, hr, hst⟩

        obtain ⟨a3, c3, hv, hr2, _⟩ := sl_form hr
        simp only [List.cons.injEq, and_true] at hv
        subst hv

        have R1b := hst.1.blk
        have R2b := R2.tch hst.2 (by omega)
        have hbw3 := hbw2.trans (hst.below hbw2.size (by omega))
        have hz3 := hst.size
        have HP3 := hid (rBytes.mono (S' := fun q => w2.heap.size ≤ q ∧ q < w3.heap.size) hr2 fun q hq => hq)
        clear hr hr2 hst R1 R2
        go_wp2_with fail
        refine (hRR.out _ hbw3).mono ?_
        rintro r w4 ⟨v, rfl, hr, hb4⟩

        obtain ⟨a4, c4, hv, hr2, _⟩ := sl_form hr
        simp only [List.cons.injEq, and_true] at hv
        subst hv

        have hbw4 := below_then hb4 hbw3
        have HP4 := hid (rBytes.mono (S' := fun q => w2.heap.size ≤ q ∧ q < w4.heap.size) hr2 fun q hq => ⟨by omega, hq.2⟩)
        have hz4 := hb4.size
        have hb34 := hb4
        clear hr hr2 hb4
        have R2c : Blk (w4.alloc (.cells #[.slice a b.length c, .int .i64 ((⟨p, 12, (p : Int)⟩ : Rs).p : Int), .int .i64 (⟨p, 12, (p : Int)⟩ : Rs).k, .int .i64 (⟨p, 12, (p : Int)⟩ : Rs).f] 61)) w1.heap.size 107 #[.slice a b.length b.length, .int .i64 0, .int .i64 0, .int .i64 0] := (R2b.later hb34).alloc _
        have hbw4l : Below w.heap.size w (w4.alloc (.cells #[.slice a b.length c, .int .i64 ((⟨p, 12, (p : Int)⟩ : Rs).p : Int), .int .i64 (⟨p, 12, (p : Int)⟩ : Rs).k, .int .i64 (⟨p, 12, (p : Int)⟩ : Rs).f] 61)) := by (repeat (first | with_reducible exact Below.refl _ _ | with_reducible assumption | (with_reducible refine below_alloc ?_ _) | (with_reducible refine Below.setCell ?_ (by first | omega | (simp; done) | (simp; omega)) _) | (with_reducible refine Below.drew ?_) | (with_reducible refine below_drewN ?_ _) | (refine below_then (by with_reducible assumption) ?_)))
        have hrd2 := rd_again R2c (Rp.below rBytes HCAP.out hbw4l) (Nat.le_of_lt R1b.lt |> fun _ => by omega) hok0
        have HC2 := hid (hLS.out _ _ hrd2)
        have D4 := Blk.new w4 61 #[.slice a b.length c, .int .i64 ((⟨p, 12, (p : Int)⟩ : Rs).p : Int), .int .i64 (⟨p, 12, (p : Int)⟩ : Rs).k, .int .i64 (⟨p, 12, (p : Int)⟩ : Rs).f]
        have R1c := (R1b.later hb34).alloc (.cells #[.slice a b.length c, .int .i64 ((⟨p, 12, (p : Int)⟩ : Rs).p : Int), .int .i64 (⟨p, 12, (p : Int)⟩ : Rs).k, .int .i64 (⟨p, 12, (p : Int)⟩ : Rs).f] 61)
        clear hrd2 R2c
        go_wp2_with fail
        refine HC2.out.mono ?_
        rintro r w5 ⟨v, rfl, hr, hst⟩

        obtain ⟨a5, c5, hv, hr2, _⟩ := sl_form hr
        simp only [List.cons.injEq, and_true] at hv
        subst hv

        have hz5 := hst.size
        simp at hz5
        have R2d := hst.1.blk
        have R1d := R1c.tch hst.2 (by omega)
        have D5 := D4.tch hst.2 (by omega)
        have hbw5 : Below w.heap.size w w5 := hbw4l.trans (hst.below hbw4l.size (by omega))
        have HP5 := hid (rBytes.mono (S' := (· < w5.heap.size)) hr2 fun q hq => hq.2)
        have HT5 := hid hst.2
        clear hr hr2 hst D4 R1c R1b R2b
        go_wp2_with fail
        refine (hRL.out _ hbw5).mono ?_
        rintro r w6 ⟨v, rfl, hr, hb6⟩

        obtain ⟨a6, c6, hv, hr2, _⟩ := sl_form hr
        simp only [List.cons.injEq, and_true] at hv
        subst hv

        have hbw6 := below_then hb6 hbw5
        have HP6 := hid (rBytes.mono (S' := (· < w6.heap.size)) hr2 fun q hq => hq.2)
        have R1e := R1d.later hb6
        have R2e := R2d.later hb6
        have D6 := D5.later hb6
        have hz6 := hb6.size
        have HK6 : Hid (∀ q, w2.heap.size ≤ q → q < w4.heap.size → w6.heap[q]? = w4.heap[q]?) := hid fun q h1 h2 => (hb6.block q (by omega)).trans ((HT5.out.block q (by simp; omega) (by omega)).trans (Below.heap_alloc w4 _ q h2))
        have HQ3 := hid (rBytes.mono (S' := (· < w6.heap.size)) (rBytes.keep HP3.out fun q hq => (HK6.out q hq.1 (by omega)).trans (hb34.block q hq.2)) fun q hq => by omega)
        have HQ4 := hid (rBytes.mono (S' := (· < w6.heap.size)) (rBytes.keep HP4.out fun q hq => HK6.out q hq.1 hq.2) fun q hq => by omega)
        have HQ5 := hid (lift HP5.out hb6)
        have HR1 := hid R1e
        have HR2 := hid R2e
        have HD6 := hid D6
        clear hr hr2 R1d R2d D5 R1e R2e D6 hb34 hb6
        go_wp2_with fail
        refine wp_world (fun W => Blk W w4.heap.size 61 #[.slice a b.length c, .int .i64 ((⟨p, 12, (p : Int)⟩ : Rs).p : Int), .int .i64 (⟨p, 12, (p : Int)⟩ : Rs).k, .int .i64 (⟨p, 12, (p : Int)⟩ : Rs).f] ∧ Blk W w6.heap.size 61 #[.slice a b.length c, .int .i64 ((⟨p, 0, 0⟩ : Rs).p : Int), .int .i64 (⟨p, 0, 0⟩ : Rs).k, .int .i64 (⟨p, 0, 0⟩ : Rs).f] ∧ Blk W w.heap.size 107 #[.slice a b.length b.length, .int .i64 ((⟨p, 12, (p : Int)⟩ : Rs).p : Int), .int .i64 (⟨p, 12, (p : Int)⟩ : Rs).k, .int .i64 (⟨p, 12, (p : Int)⟩ : Rs).f] ∧ Blk W w1.heap.size 107 #[.slice a b.length b.length, .int .i64 ((⟨p, 0, 0⟩ : Rs).p : Int), .int .i64 (⟨p, 0, 0⟩ : Rs).k, .int .i64 (⟨p, 0, 0⟩ : Rs).f] ∧ Below w6.heap.size w6 W) ⟨HD6.out.alloc _, Blk.newAt _ _ _ rfl, HR1.out.alloc _, HR2.out.alloc _, by clear hbw1 hbw2 hbw3 hbw4 hbw4l hbw5 hbw6; (repeat (first | with_reducible exact Below.refl _ _ | with_reducible assumption | (with_reducible refine below_alloc ?_ _) | (with_reducible refine Below.setCell ?_ (by first | omega | (simp; done) | (simp; omega)) _) | (with_reducible refine Below.drew ?_) | (with_reducible refine below_drewN ?_ _) | (refine below_then (by with_reducible assumption) ?_)))⟩ ?_
        rintro W ⟨DW, CW, RW1, RW2, hbW⟩
        have hbwW := below_then hbW hbw6
        have M1 := fun s : Later W => s.cell (DW.cell 1)
        have M2 := fun s : Later W => s.cell (DW.cell 2)
        have M3 := fun s : Later W => s.cell (DW.cell 3)
        have N1 := fun s : Later W => s.cell (CW.cell 1)
        have N2 := fun s : Later W => s.cell (CW.cell 2)
        have N3 := fun s : Later W => s.cell (CW.cell 3)
        simp at M1 M2 M3 N1 N2 N3
        have hS1 := fun s : Later W => same_bytes ([] : List UInt8) ([] : List UInt8) a3 a4 _ c3 _ c4 s.at_ (lift HQ3.out (below_then s.below hbW)) (lift HQ4.out (below_then s.below hbW))
        have hS2 := fun s : Later W => same_bytes D D a5 a6 _ c5 _ c6 s.at_ (lift HQ5.out (below_then s.below hbW)) (lift HP6.out (below_then s.below hbW))
        simp only [decide_true] at hS1 hS2
        have HS1 := hid hS1
        have HS2 := hid hS2
        have HF1 := hid (fun s : Later W => rd_fault s.at_ (rd_again (RW1.later s.below) (Rp.below rBytes HCAP.out (below_then s.below hbwW)) (Nat.le_refl _) ⟨hpl, fun e => by simp at e⟩))
        have HF2 := hid (fun s : Later W => rd_fault s.at_ (rd_again (RW2.later s.below) (Rp.below rBytes HCAP.out (below_then s.below hbwW)) (by omega) ⟨hpl, fun _ => rfl⟩))
        have HDW := hid DW
        have HCW := hid CW
        clear hS1 hS2 DW CW
        refine wp_region_later (by kernel_rfl) (by kernel_rfl) ?_
        repeat (go_big_quiet_step ((first | (go_at_call 20; first | with_reducible exact later_same (HS1.out _) | with_reducible exact later_same (HS2.out _)) | (go_at_call 51; first | with_reducible exact later_of (HF1.out _) | with_reducible exact later_of (HF2.out _)))))
        refine wpQuiet_nil ?_
        rintro W7 ⟨⟨W7', hb7⟩, rfl⟩
        have hbwW7 := below_then hb7 hbwW
        have hb67 := below_then hb7 hbW
        have hz67 := hb67.size
        clear HS1 HS2 HF1 HF2 M1 M2 M3 N1 N2 N3
        go_wp2_with fail
        refine (hGT.out _ hbwW7).mono ?_
        rintro r w8 ⟨v, rfl, hr, hb8⟩

        obtain ⟨a8, c8, hv, hr2, _⟩ := sl_form hr
        simp only [List.cons.injEq, and_true] at hv
        subst hv

        have HP8 := hid (rBytes.mono (S' := (· < w8.heap.size)) hr2 fun q hq => hq.2)
        have F8 := Blk.newAt w8 48 #[.int .i64 12, .int .i64 (p : Int)] rfl
        have hb8a : Below w8.heap.size w8 (w8.alloc (.cells #[.int .i64 12, .int .i64 (p : Int)] 48)) := below_alloc (Below.refl _ _) _
        have hb78 := below_then hb8a hb8
        have hbw8 := below_then hb78 hbwW7
        clear hr hr2 hb8
        go_wp2_with fail
        refine (hGL.out _ hbw8).mono ?_
        rintro r w9 ⟨v, rfl, hr, hb9⟩

        obtain ⟨a9, c9, hv, hr2, _⟩ := sl_form hr
        simp only [List.cons.injEq, and_true] at hv
        subst hv

        have HP9 := hid (rBytes.mono (S' := (· < w9.heap.size)) hr2 fun q hq => hq.2)
        have hb9a : Below w9.heap.size w9 (w9.alloc (.cells #[.int .i64 0, .int .i64 0] 48)) := below_alloc (Below.refl _ _) _
        have F9 := Blk.newAt w9 48 #[.int .i64 0, .int .i64 0] rfl
        have hb89 := below_then hb9a (below_then hb9 hb8a)
        have hb79 := below_then hb9a (below_then hb9 hb78)
        have hb69 := below_then hb79 hb67
        have hbw9 := below_then hb79 hbwW7
        have F8b := (F8.later hb9).alloc (.cells #[.int .i64 0, .int .i64 0] 48)
        have D9 := (HDW.out.later hb7).later hb79
        have C9 := (HCW.out.later hb7).later hb79
        have R19 := (RW1.later hb7).later hb79
        have R29 := (RW2.later hb7).later hb79
        obtain ⟨x0, x1, e0, e1, l8⟩ := f_blk F8b
        obtain ⟨y0, y1, g0, g1, l9⟩ := f_blk F9
        obtain ⟨m0, m1, m2, m3, _, _, _, _, lD⟩ := c_blk D9
        obtain ⟨n0, n1, n2, n3, _, _, _, _, lC⟩ := c_blk C9
        have hS1 := same_bytes ([] : List UInt8) ([] : List UInt8) a8 a4 _ c8 _ c4 _ (lift HP8.out hb89) (lift HQ4.out hb69)
        have hS2 := same_bytes D D a9 a6 _ c9 _ c6 _ (lift HP9.out hb9a) (lift HP6.out hb69)
        simp only [decide_true] at hS1 hS2
        have HS1 := hid hS1
        have HS2 := hid hS2
        have HDCR := hid (And.intro D9 (And.intro C9 (And.intro R19 R29)))
        clear hr hr2 hb9 F8 F8b F9 D9 C9 R19 R29 hS1 hS2
        go_wp2_with fail
        refine HS1.out.mono ?_
        rintro r w9' ⟨rfl, rfl⟩
        go_wp2_with fail
        refine HS2.out.mono ?_
        rintro r w9' ⟨rfl, rfl⟩
        go_wp2_with fail
        refine wp_world (fun W => Blk W w4.heap.size 61 #[.slice a b.length c, .int .i64 ((⟨p, 12, (p : Int)⟩ : Rs).p : Int), .int .i64 (⟨p, 12, (p : Int)⟩ : Rs).k, .int .i64 (⟨p, 12, (p : Int)⟩ : Rs).f] ∧ Blk W w6.heap.size 61 #[.slice a b.length c, .int .i64 ((⟨p, 0, 0⟩ : Rs).p : Int), .int .i64 (⟨p, 0, 0⟩ : Rs).k, .int .i64 (⟨p, 0, 0⟩ : Rs).f] ∧ Blk W w.heap.size 107 #[.slice a b.length b.length, .int .i64 ((⟨p, 12, (p : Int)⟩ : Rs).p : Int), .int .i64 (⟨p, 12, (p : Int)⟩ : Rs).k, .int .i64 (⟨p, 12, (p : Int)⟩ : Rs).f] ∧ Blk W w1.heap.size 107 #[.slice a b.length b.length, .int .i64 ((⟨p, 0, 0⟩ : Rs).p : Int), .int .i64 (⟨p, 0, 0⟩ : Rs).k, .int .i64 (⟨p, 0, 0⟩ : Rs).f] ∧ Below w.heap.size w W) ⟨HDCR.out.1, HDCR.out.2.1, HDCR.out.2.2.1, HDCR.out.2.2.2, hbw9⟩ ?_
        rintro V ⟨DV, CV', RV1, RV2, hbV⟩
        have M1 := fun s : Later V => s.cell (DV.cell 1)
        have M2 := fun s : Later V => s.cell (DV.cell 2)
        have M3 := fun s : Later V => s.cell (DV.cell 3)
        have N1 := fun s : Later V => s.cell (CV'.cell 1)
        have N2 := fun s : Later V => s.cell (CV'.cell 2)
        have N3 := fun s : Later V => s.cell (CV'.cell 3)
        simp at M1 M2 M3 N1 N2 N3
        have HA1 := hid (fun s : Later V => rd_at s.at_ (rd_again (RV1.later s.below) (Rp.below rBytes HCAP.out (below_then s.below hbV)) (Nat.le_refl _) ⟨hpl, fun e => by simp at e⟩))
        have HDV := hid DV
        have HCV := hid CV'
        have HRV := hid RV2
        clear DV CV' RV1 RV2 x0 x1 e0 e1 l8 y0 y1 g0 g1 l9 m0 m1 m2 m3 lD n0 n1 n2 n3 lC HS1 HS2 HDCR
        refine wp_region_later (by kernel_rfl) (by kernel_rfl) ?_
        repeat (go_big_quiet_step ((go_at_call 54; with_reducible exact later_same (HA1.out _))))
        refine wpQuiet_nil ?_
        clear M1 M2 M3 N1 N2 N3 HA1
        rintro V2 ⟨⟨V2', hb2V⟩, rfl⟩
        have hbV2 := below_then hb2V hbV
        have DV := HDV.out.later hb2V
        have CV' := HCV.out.later hb2V
        have RV2 := HRV.out.later hb2V
        have M1 := fun s : Later V2 => s.cell (DV.cell 1)
        have M2 := fun s : Later V2 => s.cell (DV.cell 2)
        have M3 := fun s : Later V2 => s.cell (DV.cell 3)
        have N1 := fun s : Later V2 => s.cell (CV'.cell 1)
        have N2 := fun s : Later V2 => s.cell (CV'.cell 2)
        have N3 := fun s : Later V2 => s.cell (CV'.cell 3)
        simp at M1 M2 M3 N1 N2 N3
        have HA2 := hid (fun s : Later V2 => rd_at s.at_ (rd_again (RV2.later s.below) (Rp.below rBytes HCAP.out (below_then s.below hbV2)) (by omega) ⟨hpl, fun _ => rfl⟩))
        have HLV := hid (fun s : Later V2 => live16 s.at_)
        clear DV CV' RV2 HDV HCV HRV
        go_wp2_with fail
        refine wp_region_later (by kernel_rfl) (by kernel_rfl) ?_
        repeat (go_big_quiet_step ((first | (go_at_call 54; with_reducible exact later_same (HA2.out _)) | (go_at_call 24; with_reducible exact later_of (HLV.out _)))))
        refine wpQuiet_nil ?_
        clear M1 M2 M3 N1 N2 N3
        rintro V3 ⟨⟨V3', hb3V⟩, rfl⟩
        have hbe := below_then hb3V hbV2
        go_wp2
        go_ret
        exact ⟨rfl, hbe⟩
      · simp only [if_true] at hRD hRR hGT
        go_enter Try.func9, Try.ntmps9
        go_wp2_with fail
        refine (hNEW.out _ (Below.refl _ _)).mono ?_
        rintro r w1 ⟨rfl, hr1, hb1⟩
        have R1 := hr1.blk
        have hbw1 := hb1
        clear hr1
        go_wp2_with fail
        refine (hNEW.out _ hbw1).mono ?_
        rintro r w2 ⟨rfl, hr2, hb2⟩
        have R2 := hr2.blk
        have hbw2 := below_then hb2 hbw1
        have hz2 := hr2.blk.lt
        have hz1 := R1.lt
        have hrd := rd_again (R1.later hb2) (Rp.below rBytes HCAP.out hbw2) (Nat.le_refl _) hok0
        have HC := hid (hRD.out w2 _ hrd)
        clear hr2 hrd
        go_wp2_with fail
        refine HC.out.mono ?_
        rintro r w3 ⟨v, rfl, hr, hst⟩

        obtain ⟨a3, c3, hv, hr2, _⟩ := sl_form hr
        simp only [List.cons.injEq, and_true] at hv
        subst hv

        have R1b := hst.1.blk
        have R2b := R2.tch hst.2 (by omega)
        have hbw3 := hbw2.trans (hst.below hbw2.size (by omega))
        have hz3 := hst.size
        have HP3 := hid (rBytes.mono (S' := fun q => w2.heap.size ≤ q ∧ q < w3.heap.size) hr2 fun q hq => hq)
        clear hr hr2 hst R1 R2
        go_wp2_with fail
        refine (hRR.out _ hbw3).mono ?_
        rintro r w4 ⟨v, rfl, hr, hb4⟩

        obtain ⟨a4, c4, hv, hr2, _⟩ := sl_form hr
        simp only [List.cons.injEq, and_true] at hv
        subst hv

        have hbw4 := below_then hb4 hbw3
        have HP4 := hid (rBytes.mono (S' := fun q => w2.heap.size ≤ q ∧ q < w4.heap.size) hr2 fun q hq => ⟨by omega, hq.2⟩)
        have hz4 := hb4.size
        have hb34 := hb4
        clear hr hr2 hb4
        have R2c : Blk (w4.alloc (.cells #[.slice a b.length c, .int .i64 ((⟨p, 0, 0⟩ : Rs).p : Int), .int .i64 (⟨p, 0, 0⟩ : Rs).k, .int .i64 (⟨p, 0, 0⟩ : Rs).f] 61)) w1.heap.size 107 #[.slice a b.length b.length, .int .i64 0, .int .i64 0, .int .i64 0] := (R2b.later hb34).alloc _
        have hbw4l : Below w.heap.size w (w4.alloc (.cells #[.slice a b.length c, .int .i64 ((⟨p, 0, 0⟩ : Rs).p : Int), .int .i64 (⟨p, 0, 0⟩ : Rs).k, .int .i64 (⟨p, 0, 0⟩ : Rs).f] 61)) := by (repeat (first | with_reducible exact Below.refl _ _ | with_reducible assumption | (with_reducible refine below_alloc ?_ _) | (with_reducible refine Below.setCell ?_ (by first | omega | (simp; done) | (simp; omega)) _) | (with_reducible refine Below.drew ?_) | (with_reducible refine below_drewN ?_ _) | (refine below_then (by with_reducible assumption) ?_)))
        have hrd2 := rd_again R2c (Rp.below rBytes HCAP.out hbw4l) (Nat.le_of_lt R1b.lt |> fun _ => by omega) hok0
        have HC2 := hid (hLS.out _ _ hrd2)
        have D4 := Blk.new w4 61 #[.slice a b.length c, .int .i64 ((⟨p, 0, 0⟩ : Rs).p : Int), .int .i64 (⟨p, 0, 0⟩ : Rs).k, .int .i64 (⟨p, 0, 0⟩ : Rs).f]
        have R1c := (R1b.later hb34).alloc (.cells #[.slice a b.length c, .int .i64 ((⟨p, 0, 0⟩ : Rs).p : Int), .int .i64 (⟨p, 0, 0⟩ : Rs).k, .int .i64 (⟨p, 0, 0⟩ : Rs).f] 61)
        clear hrd2 R2c
        go_wp2_with fail
        refine HC2.out.mono ?_
        rintro r w5 ⟨v, rfl, hr, hst⟩

        obtain ⟨a5, c5, hv, hr2, _⟩ := sl_form hr
        simp only [List.cons.injEq, and_true] at hv
        subst hv

        have hz5 := hst.size
        simp at hz5
        have R2d := hst.1.blk
        have R1d := R1c.tch hst.2 (by omega)
        have D5 := D4.tch hst.2 (by omega)
        have hbw5 : Below w.heap.size w w5 := hbw4l.trans (hst.below hbw4l.size (by omega))
        have HP5 := hid (rBytes.mono (S' := (· < w5.heap.size)) hr2 fun q hq => hq.2)
        have HT5 := hid hst.2
        clear hr hr2 hst D4 R1c R1b R2b
        go_wp2_with fail
        refine (hRL.out _ hbw5).mono ?_
        rintro r w6 ⟨v, rfl, hr, hb6⟩

        obtain ⟨a6, c6, hv, hr2, _⟩ := sl_form hr
        simp only [List.cons.injEq, and_true] at hv
        subst hv

        have hbw6 := below_then hb6 hbw5
        have HP6 := hid (rBytes.mono (S' := (· < w6.heap.size)) hr2 fun q hq => hq.2)
        have R1e := R1d.later hb6
        have R2e := R2d.later hb6
        have D6 := D5.later hb6
        have hz6 := hb6.size
        have HK6 : Hid (∀ q, w2.heap.size ≤ q → q < w4.heap.size → w6.heap[q]? = w4.heap[q]?) := hid fun q h1 h2 => (hb6.block q (by omega)).trans ((HT5.out.block q (by simp; omega) (by omega)).trans (Below.heap_alloc w4 _ q h2))
        have HQ3 := hid (rBytes.mono (S' := (· < w6.heap.size)) (rBytes.keep HP3.out fun q hq => (HK6.out q hq.1 (by omega)).trans (hb34.block q hq.2)) fun q hq => by omega)
        have HQ4 := hid (rBytes.mono (S' := (· < w6.heap.size)) (rBytes.keep HP4.out fun q hq => HK6.out q hq.1 hq.2) fun q hq => by omega)
        have HQ5 := hid (lift HP5.out hb6)
        have HR1 := hid R1e
        have HR2 := hid R2e
        have HD6 := hid D6
        clear hr hr2 R1d R2d D5 R1e R2e D6 hb34 hb6
        go_wp2_with fail
        refine wp_world (fun W => Blk W w4.heap.size 61 #[.slice a b.length c, .int .i64 ((⟨p, 0, 0⟩ : Rs).p : Int), .int .i64 (⟨p, 0, 0⟩ : Rs).k, .int .i64 (⟨p, 0, 0⟩ : Rs).f] ∧ Blk W w6.heap.size 61 #[.slice a b.length c, .int .i64 ((⟨p, 0, 0⟩ : Rs).p : Int), .int .i64 (⟨p, 0, 0⟩ : Rs).k, .int .i64 (⟨p, 0, 0⟩ : Rs).f] ∧ Blk W w.heap.size 107 #[.slice a b.length b.length, .int .i64 ((⟨p, 0, 0⟩ : Rs).p : Int), .int .i64 (⟨p, 0, 0⟩ : Rs).k, .int .i64 (⟨p, 0, 0⟩ : Rs).f] ∧ Blk W w1.heap.size 107 #[.slice a b.length b.length, .int .i64 ((⟨p, 0, 0⟩ : Rs).p : Int), .int .i64 (⟨p, 0, 0⟩ : Rs).k, .int .i64 (⟨p, 0, 0⟩ : Rs).f] ∧ Below w6.heap.size w6 W) ⟨HD6.out.alloc _, Blk.newAt _ _ _ rfl, HR1.out.alloc _, HR2.out.alloc _, by clear hbw1 hbw2 hbw3 hbw4 hbw4l hbw5 hbw6; (repeat (first | with_reducible exact Below.refl _ _ | with_reducible assumption | (with_reducible refine below_alloc ?_ _) | (with_reducible refine Below.setCell ?_ (by first | omega | (simp; done) | (simp; omega)) _) | (with_reducible refine Below.drew ?_) | (with_reducible refine below_drewN ?_ _) | (refine below_then (by with_reducible assumption) ?_)))⟩ ?_
        rintro W ⟨DW, CW, RW1, RW2, hbW⟩
        have hbwW := below_then hbW hbw6
        have M1 := fun s : Later W => s.cell (DW.cell 1)
        have M2 := fun s : Later W => s.cell (DW.cell 2)
        have M3 := fun s : Later W => s.cell (DW.cell 3)
        have N1 := fun s : Later W => s.cell (CW.cell 1)
        have N2 := fun s : Later W => s.cell (CW.cell 2)
        have N3 := fun s : Later W => s.cell (CW.cell 3)
        simp at M1 M2 M3 N1 N2 N3
        have hS1 := fun s : Later W => same_bytes D D a3 a4 _ c3 _ c4 s.at_ (lift HQ3.out (below_then s.below hbW)) (lift HQ4.out (below_then s.below hbW))
        have hS2 := fun s : Later W => same_bytes D D a5 a6 _ c5 _ c6 s.at_ (lift HQ5.out (below_then s.below hbW)) (lift HP6.out (below_then s.below hbW))
        simp only [decide_true] at hS1 hS2
        have HS1 := hid hS1
        have HS2 := hid hS2
        have HF1 := hid (fun s : Later W => rd_fault s.at_ (rd_again (RW1.later s.below) (Rp.below rBytes HCAP.out (below_then s.below hbwW)) (Nat.le_refl _) ⟨hpl, fun _ => rfl⟩))
        have HF2 := hid (fun s : Later W => rd_fault s.at_ (rd_again (RW2.later s.below) (Rp.below rBytes HCAP.out (below_then s.below hbwW)) (by omega) ⟨hpl, fun _ => rfl⟩))
        have HDW := hid DW
        have HCW := hid CW
        clear hS1 hS2 DW CW
        refine wp_region_later (by kernel_rfl) (by kernel_rfl) ?_
        repeat (go_big_quiet_step ((first | (go_at_call 20; first | with_reducible exact later_same (HS1.out _) | with_reducible exact later_same (HS2.out _)) | (go_at_call 51; first | with_reducible exact later_of (HF1.out _) | with_reducible exact later_of (HF2.out _)))))
        refine wpQuiet_nil ?_
        rintro W7 ⟨⟨W7', hb7⟩, rfl⟩
        have hbwW7 := below_then hb7 hbwW
        have hb67 := below_then hb7 hbW
        have hz67 := hb67.size
        clear HS1 HS2 HF1 HF2 M1 M2 M3 N1 N2 N3
        go_wp2_with fail
        refine (hGT.out _ hbwW7).mono ?_
        rintro r w8 ⟨v, rfl, hr, hb8⟩

        obtain ⟨a8, c8, hv, hr2, _⟩ := sl_form hr
        simp only [List.cons.injEq, and_true] at hv
        subst hv

        have HP8 := hid (rBytes.mono (S' := (· < w8.heap.size)) hr2 fun q hq => hq.2)
        have F8 := Blk.newAt w8 48 #[.int .i64 0, .int .i64 0] rfl
        have hb8a : Below w8.heap.size w8 (w8.alloc (.cells #[.int .i64 0, .int .i64 0] 48)) := below_alloc (Below.refl _ _) _
        have hb78 := below_then hb8a hb8
        have hbw8 := below_then hb78 hbwW7
        clear hr hr2 hb8
        go_wp2_with fail
        refine (hGL.out _ hbw8).mono ?_
        rintro r w9 ⟨v, rfl, hr, hb9⟩

        obtain ⟨a9, c9, hv, hr2, _⟩ := sl_form hr
        simp only [List.cons.injEq, and_true] at hv
        subst hv

        have HP9 := hid (rBytes.mono (S' := (· < w9.heap.size)) hr2 fun q hq => hq.2)
        have hb9a : Below w9.heap.size w9 (w9.alloc (.cells #[.int .i64 0, .int .i64 0] 48)) := below_alloc (Below.refl _ _) _
        have F9 := Blk.newAt w9 48 #[.int .i64 0, .int .i64 0] rfl
        have hb89 := below_then hb9a (below_then hb9 hb8a)
        have hb79 := below_then hb9a (below_then hb9 hb78)
        have hb69 := below_then hb79 hb67
        have hbw9 := below_then hb79 hbwW7
        have F8b := (F8.later hb9).alloc (.cells #[.int .i64 0, .int .i64 0] 48)
        have D9 := (HDW.out.later hb7).later hb79
        have C9 := (HCW.out.later hb7).later hb79
        have R19 := (RW1.later hb7).later hb79
        have R29 := (RW2.later hb7).later hb79
        obtain ⟨x0, x1, e0, e1, l8⟩ := f_blk F8b
        obtain ⟨y0, y1, g0, g1, l9⟩ := f_blk F9
        obtain ⟨m0, m1, m2, m3, _, _, _, _, lD⟩ := c_blk D9
        obtain ⟨n0, n1, n2, n3, _, _, _, _, lC⟩ := c_blk C9
        have hS1 := same_bytes D D a8 a4 _ c8 _ c4 _ (lift HP8.out hb89) (lift HQ4.out hb69)
        have hS2 := same_bytes D D a9 a6 _ c9 _ c6 _ (lift HP9.out hb9a) (lift HP6.out hb69)
        simp only [decide_true] at hS1 hS2
        have HS1 := hid hS1
        have HS2 := hid hS2
        have HDCR := hid (And.intro D9 (And.intro C9 (And.intro R19 R29)))
        clear hr hr2 hb9 F8 F8b F9 D9 C9 R19 R29 hS1 hS2
        go_wp2_with fail
        refine HS1.out.mono ?_
        rintro r w9' ⟨rfl, rfl⟩
        go_wp2_with fail
        refine HS2.out.mono ?_
        rintro r w9' ⟨rfl, rfl⟩
        go_wp2_with fail
        refine wp_world (fun W => Blk W w4.heap.size 61 #[.slice a b.length c, .int .i64 ((⟨p, 0, 0⟩ : Rs).p : Int), .int .i64 (⟨p, 0, 0⟩ : Rs).k, .int .i64 (⟨p, 0, 0⟩ : Rs).f] ∧ Blk W w6.heap.size 61 #[.slice a b.length c, .int .i64 ((⟨p, 0, 0⟩ : Rs).p : Int), .int .i64 (⟨p, 0, 0⟩ : Rs).k, .int .i64 (⟨p, 0, 0⟩ : Rs).f] ∧ Blk W w.heap.size 107 #[.slice a b.length b.length, .int .i64 ((⟨p, 0, 0⟩ : Rs).p : Int), .int .i64 (⟨p, 0, 0⟩ : Rs).k, .int .i64 (⟨p, 0, 0⟩ : Rs).f] ∧ Blk W w1.heap.size 107 #[.slice a b.length b.length, .int .i64 ((⟨p, 0, 0⟩ : Rs).p : Int), .int .i64 (⟨p, 0, 0⟩ : Rs).k, .int .i64 (⟨p, 0, 0⟩ : Rs).f] ∧ Below w.heap.size w W) ⟨HDCR.out.1, HDCR.out.2.1, HDCR.out.2.2.1, HDCR.out.2.2.2, hbw9⟩ ?_
        rintro V ⟨DV, CV', RV1, RV2, hbV⟩
        have M1 := fun s : Later V => s.cell (DV.cell 1)
        have M2 := fun s : Later V => s.cell (DV.cell 2)
        have M3 := fun s : Later V => s.cell (DV.cell 3)
        have N1 := fun s : Later V => s.cell (CV'.cell 1)
        have N2 := fun s : Later V => s.cell (CV'.cell 2)
        have N3 := fun s : Later V => s.cell (CV'.cell 3)
        simp at M1 M2 M3 N1 N2 N3
        have HA1 := hid (fun s : Later V => rd_at s.at_ (rd_again (RV1.later s.below) (Rp.below rBytes HCAP.out (below_then s.below hbV)) (Nat.le_refl _) ⟨hpl, fun _ => rfl⟩))
        have HDV := hid DV
        have HCV := hid CV'
        have HRV := hid RV2
        clear DV CV' RV1 RV2 x0 x1 e0 e1 l8 y0 y1 g0 g1 l9 m0 m1 m2 m3 lD n0 n1 n2 n3 lC HS1 HS2 HDCR
        refine wp_region_later (by kernel_rfl) (by kernel_rfl) ?_
        repeat (go_big_quiet_step ((go_at_call 54; with_reducible exact later_same (HA1.out _))))
        refine wpQuiet_nil ?_
        clear M1 M2 M3 N1 N2 N3 HA1
        rintro V2 ⟨⟨V2', hb2V⟩, rfl⟩
        have hbV2 := below_then hb2V hbV
        have DV := HDV.out.later hb2V
        have CV' := HCV.out.later hb2V
        have RV2 := HRV.out.later hb2V
        have M1 := fun s : Later V2 => s.cell (DV.cell 1)
        have M2 := fun s : Later V2 => s.cell (DV.cell 2)
        have M3 := fun s : Later V2 => s.cell (DV.cell 3)
        have N1 := fun s : Later V2 => s.cell (CV'.cell 1)
        have N2 := fun s : Later V2 => s.cell (CV'.cell 2)
        have N3 := fun s : Later V2 => s.cell (CV'.cell 3)
        simp at M1 M2 M3 N1 N2 N3
        have HA2 := hid (fun s : Later V2 => rd_at s.at_ (rd_again (RV2.later s.below) (Rp.below rBytes HCAP.out (below_then s.below hbV2)) (by omega) ⟨hpl, fun _ => rfl⟩))
        have HLV := hid (fun s : Later V2 => live16 s.at_)
        clear DV CV' RV2 HDV HCV HRV
        go_wp2_with fail
        refine wp_region_later (by kernel_rfl) (by kernel_rfl) ?_
        repeat (go_big_quiet_step ((first | (go_at_call 54; with_reducible exact later_same (HA2.out _)) | (go_at_call 24; with_reducible exact later_of (HLV.out _)))))
        refine wpQuiet_nil ?_
        clear M1 M2 M3 N1 N2 N3
        rintro V3 ⟨⟨V3', hb3V⟩, rfl⟩
        have hbe := below_then hb3V hbV2
        go_wp2
        go_ret
        exact ⟨rfl, hbe⟩
    · obtain ⟨hD, hq⟩ := hbad hk
      subst hD
      subst hq
      unfold getL getR at *
      simp only [hk, if_false] at hRD hRR hGT hGL
      have hk0 : (k == (0 : Int)) = false := by simp [hk]
      have hk1 : (k != (0 : Int)) = true := by simp [hk]
      have HLO := hid hlok
      have hkn := hid hk
      clear hbad hlok hk
      have hpl := HLO.out.le
      dsimp only at hpl

      go_enter Try.func9, Try.ntmps9
      go_wp2_with fail
      refine (hNEW.out _ (Below.refl _ _)).mono ?_
      rintro r w1 ⟨rfl, hr1, hb1⟩
      have R1 := hr1.blk
      have hbw1 := hb1
      clear hr1
      go_wp2_with fail
      refine (hNEW.out _ hbw1).mono ?_
      rintro r w2 ⟨rfl, hr2, hb2⟩
      have R2 := hr2.blk
      have hbw2 := below_then hb2 hbw1
      have hz2 := hr2.blk.lt
      have hz1 := R1.lt
      have hrd := rd_again (R1.later hb2) (Rp.below rBytes HCAP.out hbw2) (Nat.le_refl _) hok0
      have HC := hid (hRD.out w2 _ hrd)
      clear hr2 hrd
      go_wp2_with fail
      refine HC.out.mono ?_
      rintro r w3 ⟨v, rfl, hr, hst⟩

      obtain ⟨a3, c3, hv, hr2, _⟩ := sl_form hr
      simp only [List.cons.injEq, and_true] at hv
      subst hv

      have R1b := hst.1.blk
      have R2b := R2.tch hst.2 (by omega)
      have hbw3 := hbw2.trans (hst.below hbw2.size (by omega))
      have hz3 := hst.size
      have HP3 := hid (rBytes.mono (S' := fun q => w2.heap.size ≤ q ∧ q < w3.heap.size) hr2 fun q hq => hq)
      clear hr hr2 hst R1 R2
      go_wp2_with fail
      refine (hRR.out _ hbw3).mono ?_
      rintro r w4 ⟨v, rfl, hr, hb4⟩

      obtain ⟨a4, c4, hv, hr2, _⟩ := sl_form hr
      simp only [List.cons.injEq, and_true] at hv
      subst hv

      have hbw4 := below_then hb4 hbw3
      have HP4 := hid (rBytes.mono (S' := fun q => w2.heap.size ≤ q ∧ q < w4.heap.size) hr2 fun q hq => ⟨by omega, hq.2⟩)
      have hz4 := hb4.size
      have hb34 := hb4
      clear hr hr2 hb4
      have R2c : Blk (w4.alloc (.cells #[.slice a b.length c, .int .i64 ((⟨p, k, f⟩ : Rs).p : Int), .int .i64 (⟨p, k, f⟩ : Rs).k, .int .i64 (⟨p, k, f⟩ : Rs).f] 61)) w1.heap.size 107 #[.slice a b.length b.length, .int .i64 0, .int .i64 0, .int .i64 0] := (R2b.later hb34).alloc _
      have hbw4l : Below w.heap.size w (w4.alloc (.cells #[.slice a b.length c, .int .i64 ((⟨p, k, f⟩ : Rs).p : Int), .int .i64 (⟨p, k, f⟩ : Rs).k, .int .i64 (⟨p, k, f⟩ : Rs).f] 61)) := by (repeat (first | with_reducible exact Below.refl _ _ | with_reducible assumption | (with_reducible refine below_alloc ?_ _) | (with_reducible refine Below.setCell ?_ (by first | omega | (simp; done) | (simp; omega)) _) | (with_reducible refine Below.drew ?_) | (with_reducible refine below_drewN ?_ _) | (refine below_then (by with_reducible assumption) ?_)))
      have hrd2 := rd_again R2c (Rp.below rBytes HCAP.out hbw4l) (Nat.le_of_lt R1b.lt |> fun _ => by omega) hok0
      have HC2 := hid (hLS.out _ _ hrd2)
      have D4 := Blk.new w4 61 #[.slice a b.length c, .int .i64 ((⟨p, k, f⟩ : Rs).p : Int), .int .i64 (⟨p, k, f⟩ : Rs).k, .int .i64 (⟨p, k, f⟩ : Rs).f]
      have R1c := (R1b.later hb34).alloc (.cells #[.slice a b.length c, .int .i64 ((⟨p, k, f⟩ : Rs).p : Int), .int .i64 (⟨p, k, f⟩ : Rs).k, .int .i64 (⟨p, k, f⟩ : Rs).f] 61)
      clear hrd2 R2c
      go_wp2_with fail
      refine HC2.out.mono ?_
      rintro r w5 ⟨v, rfl, hr, hst⟩

      obtain ⟨a5, c5, hv, hr2, _⟩ := sl_form hr
      simp only [List.cons.injEq, and_true] at hv
      subst hv

      have hz5 := hst.size
      simp at hz5
      have R2d := hst.1.blk
      have R1d := R1c.tch hst.2 (by omega)
      have D5 := D4.tch hst.2 (by omega)
      have hbw5 : Below w.heap.size w w5 := hbw4l.trans (hst.below hbw4l.size (by omega))
      have HP5 := hid (rBytes.mono (S' := (· < w5.heap.size)) hr2 fun q hq => hq.2)
      have HT5 := hid hst.2
      clear hr hr2 hst D4 R1c R1b R2b
      go_wp2_with fail
      refine (hRL.out _ hbw5).mono ?_
      rintro r w6 ⟨v, rfl, hr, hb6⟩

      obtain ⟨a6, c6, hv, hr2, _⟩ := sl_form hr
      simp only [List.cons.injEq, and_true] at hv
      subst hv

      have hbw6 := below_then hb6 hbw5
      have HP6 := hid (rBytes.mono (S' := (· < w6.heap.size)) hr2 fun q hq => hq.2)
      have R1e := R1d.later hb6
      have R2e := R2d.later hb6
      have D6 := D5.later hb6
      have hz6 := hb6.size
      have HK6 : Hid (∀ q, w2.heap.size ≤ q → q < w4.heap.size → w6.heap[q]? = w4.heap[q]?) := hid fun q h1 h2 => (hb6.block q (by omega)).trans ((HT5.out.block q (by simp; omega) (by omega)).trans (Below.heap_alloc w4 _ q h2))
      have HQ3 := hid (rBytes.mono (S' := (· < w6.heap.size)) (rBytes.keep HP3.out fun q hq => (HK6.out q hq.1 (by omega)).trans (hb34.block q hq.2)) fun q hq => by omega)
      have HQ4 := hid (rBytes.mono (S' := (· < w6.heap.size)) (rBytes.keep HP4.out fun q hq => HK6.out q hq.1 hq.2) fun q hq => by omega)
      have HQ5 := hid (lift HP5.out hb6)
      have HR1 := hid R1e
      have HR2 := hid R2e
      have HD6 := hid D6
      clear hr hr2 R1d R2d D5 R1e R2e D6 hb34 hb6
      go_wp2_with fail
      refine wp_world (fun W => Blk W w4.heap.size 61 #[.slice a b.length c, .int .i64 ((⟨p, k, f⟩ : Rs).p : Int), .int .i64 (⟨p, k, f⟩ : Rs).k, .int .i64 (⟨p, k, f⟩ : Rs).f] ∧ Blk W w6.heap.size 61 #[.slice a b.length c, .int .i64 ((⟨p, k, f⟩ : Rs).p : Int), .int .i64 (⟨p, k, f⟩ : Rs).k, .int .i64 (⟨p, k, f⟩ : Rs).f] ∧ Blk W w.heap.size 107 #[.slice a b.length b.length, .int .i64 ((⟨p, k, f⟩ : Rs).p : Int), .int .i64 (⟨p, k, f⟩ : Rs).k, .int .i64 (⟨p, k, f⟩ : Rs).f] ∧ Blk W w1.heap.size 107 #[.slice a b.length b.length, .int .i64 ((⟨p, k, f⟩ : Rs).p : Int), .int .i64 (⟨p, k, f⟩ : Rs).k, .int .i64 (⟨p, k, f⟩ : Rs).f] ∧ Below w6.heap.size w6 W) ⟨HD6.out.alloc _, Blk.newAt _ _ _ rfl, HR1.out.alloc _, HR2.out.alloc _, by clear hbw1 hbw2 hbw3 hbw4 hbw4l hbw5 hbw6; (repeat (first | with_reducible exact Below.refl _ _ | with_reducible assumption | (with_reducible refine below_alloc ?_ _) | (with_reducible refine Below.setCell ?_ (by first | omega | (simp; done) | (simp; omega)) _) | (with_reducible refine Below.drew ?_) | (with_reducible refine below_drewN ?_ _) | (refine below_then (by with_reducible assumption) ?_)))⟩ ?_
      rintro W ⟨DW, CW, RW1, RW2, hbW⟩
      have hbwW := below_then hbW hbw6
      have M1 := fun s : Later W => s.cell (DW.cell 1)
      have M2 := fun s : Later W => s.cell (DW.cell 2)
      have M3 := fun s : Later W => s.cell (DW.cell 3)
      have N1 := fun s : Later W => s.cell (CW.cell 1)
      have N2 := fun s : Later W => s.cell (CW.cell 2)
      have N3 := fun s : Later W => s.cell (CW.cell 3)
      simp at M1 M2 M3 N1 N2 N3
      have hS1 := fun s : Later W => same_bytes ([] : List UInt8) ([] : List UInt8) a3 a4 _ c3 _ c4 s.at_ (lift HQ3.out (below_then s.below hbW)) (lift HQ4.out (below_then s.below hbW))
      have hS2 := fun s : Later W => same_bytes ([] : List UInt8) ([] : List UInt8) a5 a6 _ c5 _ c6 s.at_ (lift HQ5.out (below_then s.below hbW)) (lift HP6.out (below_then s.below hbW))
      simp only [decide_true] at hS1 hS2
      have HS1 := hid hS1
      have HS2 := hid hS2
      have HF1 := hid (fun s : Later W => rd_fault s.at_ (rd_again (RW1.later s.below) (Rp.below rBytes HCAP.out (below_then s.below hbwW)) (Nat.le_refl _) ⟨hpl, fun e => absurd e hkn.out⟩))
      have HF2 := hid (fun s : Later W => rd_fault s.at_ (rd_again (RW2.later s.below) (Rp.below rBytes HCAP.out (below_then s.below hbwW)) (by omega) ⟨hpl, fun e => absurd e hkn.out⟩))
      have HDW := hid DW
      have HCW := hid CW
      clear hS1 hS2 DW CW
      refine wp_region_later (by kernel_rfl) (by kernel_rfl) ?_
      repeat (go_big_quiet_step ((first | (go_at_call 20; first | with_reducible exact later_same (HS1.out _) | with_reducible exact later_same (HS2.out _)) | (go_at_call 51; first | with_reducible exact later_of (HF1.out _) | with_reducible exact later_of (HF2.out _)))))
      refine wpQuiet_nil ?_
      rintro W7 ⟨⟨W7', hb7⟩, rfl⟩
      have hbwW7 := below_then hb7 hbwW
      have hb67 := below_then hb7 hbW
      have hz67 := hb67.size
      clear HS1 HS2 HF1 HF2 M1 M2 M3 N1 N2 N3
      go_wp2_with fail
      refine (hGT.out _ hbwW7).mono ?_
      rintro r w8 ⟨v, rfl, hr, hb8⟩

      obtain ⟨a8, c8, hv, hr2, _⟩ := sl_form hr
      simp only [List.cons.injEq, and_true] at hv
      subst hv

      have HP8 := hid (rBytes.mono (S' := (· < w8.heap.size)) hr2 fun q hq => hq.2)
      have F8 := Blk.newAt w8 48 #[.int .i64 k, .int .i64 f] rfl
      have hb8a : Below w8.heap.size w8 (w8.alloc (.cells #[.int .i64 k, .int .i64 f] 48)) := below_alloc (Below.refl _ _) _
      have hb78 := below_then hb8a hb8
      have hbw8 := below_then hb78 hbwW7
      clear hr hr2 hb8
      go_wp2_with fail
      refine (hGL.out _ hbw8).mono ?_
      rintro r w9 ⟨v, rfl, hr, hb9⟩

      obtain ⟨a9, c9, hv, hr2, _⟩ := sl_form hr
      simp only [List.cons.injEq, and_true] at hv
      subst hv

      have HP9 := hid (rBytes.mono (S' := (· < w9.heap.size)) hr2 fun q hq => hq.2)
      have hb9a : Below w9.heap.size w9 (w9.alloc (.cells #[.int .i64 k, .int .i64 f] 48)) := below_alloc (Below.refl _ _) _
      have F9 := Blk.newAt w9 48 #[.int .i64 k, .int .i64 f] rfl
      have hb89 := below_then hb9a (below_then hb9 hb8a)
      have hb79 := below_then hb9a (below_then hb9 hb78)
      have hb69 := below_then hb79 hb67
      have hbw9 := below_then hb79 hbwW7
      have F8b := (F8.later hb9).alloc (.cells #[.int .i64 k, .int .i64 f] 48)
      have D9 := (HDW.out.later hb7).later hb79
      have C9 := (HCW.out.later hb7).later hb79
      have R19 := (RW1.later hb7).later hb79
      have R29 := (RW2.later hb7).later hb79
      obtain ⟨x0, x1, e0, e1, l8⟩ := f_blk F8b
      obtain ⟨y0, y1, g0, g1, l9⟩ := f_blk F9
      obtain ⟨m0, m1, m2, m3, _, _, _, _, lD⟩ := c_blk D9
      obtain ⟨n0, n1, n2, n3, _, _, _, _, lC⟩ := c_blk C9
      have hS1 := same_bytes ([] : List UInt8) ([] : List UInt8) a8 a4 _ c8 _ c4 _ (lift HP8.out hb89) (lift HQ4.out hb69)
      have hS2 := same_bytes ([] : List UInt8) ([] : List UInt8) a9 a6 _ c9 _ c6 _ (lift HP9.out hb9a) (lift HP6.out hb69)
      simp only [decide_true] at hS1 hS2
      have HS1 := hid hS1
      have HS2 := hid hS2
      have HDCR := hid (And.intro D9 (And.intro C9 (And.intro R19 R29)))
      clear hr hr2 hb9 F8 F8b F9 D9 C9 R19 R29 hS1 hS2
      go_wp2_with fail
      refine HS1.out.mono ?_
      rintro r w9' ⟨rfl, rfl⟩
      go_wp2_with fail
      refine HS2.out.mono ?_
      rintro r w9' ⟨rfl, rfl⟩
      go_wp2_with fail
      refine wp_world (fun W => Blk W w4.heap.size 61 #[.slice a b.length c, .int .i64 ((⟨p, k, f⟩ : Rs).p : Int), .int .i64 (⟨p, k, f⟩ : Rs).k, .int .i64 (⟨p, k, f⟩ : Rs).f] ∧ Blk W w6.heap.size 61 #[.slice a b.length c, .int .i64 ((⟨p, k, f⟩ : Rs).p : Int), .int .i64 (⟨p, k, f⟩ : Rs).k, .int .i64 (⟨p, k, f⟩ : Rs).f] ∧ Blk W w.heap.size 107 #[.slice a b.length b.length, .int .i64 ((⟨p, k, f⟩ : Rs).p : Int), .int .i64 (⟨p, k, f⟩ : Rs).k, .int .i64 (⟨p, k, f⟩ : Rs).f] ∧ Blk W w1.heap.size 107 #[.slice a b.length b.length, .int .i64 ((⟨p, k, f⟩ : Rs).p : Int), .int .i64 (⟨p, k, f⟩ : Rs).k, .int .i64 (⟨p, k, f⟩ : Rs).f] ∧ Below w.heap.size w W) ⟨HDCR.out.1, HDCR.out.2.1, HDCR.out.2.2.1, HDCR.out.2.2.2, hbw9⟩ ?_
      rintro V ⟨DV, CV', RV1, RV2, hbV⟩
      have M1 := fun s : Later V => s.cell (DV.cell 1)
      have M2 := fun s : Later V => s.cell (DV.cell 2)
      have M3 := fun s : Later V => s.cell (DV.cell 3)
      have N1 := fun s : Later V => s.cell (CV'.cell 1)
      have N2 := fun s : Later V => s.cell (CV'.cell 2)
      have N3 := fun s : Later V => s.cell (CV'.cell 3)
      simp at M1 M2 M3 N1 N2 N3
      have HA1 := hid (fun s : Later V => rd_at s.at_ (rd_again (RV1.later s.below) (Rp.below rBytes HCAP.out (below_then s.below hbV)) (Nat.le_refl _) ⟨hpl, fun e => absurd e hkn.out⟩))
      have HDV := hid DV
      have HCV := hid CV'
      have HRV := hid RV2
      clear DV CV' RV1 RV2 x0 x1 e0 e1 l8 y0 y1 g0 g1 l9 m0 m1 m2 m3 lD n0 n1 n2 n3 lC HS1 HS2 HDCR
      refine wp_region_later (by kernel_rfl) (by kernel_rfl) ?_
      repeat (go_big_quiet_step ((go_at_call 54; with_reducible exact later_same (HA1.out _))))
      refine wpQuiet_nil ?_
      clear M1 M2 M3 N1 N2 N3 HA1
      rintro V2 ⟨⟨V2', hb2V⟩, rfl⟩
      have hbV2 := below_then hb2V hbV
      have DV := HDV.out.later hb2V
      have CV' := HCV.out.later hb2V
      have RV2 := HRV.out.later hb2V
      have M1 := fun s : Later V2 => s.cell (DV.cell 1)
      have M2 := fun s : Later V2 => s.cell (DV.cell 2)
      have M3 := fun s : Later V2 => s.cell (DV.cell 3)
      have N1 := fun s : Later V2 => s.cell (CV'.cell 1)
      have N2 := fun s : Later V2 => s.cell (CV'.cell 2)
      have N3 := fun s : Later V2 => s.cell (CV'.cell 3)
      simp at M1 M2 M3 N1 N2 N3
      have HA2 := hid (fun s : Later V2 => rd_at s.at_ (rd_again (RV2.later s.below) (Rp.below rBytes HCAP.out (below_then s.below hbV2)) (by omega) ⟨hpl, fun e => absurd e hkn.out⟩))
      have HLV := hid (fun s : Later V2 => live16 s.at_)
      clear DV CV' RV2 HDV HCV HRV
      go_wp2_with fail
      refine wp_region_later (by kernel_rfl) (by kernel_rfl) ?_
      repeat (go_big_quiet_step ((first | (go_at_call 54; with_reducible exact later_same (HA2.out _)) | (go_at_call 24; with_reducible exact later_of (HLV.out _)))))
      refine wpQuiet_nil ?_
      clear M1 M2 M3 N1 N2 N3
      rintro V3 ⟨⟨V3', hb3V⟩, rfl⟩
      have hbe := below_then hb3V hbV2
      go_wp2
      go_ret
      exact ⟨rfl, hbe⟩
  · have d0 : decide ((200 : Int) < (b.length : Int)) = true := decide_eq_true (by omega)
    go_enter Try.func9, Try.ntmps9
    go_wp2_with fail
    refine (live16 _).mono ?_
    rintro r w9 ⟨rfl, hb9⟩
    go_wp2
    go_ret
    exact ⟨rfl, hb9⟩

set_option maxRecDepth 100000 in
theorem blockReads_walk {H : Type} (enc : TypeId × Value → H) (W : World) (base : Nat) (v0 v1 : Value) (d0 d1 : DataW H) (p0 p1 : List MemPlace)
    (k0 : DataW.Trod enc Try.prog W 0 (fun _ => true) true 22 v0 d0 p0) (k1 : DataW.Trod enc Try.prog W 0 (fun _ => true) true 3 v1 d1 p1)
    (o0 : Value.okWide Try.prog W .any base 22 v0) (o1 : Value.okWide Try.prog W .any base 3 v1) :
    Calls Try.prog 9 #[v0, v1] W fun e w' => e = .returned (.bool true) ∧ Below W.heap.size W w' := by
  obtain ⟨fuel, hf⟩ := k0
  obtain ⟨fuel1, hf1⟩ := k1
  obtain ⟨a, len, cap, rfl⟩ := Go.WideShapes.okWide_slice Try.underlying22 o0
  obtain ⟨m, rfl⟩ := Go.WideShapes.okWide_int Try.underlying3 o1
  obtain ⟨b, hb⟩ := o_bytes enc W fuel _ _ hf
  obtain ⟨m', hm', hw⟩ := opens_int Try.underlying3 enc W fuel1 _ _ hf1
  simp [Value.cells] at hm'
  subst hm'
  exact blockReads_c b a len cap m (bounds_i64 hw) W hb
end Go.Proofs.Ytgcdbnbdbjaijaa
