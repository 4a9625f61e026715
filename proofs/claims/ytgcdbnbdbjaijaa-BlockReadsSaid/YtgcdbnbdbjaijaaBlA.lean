/- Blobs. -/
import Derived.Test.YtgcdbnbdbjaijaaPsB
namespace Go.Proofs.Ytgcdbnbdbjaijaa
open Go.RowKit Go.Bs Go.Maps
set_option linter.unusedVariables false
set_option linter.unusedSimpArgs false

set_option maxRecDepth 100000 in
set_option maxHeartbeats 1600000 in
theorem ref04_own (x : Nat) : ∀ (hx : x < 18446744073709551616) (w : World),
    Calls Try.prog 60 #[.int .u64 x] w fun r w' => ∃ v, r = .returned v ∧ w'.ownsRow w.heap.size 5 1 v (varB x).length (byteCells (varB x)) ∧ Below w.heap.size w w' := by
  induction x using Nat.strongRecOn with
  | ind x ih =>
  intro hx w
  obtain ⟨i0, hi, hz0, hz1, hz2⟩ := info_parts info8
  by_cases h : x < 128
  · have d1 : decide ((x : Int) < 128) = true := by simp; omega
    have hfin : Hid (varB x = [UInt8.ofNat x]) := hid (varB_small h)
    have hby : Hid ((x : Int) = ((UInt8.ofNat x).toNat : Int)) := hid (byte_small (by omega))
    have HIH := hid ih; clear ih
    go_enter Try.func60, Try.ntmps60
    go_wp2_with fail
    have e0 : [Value.int .u8 (x : Int)] = byteCells (varB x) := by rw [hfin.out, hby.out]; rfl
    have ho : (w.alloc (.cells #[.int .u8 (x : Int)] 5)).ownsRow w.heap.size 5 1 (.slice (some ⟨w.heap.size, 0, none⟩) 1 1) 1 (byteCells (varB x)) := e0 ▸ own_new1 (w := w.alloc (.cells #[.int .u8 (x : Int)] 5)) (base := w.heap.size) (e := 5) (Nat.le_refl _) (World.alloc_heap_new w _)
    have HL1 : Hid ((varB x).length = 1) := hid (by rw [hfin.out]; rfl)
    have HV := hid ho
    clear ho e0
    go_ret
    exact ⟨_, rfl, by rw [HL1.out]; exact HV.out, by (repeat (first | exact Below.refl _ _ | assumption | (refine below_alloc ?_ _) | (refine Below.setCell ?_ (by first | omega | (simp; done) | (simp; omega)) _) | (refine Below.drew ?_) | (refine below_drewN ?_ _) | (refine below_then (by assumption) ?_)))⟩
  · have d1 : decide ((x : Int) < 128) = false := by simp; omega
    have HIH := hid (fun (W : World) => ih (x / 128) (by omega) (by omega) W)
    clear ih
    rw [show ((x / 128 : Nat) : Int) = (x : Int) / 128 by omega] at HIH
    have hfin : Hid (varB x = [UInt8.ofNat (128 + x % 128)] ++ varB (x / 128)) := hid (by rw [varB_step h (by omega)]; rfl)
    have hby : Hid (128 + (x : Int) % 128 = ((UInt8.ofNat (128 + x % 128)).toNat : Int)) := hid (by rw [← byte_small (by omega)]; omega)
    have hlb := varB_len (x / 128)
    go_enter Try.func60, Try.ntmps60
    go_wp2_with fail
    refine (HIH.out _).mono ?_
    rintro r w1 ⟨v1, rfl, hr1, hb1⟩
    have ho := own_new1 (w := w.alloc (.cells #[.int .u8 (128 + (x : Int) % 128)] 5)) (base := w.heap.size) (e := 5) (Nat.le_refl _) (World.alloc_heap_new w _)
    have ho1 := own_below ho hb1
    obtain ⟨a1, c1, rfl⟩ := own_form hr1
    have hr3 := src_bytes (rBytes.mono (own_bytes2 rfl hr1) (S' := (· < w1.heap.size)) fun b hb => hb.2)
    have HS := hid hr3; have HO := hid ho1; have HONE := hid (byteCells_one (varB (x / 128)))
    have hz1w : w.heap.size + 1 ≤ w1.heap.size := by have := hb1.size; simpa using this
    have hbw1 : Below w.heap.size w w1 := by (repeat (first | exact Below.refl _ _ | assumption | (refine below_alloc ?_ _) | (refine Below.setCell ?_ (by first | omega | (simp; done) | (simp; omega)) _) | (refine Below.drew ?_) | (refine below_drewN ?_ _) | (refine below_then (by assumption) ?_)))
    clear hr1 hr3 ho ho1
    go_wp2_with (at_builtin; go_loud (refine wpList_append_src rfl _ _ _ rfl w.heap.size 5 i0 (.int .u8 0) 1 1 Try.underlying22 hi hz0 hz1 hz2 rfl (by decide) (.slice (some ⟨w.heap.size, 0, none⟩) 1 1) 1 _ rfl HO.out a1 (varB (x / 128)).length c1 (byteCells (varB (x / 128))) rfl HS.out HONE.out (by simp only [maxLen]; omega) (by omega) (by omega) ?_; intro v' w2 hown2 hgrow2 hat2; have HG := hid hgrow2; have HO2 := hid hown2; clear hgrow2 hown2 hat2))
    have ho := HO2.out
    rw [hby.out, show [Value.int .u8 ((UInt8.ofNat (128 + x % 128)).toNat : Int)] = byteCells [UInt8.ofNat (128 + x % 128)] from rfl, byteCells, byteCells, ← List.map_append, ← hfin.out] at ho
    rw [show 1 + (varB (x / 128)).length = (varB x).length by rw [hfin.out]; simp; omega] at ho
    have hB : Below w.heap.size w w2 := Below.grown hbw1 HG.out (by omega) (fun g e => (HO.out.lt g e).1)
    have HV := hid ho
    clear ho
    go_ret
    exact ⟨_, rfl, HV.out, hB⟩

def blobB (D : List UInt8) : List UInt8 := varB D.length ++ D
theorem blobB_len (D : List UInt8) : (blobB D).length = (varB D.length).length + D.length := by simp [blobB]

set_option maxRecDepth 100000 in
theorem blob_size (n : Nat) (hn : n ≤ 100000000000000) (w : World) :
    Calls Try.prog 61 #[.int .i64 n] w fun r w' => r = .returned (.int .i64 ((varB n).length + n : Nat)) ∧ Below w.heap.size w w' := by
  have HS := hid (fun (W : World) => varint_size n (by omega) W)
  have hl := varB_len n
  generalize (varB n).length = k at *
  go_enter Try.func61, Try.ntmps61
  go_wp2_with fail
  refine (HS.out _).mono ?_
  rintro r w1 ⟨rfl, hb1⟩
  go_wp2
  go_ret
  exact ⟨by first | rfl | simp, hb1⟩

set_option maxRecDepth 100000 in
theorem blob_put (w : World) {g base most : Nat} {J : List UInt8} {a : Option Addr} {c : Nat} (h : PenAt w g base most J a c) (D : List UInt8) (ad : Option Addr) (nd cd : Nat)
    (hD : rBytes.r (fun q => q < w.heap.size ∧ ¬ PenF g a q) w [.slice ad nd cd] D) (hfit : J.length + (blobB D).length ≤ most) (hlen : J.length + (blobB D).length ≤ 100000000000000) :
    Calls Try.prog 67 #[.pointer (some ⟨g, 0, none⟩), .slice ad nd cd] w fun r w' => r = .returned (.tuple #[]) ∧ PenStep w g base most (J ++ blobB D) a w' := by
  obtain ⟨rfl, hm, _, _⟩ := sl_len hD
  rw [blobB_len] at hfit hlen
  have HV := hid (varint_put w h D.length (by omega) (by omega) (by omega))
  have HD := hid hD
  have hfit' := hid hfit; have hlen' := hid hlen
  clear h hD hfit hlen
  go_enter Try.func67, Try.ntmps67
  go_wp2_with fail
  refine HV.out.mono ?_
  rintro r w2 ⟨rfl, a2, c2, hp2, ht2, ha2⟩
  have hs2 := ht2.size
  have HQ := hid (pen_put w2 hp2 D ad _ cd (rBytes.mono (rBytes.keep HD.out fun q hq => ht2.block q hq.1 hq.2) fun q hq => Nat.lt_of_lt_of_le hq.1 hs2) (by rw [List.length_append]; have := hfit'.out; omega) (by rw [List.length_append]; have := hlen'.out; omega))
  go_wp2_with fail
  refine HQ.out.mono ?_
  rintro r w3 ⟨rfl, hst⟩
  have hst2 := PenStep.trans (J := J) ht2 ha2 hst
  rw [List.append_assoc] at hst2
  have HST := hid hst2
  clear hst hst2
  go_wp2
  first | go_end0 | refine bodyPost_ret (results_none rfl _ _ _) rfl ?_
  exact ⟨rfl, HST.out⟩

set_option maxRecDepth 100000 in
theorem ref06_own (w : World) (D : List UInt8) (a : Option Addr) (n c : Nat) (hl : rBytes.r (· < w.heap.size) w [.slice a n c] D) (hlen : D.length ≤ 10000000000000) :
    Calls Try.prog 68 #[.slice a n c] w fun r w' => ∃ v, r = .returned v ∧ w'.ownsRow w.heap.size 5 1 v (blobB D).length (byteCells (blobB D)) ∧ Below w.heap.size w w' := by
  obtain ⟨rfl, hm, _, _⟩ := sl_len hl
  obtain ⟨i0, hi, hz0, hz1, hz2⟩ := info_parts info8
  have HL := hid hl
  have HV := hid (ref04_own D.length (by omega) w)
  have HONE := hid (byteCells_one D)
  have hvl := varB_len D.length
  have hbl := hid (blobB_len D)
  have hbd : Hid (blobB D = varB D.length ++ D) := hid rfl
  clear hl
  generalize varB D.length = E at *
  go_enter Try.func68, Try.ntmps68
  go_wp2_with fail
  refine HV.out.mono ?_
  rintro r w1 ⟨v, rfl, ho, hb1⟩
  obtain ⟨a1, c1, rfl⟩ := own_form ho
  have hs1 := hb1.size
  have HO := hid ho
  have HS := hid (src_bytes (lift HL.out hb1))
  clear ho
  go_wp2_with (at_builtin; go_loud (refine wpList_append_src rfl _ _ _ rfl w.heap.size 5 i0 (.int .u8 0) 1 1 Try.underlying22 hi hz0 hz1 hz2 rfl (by decide) (.slice a1 E.length c1) E.length (byteCells E) rfl HO.out a D.length c (byteCells D) rfl HS.out HONE.out (by simp only [maxLen]; omega) (by omega) (by omega) ?_; intro v' w2 hown2 hgrow2 hat2; have HG := hid hgrow2; have HO2 := hid hown2; clear hgrow2 hown2 hat2))
  have ho := HO2.out
  rw [byteCells_app, ← hbd.out, show E.length + D.length = (blobB D).length from hbl.out.symm] at ho
  have hB : Below w.heap.size w w2 := Below.grown hb1 HG.out (by omega) (fun g e => (HO.out.lt g e).1)
  have HV2 := hid ho
  clear ho
  go_ret
  exact ⟨_, rfl, HV2.out, hB⟩

set_option maxRecDepth 100000 in
theorem ref15_bytes (w : World) (b : List UInt8) (a : Option Addr) (n c : Nat) (hl : rBytes.r (· < w.heap.size) w [.slice a n c] b) (hlen : b.length ≤ 1048576) :
    Calls Try.prog 38 #[.slice a n c] w fun r w' => ∃ v, r = .returned v ∧ rBytes.r (fun q => w.heap.size ≤ q ∧ q < w'.heap.size) w' [v] (tokensB (toksR b)) ∧ Below w.heap.size w w' := by
  obtain ⟨rfl, hm, _, _⟩ := sl_len hl
  have HT := hid (ref15_tokens b a _ c w hl hlen)
  have hri := toks_right hlen
  have hl2 := toks_len2 hlen
  clear hl
  generalize toksR b = T at *
  go_enter Try.func38, Try.ntmps38
  go_wp2_with fail
  refine HT.out.mono ?_
  rintro r w1 ⟨v, rfl, hr, hb1⟩
  obtain ⟨a1, c1, hv, hr2, _⟩ := sl_form hr
  simp only [List.cons.injEq, and_true] at hv
  subst hv
  have HB := hid (ref11_bytes T a1 _ c1 w1 (rToks.mono hr2 fun q hq => hq.2) hl2 hri)
  have hs1 := hb1.size
  clear hr hr2
  go_wp2_with fail
  refine HB.out.mono ?_
  rintro r w2 ⟨v2, rfl, hv2, hb2⟩
  have hbe := below_then hb2 hb1
  have HV := hid (rBytes.mono (S' := fun q => w.heap.size ≤ q ∧ q < w2.heap.size) hv2 fun q hq => ⟨by have := hq.1; omega, hq.2⟩)
  clear hv2
  go_wp2
  go_ret
  exact ⟨_, rfl, HV.out, hbe⟩
end Go.Proofs.Ytgcdbnbdbjaijaa
