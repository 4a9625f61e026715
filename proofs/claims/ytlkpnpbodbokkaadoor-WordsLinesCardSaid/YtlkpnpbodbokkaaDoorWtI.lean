/- words.List, words.ReadList (written by gen_wti.py). -/
import Derived.Test.YtlkpnpbodbokkaaDoorProg
import Derived.WalkKit
import Derived.Deep.Cut
import Derived.BigQuiet
import Derived.Test.YtlkpnpbodbokkaaDoorShe
import Derived.Test.YtlkpnpbodbokkaaDoorWpC
import Derived.Test.YtlkpnpbodbokkaaDoorWtH
namespace Go.Bs
open Go.RowKit
set_option linter.unusedVariables false
theorem spl_len (c : UInt8) (l : List UInt8) : ∀ x ∈ spl c l, x.length ≤ l.length := by
  induction l with
  | nil => intro x hx; simp [spl] at hx; subst hx; simp
  | cons b l ih =>
    intro x hx
    unfold spl at hx
    split at hx
    · rcases List.mem_cons.1 hx with rfl | hx
      · simp
      · have := ih x hx; simp only [List.length_cons]; omega
    · cases hs : spl c l with
      | nil => exact absurd hs (spl_ne c l)
      | cons y r =>
        rw [hs] at hx ih
        rcases List.mem_cons.1 hx with rfl | hx
        · have := ih y (List.mem_cons_self ..); simp only [List.headD_cons, List.length_cons]; omega
        · have := ih x (List.mem_cons_of_mem _ hx); simp only [List.length_cons]; omega
def NatsAt (w : World) (v : Value) (l : List Nat) : Prop := ∃ a c, v = .slice a l.length c ∧ (l = [] ∨ ∃ b o, a = some ⟨b, o, none⟩ ∧ b < w.heap.size ∧ ∀ i, i < l.length → w.cell? ⟨b, o + i, none⟩ = some (.int .u64 ((l.getD i 0 : Nat) : Int)))
theorem NatsAt.below {w w' : World} {v : Value} {l : List Nat} (h : NatsAt w v l) (hb : Below w.heap.size w w') : NatsAt w' v l := by
  obtain ⟨a, c, h1, h2⟩ := h
  refine ⟨a, c, h1, h2.imp id fun ⟨b, o, e, hlt, hc⟩ => ⟨b, o, e, Nat.lt_of_lt_of_le hlt hb.size, fun i hi => (hb.cell (p := ⟨b, o + i, none⟩) hlt).trans (hc i hi)⟩⟩
def natCells (l : List Nat) : List Value := l.map fun x => .int .u64 ((x : Nat) : Int)
theorem own_nats {w : World} {base : Nat} {e : TypeId} {v : Value} {l : List Nat} {n : Nat} (hn : n = l.length) (h : w.ownsRow base e 1 v n (natCells l)) : NatsAt w v l := by
  subst hn
  rcases h.2 with ⟨rfl, h0⟩ | ⟨g, cap, cur, rfl, hbg, hg, hn, hc, hcur, hx⟩
  · exact ⟨none, 0, by rw [h0], .inl (List.eq_nil_of_length_eq_zero h0)⟩
  · refine ⟨_, cap, rfl, .inr ⟨g, 0, rfl, (Array.getElem?_eq_some_iff.1 hg).1, fun j hj => ?_⟩⟩
    rw [Nat.zero_add, Blk.cell hg]
    have e1 : cur[j]? = (cur.toList.take (l.length * 1))[j]? := by
      rw [List.getElem?_take, if_pos (by omega)]; simp
    rw [e1, hx]
    simp [natCells, List.getElem?_eq_getElem hj]
def strCells (l : List ByteArray) : List Value := l.map Value.string
theorem own_strs {w : World} {base : Nat} {e : TypeId} {v : Value} {l : List ByteArray} {n : Nat} (hn : n = l.length) (hl : 0 < n) (h : w.ownsRow base e 1 v n (strCells l)) :
    ∃ g c, v = .slice (some ⟨g, 0, none⟩) l.length c ∧ g < w.heap.size ∧ l.length ≤ c ∧ ∀ (j : Nat) x, l[j]? = some x → w.cell? ⟨g, 0 + j, none⟩ = some (.string x) := by
  subst hn
  rcases h.2 with ⟨rfl, h0⟩ | ⟨g, cap, cur, rfl, hbg, hg, hn, hc, hcur, hx⟩
  · omega
  · refine ⟨g, cap, rfl, (Array.getElem?_eq_some_iff.1 hg).1, hn, fun j x hj => ?_⟩
    have hjl : j < l.length := (List.getElem?_eq_some_iff.1 hj).1
    rw [Nat.zero_add, Blk.cell hg]
    have e1 : cur[j]? = (cur.toList.take (l.length * 1))[j]? := by
      rw [List.getElem?_take, if_pos (by omega)]; simp
    rw [e1, hx]
    simp [strCells, hj]
end Go.Bs
namespace Go.Proofs.YtlkpnpbodbokkaaDoor
open Go.RowKit Go.Bs
set_option linter.unusedVariables false
set_option linter.unusedSimpArgs false

def decS (x : Nat) : ByteArray := ⟨(Lib.decDigits x).toArray⟩

set_option maxRecDepth 100000 in
set_option maxHeartbeats 3200000 in
theorem words_list (l : List Nat) (hl : ∀ i, l.getD i 0 < 18446744073709551616) (hn : l.length ≤ 100000) (b o c : Nat) (w : World) (hc : ∀ i : Nat, i < l.length → w.cell? ⟨b, o + i, none⟩ = some (.int .u64 ((l.getD i 0 : Nat) : Int))) (hnl : 0 < l.length) (E : Env w) :
    Calls Tryd.prog 26 #[.slice (some ⟨b, o, none⟩) l.length c] w fun r w' => r = .returned (.string ⟨(listW l).toArray⟩) ∧ Below w.heap.size w w' := by
  obtain ⟨i0, hi, hz0, hz1, hz2⟩ := info_parts wInfoS
  have HC := hid hc
  have HN := hid (fun k w h => num_c (l.getD k 0) (hl k) w h)
  have HE := hid E
  have HS : Hid (∀ k, k < l.length → l.take (k + 1) = l.take k ++ [l.getD k 0]) := hid (fun k hk => by
    rw [List.take_add_one, List.getElem?_eq_getElem hk, List.getD_eq_getElem?_getD, List.getElem?_eq_getElem hk]; rfl)
  have HJ : Hid (∀ (g c2 : Nat) (W : World), (∀ (j : Nat) x, (l.map decS)[j]? = some x → W.cell? ⟨g, 0 + j, none⟩ = some (.string x)) → g < W.heap.size → l.length ≤ c2 → Calls Tryd.prog 48 #[.slice (some ⟨g, 0, none⟩) l.length c2, .string ⟨#[44]⟩] W fun e w' => e = .returned (.string ⟨(listW l).toArray⟩) ∧ Below W.heap.size W w') := hid (by
    intro g c2 W h1 h2 h3
    have e1 : (l.map decS).map (·.data.toList) = l.map Lib.decDigits := by
      rw [List.map_map]; apply List.map_congr_left; intro x _; simp [decS]
    have e2 : Lib.join ((l.map decS).map (·.data.toList)) (⟨#[44]⟩ : ByteArray).data.toList = listW l := by
      rw [e1, listW_jl l (by intro e; subst e; simp at hnl)]; exact jl_join' 44 _
    have h := Tryd.strings_Join g 0 c2 (l.map decS) ⟨#[44]⟩ W h1 h2 (by simp; omega) (by simpa using h3) (by
      rw [e2]; unfold listW; rw [if_neg (by intro e; subst e; simp at hnl)]
      have := jn_len l hl l.length; omega)
    rw [e2] at h
    simpa using h)
  have d0 : ((l.length : Int) == 0) = false := beq_eq_false_iff_ne.2 (by omega)
  clear hc E hl
  go_enter Tryd.func26, Tryd.ntmps26
  go_wp2_with fail
  go_loopw [3, 11] (fun s i wr => ∃ k : Nat, k ≤ l.length ∧ i = .int .i64 k ∧ wr.ownsRow w.heap.size 9 1 s k (strCells ((l.take k).map decS)) ∧ Below w.heap.size w wr) (fun _ i _ => l.length - (intOf i).toNat)
  case atStart => exact ⟨0, by omega, rfl, ⟨by simp [strCells], .inl ⟨rfl, rfl⟩⟩, Below.refl _ _⟩
  case round =>
    obtain ⟨k, hk, rfl, hown, hb⟩ := hrel
    by_cases hlt : k < l.length
    · have i1 : (k : Int) < (l.length : Int) := by omega
      have hx := HC.out k hlt
      have hx' := (hb.cell (p := ⟨b, o + k, none⟩) (World.block_lt_of_cell? _ _ hx)).trans hx
      have HNk := hid (HN.out k wr (HE.out.below hb).tab)
      have HO := hid hown
      have HB := hid hb
      have HSk := hid (HS.out k hlt)
      obtain ⟨a5, c5, rfl⟩ := own_form hown
      clear hx hown hb
      generalize l.getD k 0 = x at *
      go_wp2_with fail
      refine HNk.out.mono ?_
      rintro r w1 ⟨rfl, hb1⟩
      have HB1 := hid hb1
      have hbz := HB.out.size
      have hbz1 := hb1.size
      clear hb1
      go_wp2_with (at_builtin; go_loud (refine wpList_append_src rfl _ _ _ rfl w.heap.size 9 i0 (.string ⟨#[]⟩) 1 16 Tryd.underlying52 hi hz0 hz1 hz2 rfl (by decide) (.slice a5 k c5) k (strCells ((l.take k).map decS)) rfl (own_below (own_below HO.out HB1.out) (by (repeat (first | exact Below.refl _ _ | assumption | (refine below_alloc ?_ _) | (refine Below.setCell ?_ (by first | omega | (simp; done) | (simp; omega)) _) | (refine Below.drew ?_) | (refine below_drewN ?_ _) | (refine below_then (by assumption) ?_))))) _ 1 1 [.string (decS x)] rfl (src_row (by (repeat (first | assumption | exact Blk.newAt _ _ _ (by first | (simp; done) | (simp; omega)) | refine Blk.alloc ?_ _ | refine Blk.drew ?_ | refine Blk.drewN ?_ _ | refine Blk.far ?_ (by first | (simp; done) | (simp; omega)) _)))) (by simp [Value.oneCell']) (by simp only [maxLen]; omega) (by omega) (by first | omega | (simp; done) | (simp; omega)) ?_; intro v6 w6 hown6 hgrow6 hat6; have hb6 : Below w.heap.size w w6 := (Below.grown (by have := HB.out.trans (HB1.out.mono HB.out.size); (repeat (first | exact Below.refl _ _ | assumption | (refine below_alloc ?_ _) | (refine Below.setCell ?_ (by first | omega | (simp; done) | (simp; omega)) _) | (refine Below.drew ?_) | (refine below_drewN ?_ _) | (refine below_then (by assumption) ?_)))) hgrow6 (by first | omega | (simp; done) | (simp; omega)) (fun g e => (HO.out.lt g e).1)); have HO6 := hid hown6; obtain ⟨a6, c6, rfl⟩ := own_form hown6; clear hown6 hgrow6 hat6))
      go_wp2_with fail
      go_roundw
      case rel => exact ⟨k + 1, by omega, by go_num, (by rw [HSk.out]; simpa [strCells] using HO6.out), hb6⟩
      case measure => simp [intOf]; omega
    · obtain rfl : k = l.length := by omega
      rw [List.take_length] at hown
      obtain ⟨g, c2, rfl, hg, hc2, hcl⟩ := own_strs (by simp) hnl hown
      rw [List.length_map] at hc2 ⊢
      have HJk := hid (HJ.out g c2 wr hcl hg hc2)
      have HB := hid hb
      clear hown hcl HC HN HS hb
      go_wp2_with fail
      refine HJk.out.mono ?_
      rintro r w1 ⟨rfl, hb1⟩
      go_wp2_with fail
      go_ret
      exact ⟨rfl, HB.out.trans (hb1.mono HB.out.size)⟩

theorem words_list0 (a : Option Addr) (c : Nat) (w : World) : Calls Tryd.prog 26 #[.slice a 0 c] w fun r w' => r = .returned (.string ⟨(listW []).toArray⟩) ∧ Below w.heap.size w w' := by
  go_enter Tryd.func26, Tryd.ntmps26
  go_wp2_with fail
  go_ret
  exact ⟨rfl, Below.refl _ _⟩
end Go.Proofs.YtlkpnpbodbokkaaDoor
