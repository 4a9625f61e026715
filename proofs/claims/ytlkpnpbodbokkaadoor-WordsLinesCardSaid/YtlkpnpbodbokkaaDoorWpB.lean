/- Plain: bytes in hex, and back. -/
import Derived.Test.YtlkpnpbodbokkaaDoorWpA
import Derived.Lib.IndexLaws
namespace Go.Bs
def hexL : List UInt8 := [48, 49, 50, 51, 52, 53, 54, 55, 56, 57, 97, 98, 99, 100, 101, 102]
def hxTo (l : List UInt8) : Nat → List UInt8
  | 0 => []
  | k + 1 => hxTo l k ++ [hexL.getD ((l.getD k 0).toNat / 16) 0] ++ [hexL.getD ((l.getD k 0).toNat % 16) 0]
def hexW (l : List UInt8) : List UInt8 := if l = [] then [45] else hxTo l l.length
theorem hx_len (l : List UInt8) (k : Nat) : (hxTo l k).length = 2 * k := by
  induction k with
  | zero => simp [hxTo]
  | succ k ih => simp only [hxTo, List.length_append, ih, List.length_cons, List.length_nil]; omega
def hv (c : UInt8) : Nat := (Lib.indexByte hexL c).toNat
theorem hv_hex : ∀ n : Nat, n < 16 → Lib.indexByte hexL (hexL.getD n 0) = (n : Int) := by
  have h : ∀ n : Fin 16, Lib.indexByte hexL (hexL.getD n.val 0) = (n.val : Int) := by decide
  exact fun n hn => h ⟨n, hn⟩
theorem hex_hv (c : UInt8) (h : 0 ≤ Lib.indexByte hexL c) : hv c < 16 ∧ hexL.getD (hv c) 0 = c := by
  obtain ⟨o, ho⟩ : ∃ o : Nat, Lib.indexByte hexL c = o := ⟨(Lib.indexByte hexL c).toNat, by omega⟩
  have h1 := (Lib.indexByte_some ho).1
  have h2 : o < hexL.length := by
    rcases Nat.lt_or_ge o hexL.length with h' | h'
    · exact h'
    · rw [List.getElem?_eq_none h'] at h1; cases h1
  have h3 : hv c = o := by unfold hv; omega
  rw [h3]
  exact ⟨h2, by rw [List.getD_eq_getElem?_getD, h1]; rfl⟩
theorem hv_lt (c : UInt8) : hv c < 16 := by
  by_cases h : 0 ≤ Lib.indexByte hexL c
  · exact (hex_hv c h).1
  · unfold hv; omega
/-- The byte that the signs 2 j and 2 j + 1 tell. -/
def unB (l : List UInt8) (j : Nat) : UInt8 := UInt8.ofNat (16 * hv (l.getD (2 * j) 0) + hv (l.getD (2 * j + 1) 0))
theorem unB_nat (l : List UInt8) (j : Nat) : (unB l j).toNat = 16 * hv (l.getD (2 * j) 0) + hv (l.getD (2 * j + 1) 0) := by
  have h1 := hv_lt (l.getD (2 * j) 0)
  have h2 := hv_lt (l.getD (2 * j + 1) 0)
  unfold unB
  rw [UInt8.toNat_ofNat']
  omega
def unBs (l : List UInt8) : List UInt8 := (List.range (l.length / 2)).map (unB l)
def allHex (l : List UInt8) : Bool := l.all fun c => decide (0 ≤ Lib.indexByte hexL c)
def unL (l : List UInt8) : Option (List UInt8) :=
  if l = [45] then some [] else if l = [] ∨ l.length % 2 = 1 then none else if allHex l then some (unBs l) else none
theorem hx_get (l : List UInt8) (k j : Nat) (h : j < k) :
    (hxTo l k).getD (2 * j) 0 = hexL.getD ((l.getD j 0).toNat / 16) 0 ∧ (hxTo l k).getD (2 * j + 1) 0 = hexL.getD ((l.getD j 0).toNat % 16) 0 := by
  induction k with
  | zero => omega
  | succ k ih =>
    have hl := hx_len l k
    unfold hxTo
    rw [List.append_assoc, List.getD_eq_getElem?_getD, List.getD_eq_getElem?_getD (l := hxTo l k ++ _)]
    by_cases hj : j < k
    · rw [List.getElem?_append_left (by omega), List.getElem?_append_left (by omega), ← List.getD_eq_getElem?_getD, ← List.getD_eq_getElem?_getD]
      exact ih hj
    · obtain rfl : j = k := by omega
      constructor
      · rw [List.getElem?_append_right (by omega), hl, Nat.sub_self]; rfl
      · rw [List.getElem?_append_right (by omega), hl, show 2 * j + 1 - 2 * j = 1 by omega]; rfl
theorem hx_hex (l : List UInt8) (k : Nat) : allHex (hxTo l k) = true := by
  induction k with
  | zero => rfl
  | succ k ih =>
    unfold allHex at *
    unfold hxTo
    have hb := (l.getD k 0).toNat_lt
    rw [List.all_append, List.all_append, ih]
    simp only [List.all_cons, List.all_nil, Bool.and_true, Bool.true_and, Bool.and_eq_true, decide_eq_true_eq]
    rw [hv_hex _ (by omega), hv_hex _ (by omega)]
    omega
theorem unL_hexW (b : List UInt8) : unL (hexW b) = some b := by
  unfold unL hexW
  by_cases hb : b = []
  · rw [if_pos hb, if_pos rfl, hb]
  · rw [if_neg hb]
    have hl := hx_len b b.length
    have hp : 0 < b.length := List.length_pos_iff.2 hb
    rw [if_neg (by intro e; have := congrArg List.length e; simp only [List.length_cons, List.length_nil] at this; omega),
      if_neg (by
        rintro (e | e)
        · have := congrArg List.length e; simp only [List.length_nil] at this; omega
        · omega), if_pos (hx_hex b b.length)]
    congr 1
    have h2 : (hxTo b b.length).length / 2 = b.length := by omega
    apply List.ext_getElem?
    intro j
    unfold unBs
    rw [h2]
    by_cases hj : j < b.length
    · rw [List.getElem?_map, List.getElem?_range hj, Option.map_some, List.getElem?_eq_getElem hj]
      congr 1
      apply UInt8.toNat_inj.1
      have hg := hx_get b b.length j hj
      have hb := b[j].toNat_lt
      have hd : b.getD j 0 = b[j] := by rw [List.getD_eq_getElem?_getD, List.getElem?_eq_getElem hj]; rfl
      rw [hd] at hg
      rw [unB_nat, hg.1, hg.2]
      unfold hv
      rw [hv_hex _ (by omega), hv_hex _ (by omega)]
      omega
    · rw [List.getElem?_eq_none (by simp; omega), List.getElem?_eq_none (by omega)]
theorem hx_take (s : List UInt8) (hs : allHex s = true) (k : Nat) (hk : 2 * k ≤ s.length) : hxTo (unBs s) k = s.take (2 * k) := by
  have hx : ∀ i, i < s.length → 0 ≤ Lib.indexByte hexL (s.getD i 0) := by
    intro i hi
    unfold allHex at hs
    have := List.all_eq_true.1 hs (s.getD i 0) (by rw [List.getD_eq_getElem?_getD, List.getElem?_eq_getElem hi]; exact List.getElem_mem hi)
    exact of_decide_eq_true this
  induction k with
  | zero => rfl
  | succ k ih =>
    unfold hxTo
    rw [ih (by omega)]
    have hd : (unBs s).getD k 0 = unB s k := by
      unfold unBs
      rw [List.getD_eq_getElem?_getD, List.getElem?_map, List.getElem?_range (by omega)]; rfl
    rw [hd, unB_nat]
    have h1 := hex_hv _ (hx (2 * k) (by omega))
    have h2 := hex_hv _ (hx (2 * k + 1) (by omega))
    rw [show (16 * hv (s.getD (2 * k) 0) + hv (s.getD (2 * k + 1) 0)) / 16 = hv (s.getD (2 * k) 0) by omega, show (16 * hv (s.getD (2 * k) 0) + hv (s.getD (2 * k + 1) 0)) % 16 = hv (s.getD (2 * k + 1) 0) by omega, h1.2, h2.2]
    rw [show 2 * (k + 1) = 2 * k + 1 + 1 by omega, List.take_add_one, List.take_add_one]
    rw [List.getD_eq_getElem?_getD, List.getD_eq_getElem?_getD, List.getElem?_eq_getElem (show 2 * k < s.length by omega), List.getElem?_eq_getElem (show 2 * k + 1 < s.length by omega)]
    rfl
theorem hexW_unL (s b : List UInt8) (h : unL s = some b) : hexW b = s := by
  unfold unL at h
  split at h
  · rename_i e
    injection h with h
    rw [← h, e]; rfl
  · split at h
    · cases h
    · rename_i h1
      split at h
      · rename_i h2
        injection h with h
        subst h
        have hp : 0 < s.length := List.length_pos_iff.2 (fun e => h1 (.inl e))
        have he : s.length % 2 ≠ 1 := fun e => h1 (.inr e)
        have hl : (unBs s).length = s.length / 2 := by unfold unBs; simp
        unfold hexW
        rw [if_neg (by intro e; have := congrArg List.length e; simp only [List.length_nil] at this; omega), hl, hx_take s h2 _ (by omega), show 2 * (s.length / 2) = s.length by omega, List.take_length]
      · cases h
end Go.Bs
