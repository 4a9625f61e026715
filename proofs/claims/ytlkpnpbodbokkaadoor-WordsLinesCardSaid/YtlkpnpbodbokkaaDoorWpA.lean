/- Plain: cutting at a byte and joining; a numeral's number. -/
import Derived.Lib.SplitLaws
import Derived.Lib.IndexBytes
import Derived.Lib.Join
import Derived.Lib.ParseIntB
import Derived.Lib.ItoaNum
namespace Go.Bs
def spl (c : UInt8) : List UInt8 → List (List UInt8)
  | [] => [[]]
  | b :: l => if b = c then [] :: spl c l else (b :: (spl c l).headD []) :: (spl c l).tail
theorem spl_ne (c : UInt8) (l : List UInt8) : spl c l ≠ [] := by
  cases l with
  | nil => simp [spl]
  | cons b l => unfold spl; split <;> simp
theorem spl_app (c : UInt8) (p r : List UInt8) (hp : c ∉ p) : spl c (p ++ c :: r) = p :: spl c r := by
  induction p with
  | nil => simp [spl]
  | cons b p ih =>
    rw [List.mem_cons, not_or] at hp
    rw [List.cons_append, spl, if_neg (fun e => hp.1 e.symm), ih hp.2]
    rfl
theorem spl_none (c : UInt8) (p : List UInt8) (hp : c ∉ p) : spl c p = [p] := by
  induction p with
  | nil => rfl
  | cons b p ih =>
    rw [List.mem_cons, not_or] at hp
    rw [spl, if_neg (fun e => hp.1 e.symm), ih hp.2]
    rfl
theorem indexByte_app (c : UInt8) (p r : List UInt8) (hp : c ∉ p) : Lib.indexByte (p ++ c :: r) c = (p.length : Int) := by
  induction p with
  | nil => simp [Lib.indexByte]
  | cons b p ih =>
    rw [List.mem_cons, not_or] at hp
    have hb : (b == c) = false := beq_eq_false_iff_ne.2 (fun e => hp.1 e.symm)
    rw [List.cons_append, Lib.indexByte, hb, ih hp.2]
    have : ((p.length : Int) == -1) = false := beq_eq_false_iff_ne.2 (by omega)
    rw [this]
    simp
theorem splitK_spl (c : UInt8) : ∀ (n : Nat) (l : List UInt8), l.length ≤ n → Lib.splitK [c] 0 (l.count c) l = spl c l
  | n, l, hn => by
    by_cases hc : c ∈ l
    · obtain ⟨p, r, rfl, hp⟩ := List.eq_append_cons_of_mem hc
      have hcnt : (p ++ c :: r).count c = r.count c + 1 := by
        rw [List.count_append, List.count_cons_self, List.count_eq_zero_of_not_mem hp]; omega
      have hlen : r.length + 1 ≤ n := by simp at hn; omega
      obtain ⟨m, rfl⟩ : ∃ m, n = m + 1 := ⟨n - 1, by omega⟩
      have hi : Lib.index (p ++ c :: r) [c] = (p.length : Int) := by rw [Lib.index_one]; exact indexByte_app c p r hp
      have h0 : ((p.length : Int) == -1) = false := beq_eq_false_iff_ne.2 (by omega)
      rw [hcnt, Lib.splitK, hi, h0, spl_app c p r hp]
      have e1 : (p ++ c :: r).take ((p.length : Int).toNat + 0) = p := by simp
      have e2 : (p ++ c :: r).drop ((p.length : Int).toNat + [c].length) = r := by
        rw [show (p.length : Int).toNat + [c].length = p.length + 1 by simp, ← List.drop_drop, List.drop_left]; rfl
      rw [e1, e2, splitK_spl c m r (by omega)]
      simp
    · rw [List.count_eq_zero_of_not_mem hc, spl_none c l hc]
      rfl
theorem splitB_spl (c : UInt8) (s : ByteArray) : (Lib.splitB ⟨#[c]⟩ 0 (Lib.countB s ⟨#[c]⟩) s).map (·.data.toList) = spl c s.data.toList := by
  have h1 : Lib.countB s ⟨#[c]⟩ = s.data.toList.count c := Lib.count_one c _
  rw [Lib.splitB_data, h1]
  exact splitK_spl c _ _ (Nat.le_refl _)
def jl (c : UInt8) : List (List UInt8) → List UInt8
  | [] => []
  | [x] => x
  | x :: y :: r => x ++ c :: jl c (y :: r)
theorem jl_cons (c : UInt8) (x : List UInt8) (r : List (List UInt8)) (h : r ≠ []) : jl c (x :: r) = x ++ c :: jl c r := by
  cases r with
  | nil => exact absurd rfl h
  | cons y r => rfl
theorem jl_spl (c : UInt8) (l : List UInt8) : jl c (spl c l) = l := by
  induction l with
  | nil => rfl
  | cons b l ih =>
    unfold spl
    split
    · rename_i h
      rw [jl_cons c _ _ (spl_ne c l), ih, h]; rfl
    · cases hs : spl c l with
      | nil => exact absurd hs (spl_ne c l)
      | cons x r =>
        rw [hs] at ih
        rw [← ih]
        cases r with
        | nil => rfl
        | cons y r => rfl
theorem spl_jl (c : UInt8) (L : List (List UInt8)) (hn : L ≠ []) (h : ∀ x ∈ L, c ∉ x) : spl c (jl c L) = L := by
  induction L with
  | nil => exact absurd rfl hn
  | cons x r ih =>
    cases r with
    | nil => exact spl_none c x (h x (List.mem_cons_self ..))
    | cons y r =>
      rw [jl_cons c _ _ (by simp), spl_app c x _ (h x (List.mem_cons_self ..)), ih (by simp) (fun z hz => h z (List.mem_cons_of_mem _ hz))]
theorem jl_snoc (c : UInt8) (L : List (List UInt8)) (x : List UInt8) : jl c (L ++ [x]) = if L = [] then x else jl c L ++ c :: x := by
  induction L with
  | nil => rfl
  | cons a L ih =>
    cases L with
    | nil => rfl
    | cons b L =>
      rw [List.cons_append, jl_cons c _ _ (by simp), ih, if_neg (by simp), if_neg (by simp), jl_cons c a _ (by simp)]
      simp
theorem jl_join (c : UInt8) (x : List UInt8) (r : List (List UInt8)) : Lib.join (x :: r) [c] = jl c (x :: r) := by
  rw [Lib.join_cons]
  induction r generalizing x with
  | nil => simp [Lib.joinTail, jl]
  | cons y r ih =>
    rw [jl_cons c _ _ (by simp), ← ih y]
    simp [Lib.joinTail]
theorem jl_join' (c : UInt8) (L : List (List UInt8)) : Lib.join L [c] = jl c L := by
  cases L with
  | nil => exact Lib.join_nil _
  | cons x r => exact jl_join c x r
theorem parse_le (M : Nat) : ∀ (l : List UInt8) (acc v : Nat), acc ≤ M → Lib.parseUintM M acc l = .ok v → v ≤ M
  | [], acc, v, h, e => by
    unfold Lib.parseUintM at e
    injection e with e
    omega
  | c :: r, acc, v, h, e => by
    unfold Lib.parseUintM at e
    split at e
    · split at e
      · cases e
      · split at e
        · cases e
        · exact parse_le M r _ v (by omega) e
    · cases e
theorem dec_big' (k : Nat) (h : 10 ≤ k) : Lib.decDigits k = Lib.decDigits (k / 10) ++ [UInt8.ofNat (48 + k % 10)] := by
  conv => lhs; rw [Lib.decDigits, dif_neg (by omega)]
theorem u8_dig (k : Nat) (h : k < 10) : (UInt8.ofNat (48 + k)).toNat = 48 + k := by
  rw [UInt8.toNat_ofNat']; omega
theorem parse_dig (M acc k : Nat) (h : k < 10) (R : List UInt8) (ha : acc * 10 + k ≤ M) (hM : M < 18446744073709551616) : Lib.parseUintM M acc (UInt8.ofNat (48 + k) :: R) = Lib.parseUintM M (acc * 10 + k) R := by
  conv => lhs; unfold Lib.parseUintM
  rw [u8_dig k h, if_pos (by omega), if_neg (by omega), if_neg (by omega), show 48 + k - 48 = k by omega]
theorem parse_dec (M : Nat) (hM : M < 18446744073709551616) (u : Nat) : u ≤ M → ∀ R : List UInt8, Lib.parseUintM M 0 (Lib.decDigits u ++ R) = Lib.parseUintM M u R := by
  induction u using Nat.strongRecOn with
  | _ u ih =>
    intro hu R
    by_cases h : u < 10
    · rw [Lib.decDigits_one h, List.singleton_append, parse_dig M 0 u h R (by omega) hM]; simp
    · rw [dec_big' u (by omega), List.append_assoc, ih (u / 10) (by omega) (by omega), List.singleton_append, parse_dig M (u / 10) (u % 10) (by omega) R (by omega) hM]
      congr 1
      omega
theorem parse_num (u : Nat) (hu : u < 18446744073709551616) : Lib.parseUintB 64 (Lib.decDigits u) = .ok u := by
  have hn : Lib.decDigits u ≠ [] := by
    intro e
    have h := congrArg List.length e
    rw [Lib.decDigits_length] at h
    have := Lib.nDigits_pos u
    simp only [List.length_nil] at h
    omega
  unfold Lib.parseUintB
  rw [if_neg hn]
  have h := parse_dec (2 ^ 64 - 1) (by omega) u (by omega) []
  rw [List.append_nil] at h
  exact h
/-- The number of a word. -/
def numOf (s : List UInt8) : Option Nat := match Lib.parseUintB 64 s with
  | .ok v => if Lib.decDigits v = s then some v else none
  | _ => none
theorem parse_lt (s : List UInt8) (v : Nat) (h : Lib.parseUintB 64 s = .ok v) : v < 18446744073709551616 := by
  unfold Lib.parseUintB at h
  split at h
  · cases h
  · have := parse_le (2 ^ 64 - 1) s 0 v (by omega) h
    omega
theorem numOf_ok (s : List UInt8) (v : Nat) (h : Lib.parseUintB 64 s = .ok v) : numOf s = if Lib.decDigits v = s then some v else none := by
  unfold numOf; rw [h]
theorem numOf_bad (s : List UInt8) (h : ∀ v, Lib.parseUintB 64 s ≠ .ok v) : numOf s = none := by
  unfold numOf
  split
  · rename_i v e; exact absurd e (h v)
  · rfl
theorem numOf_dec (u : Nat) (hu : u < 18446744073709551616) : numOf (Lib.decDigits u) = some u := by
  rw [numOf_ok _ u (parse_num u hu), if_pos rfl]
theorem numOf_some (s : List UInt8) (u : Nat) (h : numOf s = some u) : Lib.decDigits u = s ∧ u < 18446744073709551616 := by
  by_cases hv : ∃ v, Lib.parseUintB 64 s = .ok v
  · obtain ⟨v, hv⟩ := hv
    rw [numOf_ok s v hv] at h
    split at h
    · injection h with h
      subst h
      exact ⟨by assumption, parse_lt s v hv⟩
    · cases h
  · rw [numOf_bad s (fun v e => hv ⟨v, e⟩)] at h; cases h
end Go.Bs
