/- What a segment of the version 1 becomes: plain. -/
import Derived.Test.YtkipiefcnjfdjaaGreatGrow
namespace Go.Bs
open Go.RowKit
set_option linter.unusedVariables false
def backsO (x : Old) : List Int := if x.has then [x.back] else []
def upE (x : Old) : Entry := ⟨[⟨x.stream, backsO x⟩], x.data⟩
def upB (e base : Int) (l : List Old) (j : Nat) : Batch := ⟨e, base + ((16 * j : Nat) : Int), ((l.drop (16 * j)).take 16).map upE⟩
def upL (e base : Int) (l : List Old) : List Batch := (List.range ((l.length + 15) / 16)).map (upB e base l)

theorem upB_same (e base : Int) (T : List Old) (x : Old) (j : Nat) (h : 16 * j + 16 ≤ T.length) : upB e base (T ++ [x]) j = upB e base T j := by
  unfold upB
  rw [List.drop_append_of_le_length (by omega), List.take_append_of_le_length (by simp; omega)]
theorem upL_nil (e base : Int) : upL e base [] = [] := rfl
/-- One entry more. -/
theorem upL_step (e base : Int) (T : List Old) (x : Old) : ∃ B0 es, upL e base (T ++ [x]) = B0 ++ [⟨e, base + ((16 * (T.length / 16) : Nat) : Int), es ++ [upE x]⟩] ∧ B0.length = T.length / 16 ∧
    (T.length % 16 = 0 → upL e base T = B0 ∧ es = []) ∧ (T.length % 16 ≠ 0 → upL e base T = B0 ++ [⟨e, base + ((16 * (T.length / 16) : Nat) : Int), es⟩]) ∧ es.length < 16 := by
  obtain ⟨m, hm⟩ : ∃ m, T.length / 16 = m := ⟨_, rfl⟩
  have hr := Nat.div_add_mod T.length 16
  have hlt := Nat.mod_lt T.length (show 16 > 0 by omega)
  rw [hm] at hr ⊢
  refine ⟨(List.range m).map (upB e base T), (T.drop (16 * m)).map upE, ?_, by simp, ?_, ?_, by simp; omega⟩
  · unfold upL
    have h1 : ((T ++ [x]).length + 15) / 16 = m + 1 := by simp; omega
    rw [h1, List.range_succ, List.map_append]
    congr 1
    · refine List.map_congr_left fun j hj => upB_same e base T x j ?_
      have := List.mem_range.1 hj
      omega
    · simp only [List.map_cons, List.map_nil, upB]
      rw [List.drop_append_of_le_length (by omega), List.take_of_length_le (by simp; omega)]
      simp
  · intro h0
    have h1 : (T.length + 15) / 16 = m := by omega
    exact ⟨by unfold upL; rw [h1], by rw [List.drop_of_length_le (by omega)]; rfl⟩
  · intro h0
    have h1 : (T.length + 15) / 16 = m + 1 := by omega
    unfold upL
    rw [h1, List.range_succ, List.map_append]
    congr 1
    simp only [List.map_cons, List.map_nil, upB]
    rw [List.take_of_length_le (by simp; omega)]
/-- Batch m, as far as entry i. -/
def upT (l : List Old) (m i : Nat) : List Entry := ((l.drop (16 * m)).take (i - 16 * m)).map upE
theorem upT_nil (l : List Old) (m : Nat) : upT l m (16 * m) = [] := by simp [upT]
theorem upT_step (l : List Old) (m i : Nat) (h : 16 * m ≤ i) (hi : i < l.length) : upT l m (i + 1) = upT l m i ++ [upE l[i]] := by
  unfold upT
  have e : (l.drop (16 * m)).take (i + 1 - 16 * m) = (l.drop (16 * m)).take (i - 16 * m) ++ [l[i]] := by
    rw [show i + 1 - 16 * m = (i - 16 * m) + 1 by omega, List.take_succ_eq_append_getElem (by simp; omega)]
    congr 2
    simp
    congr 1
    omega
  rw [e]; simp
theorem upT_end (e base : Int) (l : List Old) (m i : Nat) (h : i = l.length ∨ i = 16 * m + 16) (h2 : i ≤ l.length) (h3 : i ≤ 16 * m + 16) : (⟨e, base + ((16 * m : Nat) : Int), upT l m i⟩ : Batch) = upB e base l m := by
  unfold upB upT
  congr 2
  rcases h with h | h
  · rw [List.take_of_length_le (by simp; omega), List.take_of_length_le (by simp; omega)]
  · rw [h]; congr 1; omega
theorem upT_length (l : List Old) (m i : Nat) (h2 : i ≤ l.length) : (upT l m i).length = i - 16 * m := by
  unfold upT; simp; omega
theorem upL_range (e base : Int) (l : List Old) (m : Nat) (h1 : l.length ≤ 16 * m) (h2 : 16 * m < l.length + 16) : (List.range m).map (upB e base l) = upL e base l := by
  unfold upL; rw [show (l.length + 15) / 16 = m by omega]
theorem upL_length (e base : Int) (l : List Old) : (upL e base l).length = (l.length + 15) / 16 := by simp [upL]
end Go.Bs
