/- The codes' words: fault.words, fault.Word, fault.Find, ref01.Word (written by gen_fwa.py). -/
import Derived.Test.YtlkpnpbodbokkaaDoorProg
import Derived.WalkKit
import Derived.Deep.Cut
import Derived.Deep.WholeRow
import Derived.Test.YtlkpnpbodbokkaaDoorBase
import Derived.Test.YtlkpnpbodbokkaaDoorRep
namespace Go.Bs
open Go.RowKit
set_option linter.unusedVariables false
def wordsL : List ByteArray := [⟨#[111, 107]⟩, ⟨#[115, 104, 111, 114, 116]⟩, ⟨#[108, 111, 110, 103]⟩, ⟨#[105, 110, 118, 97, 108, 105, 100]⟩, ⟨#[110, 111, 110, 45, 109, 105, 110, 105, 109, 97, 108]⟩, ⟨#[111, 118, 101, 114, 102, 108, 111, 119]⟩, ⟨#[115, 117, 109]⟩, ⟨#[107, 105, 110, 100]⟩, ⟨#[118, 101, 114, 115, 105, 111, 110]⟩, ⟨#[114, 101, 115, 116]⟩, ⟨#[116, 111, 107, 101, 110]⟩, ⟨#[98, 111, 117, 110, 100]⟩, ⟨#[110, 111, 110, 45, 99, 97, 110, 111, 110, 105, 99, 97, 108]⟩, ⟨#[111, 114, 100, 101, 114]⟩, ⟨#[109, 97, 103, 105, 99]⟩, ⟨#[116, 111, 111, 45, 108, 97, 114, 103, 101]⟩, ⟨#[110, 111, 110, 101]⟩, ⟨#[97, 114, 103]⟩, ⟨#[115, 116, 97, 116, 101]⟩, ⟨#[110, 105, 108]⟩, ⟨#[102, 111, 114, 109]⟩]
def wS : Array Value := #[.string ⟨#[111, 107]⟩, .string ⟨#[115, 104, 111, 114, 116]⟩, .string ⟨#[108, 111, 110, 103]⟩, .string ⟨#[105, 110, 118, 97, 108, 105, 100]⟩, .string ⟨#[110, 111, 110, 45, 109, 105, 110, 105, 109, 97, 108]⟩, .string ⟨#[111, 118, 101, 114, 102, 108, 111, 119]⟩, .string ⟨#[115, 117, 109]⟩, .string ⟨#[107, 105, 110, 100]⟩, .string ⟨#[118, 101, 114, 115, 105, 111, 110]⟩, .string ⟨#[114, 101, 115, 116]⟩, .string ⟨#[116, 111, 107, 101, 110]⟩, .string ⟨#[98, 111, 117, 110, 100]⟩, .string ⟨#[110, 111, 110, 45, 99, 97, 110, 111, 110, 105, 99, 97, 108]⟩, .string ⟨#[111, 114, 100, 101, 114]⟩, .string ⟨#[109, 97, 103, 105, 99]⟩, .string ⟨#[116, 111, 111, 45, 108, 97, 114, 103, 101]⟩, .string ⟨#[110, 111, 110, 101]⟩, .string ⟨#[97, 114, 103]⟩, .string ⟨#[115, 116, 97, 116, 101]⟩, .string ⟨#[110, 105, 108]⟩, .string ⟨#[102, 111, 114, 109]⟩]
theorem wordsL_len : wordsL.length = 21 := rfl
theorem wS_get : ∀ k : Nat, k < 21 → wS[k]? = some (.string (wordsL.getD k ⟨#[]⟩))
  | 0, _ => rfl
  | 1, _ => rfl
  | 2, _ => rfl
  | 3, _ => rfl
  | 4, _ => rfl
  | 5, _ => rfl
  | 6, _ => rfl
  | 7, _ => rfl
  | 8, _ => rfl
  | 9, _ => rfl
  | 10, _ => rfl
  | 11, _ => rfl
  | 12, _ => rfl
  | 13, _ => rfl
  | 14, _ => rfl
  | 15, _ => rfl
  | 16, _ => rfl
  | 17, _ => rfl
  | 18, _ => rfl
  | 19, _ => rfl
  | 20, _ => rfl
  | n + 21, h => absurd h (by omega)
theorem str_inj {a b : ByteArray} (h : a.toList = b.toList) : a = b := by
  rw [ByteArray.toList_eq, ByteArray.toList_eq] at h
  cases a; cases b
  congr 1
  exact Array.ext' h
theorem str_eq (a b : ByteArray) : (a.toList == b.toList) = decide (a = b) := by
  by_cases h : a = b
  · subst h; simp
  · rw [decide_eq_false h]
    exact beq_eq_false_iff_ne.2 fun e => h (str_inj e)
theorem upon_val {P : Program} {o : Oper} {a : Act} {K : Act → World → Prop} {Q : Exit → Act → World → Prop} {r : Result Next} {v : Value} {w' : World} (h : r = .ok (.value v) w') (hk : K (a.put o.dst v) w') : o.upon P a K Q r := by rw [h]; exact hk
theorem upon_skp {P : Program} {o : Oper} {a : Act} {K : Act → World → Prop} {Q : Exit → Act → World → Prop} {r : Result Next} {w' : World} (h : r = .ok .skip w') (hk : K (a.put o.dst undef) w') : o.upon P a K Q r := by rw [h]; exact hk
theorem wS_eq : wS = #[.string ⟨#[111, 107]⟩, .string ⟨#[115, 104, 111, 114, 116]⟩, .string ⟨#[108, 111, 110, 103]⟩, .string ⟨#[105, 110, 118, 97, 108, 105, 100]⟩, .string ⟨#[110, 111, 110, 45, 109, 105, 110, 105, 109, 97, 108]⟩, .string ⟨#[111, 118, 101, 114, 102, 108, 111, 119]⟩, .string ⟨#[115, 117, 109]⟩, .string ⟨#[107, 105, 110, 100]⟩, .string ⟨#[118, 101, 114, 115, 105, 111, 110]⟩, .string ⟨#[114, 101, 115, 116]⟩, .string ⟨#[116, 111, 107, 101, 110]⟩, .string ⟨#[98, 111, 117, 110, 100]⟩, .string ⟨#[110, 111, 110, 45, 99, 97, 110, 111, 110, 105, 99, 97, 108]⟩, .string ⟨#[111, 114, 100, 101, 114]⟩, .string ⟨#[109, 97, 103, 105, 99]⟩, .string ⟨#[116, 111, 111, 45, 108, 97, 114, 103, 101]⟩, .string ⟨#[110, 111, 110, 101]⟩, .string ⟨#[97, 114, 103]⟩, .string ⟨#[115, 116, 97, 116, 101]⟩, .string ⟨#[110, 105, 108]⟩, .string ⟨#[102, 111, 114, 109]⟩] := rfl
def wZ : Array Value := #[.string ⟨#[]⟩, .string ⟨#[]⟩, .string ⟨#[]⟩, .string ⟨#[]⟩, .string ⟨#[]⟩, .string ⟨#[]⟩, .string ⟨#[]⟩, .string ⟨#[]⟩, .string ⟨#[]⟩, .string ⟨#[]⟩, .string ⟨#[]⟩, .string ⟨#[]⟩, .string ⟨#[]⟩, .string ⟨#[]⟩, .string ⟨#[]⟩, .string ⟨#[]⟩, .string ⟨#[]⟩, .string ⟨#[]⟩, .string ⟨#[]⟩, .string ⟨#[]⟩, .string ⟨#[]⟩]
def wordOf (c : Int) : ByteArray := if 0 ≤ c ∧ c ≤ 20 then wordsL.getD c.toNat ⟨#[]⟩ else ⟨#[]⟩
end Go.Bs
namespace Go.Proofs.YtlkpnpbodbokkaaDoor
open Go.RowKit Go.Bs
set_option linter.unusedVariables false
set_option linter.unusedSimpArgs false

set_option maxRecDepth 100000 in
set_option maxHeartbeats 3200000 in
theorem fault_words (w : World) : Calls Tryd.prog 36 #[] w fun r w' => r = .returned (.agg wS) ∧ Below w.heap.size w w' := by
  go_enter Tryd.func36, Tryd.ntmps36
  go_upto_region 1 with (fail)
  refine wp_region_lit ?_
  refine wpList_plain rfl fun K hK => ?_
  unfold Oper.wp
  refine upon_val (v := .agg wS) (w' := w.alloc (.cells wZ 60)) (by kernel_rfl) ?_
  refine hK _ _ ?_
  clear hK K
  refine wpList_plain rfl fun K hK => ?_
  unfold Oper.wp
  refine upon_skp (w' := w.alloc (.cells wS 60)) ?_ ?_
  · have h := run_storeAt_new (P := Tryd.prog) w 60 wZ wS (by kernel_rfl) (by rfl) (by kernel_rfl)
    simp only [execOp, Act.eval, Act.put, Sem.run_bind]
    change (Sem.run Tryd.prog (Instr.storeAt 60 (.pointer (some ⟨w.heap.size, 0, none⟩)) (.agg wS)) (w.alloc (.cells wZ 60))).andThen _ = _
    rw [h]
    rfl
  refine hK _ _ ?_
  clear hK K
  refine wpList_nil ?_
  have hld := run_loadVar_new (P := Tryd.prog) w 60 wS 21 9 Tryd.underlying60 (by kernel_rfl)
  generalize hS : wS = S at *
  have HS := hid hS
  clear hS
  go_wp2_with fail
  refine bodyPost_ret (v := .agg S) ?_ rfl ⟨by rw [HS.out], by (repeat (first | exact Below.refl _ _ | assumption | (refine below_alloc ?_ _) | (refine Below.setCell ?_ (by first | omega | (simp; done) | (simp; omega)) _) | (refine Below.drew ?_) | (refine below_drewN ?_ _) | (refine below_then (by assumption) ?_)))⟩
  simp [results, Tryd.results36, hld, Act.put, asAddr, Result.andThen]

theorem word_ix (W : World) : ∀ c : Nat, c < 21 → (Instr.index 60 (.agg wS) (.int .i64 (c : Int))).run Tryd.prog W = .ok (.string (wordsL.getD c ⟨#[]⟩)) W
  | 0, _ => by kernel_rfl
  | 1, _ => by kernel_rfl
  | 2, _ => by kernel_rfl
  | 3, _ => by kernel_rfl
  | 4, _ => by kernel_rfl
  | 5, _ => by kernel_rfl
  | 6, _ => by kernel_rfl
  | 7, _ => by kernel_rfl
  | 8, _ => by kernel_rfl
  | 9, _ => by kernel_rfl
  | 10, _ => by kernel_rfl
  | 11, _ => by kernel_rfl
  | 12, _ => by kernel_rfl
  | 13, _ => by kernel_rfl
  | 14, _ => by kernel_rfl
  | 15, _ => by kernel_rfl
  | 16, _ => by kernel_rfl
  | 17, _ => by kernel_rfl
  | 18, _ => by kernel_rfl
  | 19, _ => by kernel_rfl
  | 20, _ => by kernel_rfl
  | n + 21, h => absurd h (by omega)

set_option maxHeartbeats 1600000 in
theorem fault_word (c : Int) (w : World) : Calls Tryd.prog 9 #[.int .i64 c] w fun r w' => r = .returned (.string (wordOf c)) ∧ Below w.heap.size w w' := by
  have HW := hid fault_words
  by_cases h0 : 0 ≤ c
  · by_cases h1 : c ≤ 20
    · obtain ⟨k, rfl⟩ : ∃ k : Nat, c = k := ⟨c.toNat, by omega⟩
      have d1 : decide ((k : Int) < 0) = false := decide_eq_false (by omega)
      have d2 : decide ((20 : Int) < (k : Int)) = false := decide_eq_false (by omega)
      have hix := fun W => word_ix W k (by omega)
      have hf : Hid (wordOf (k : Int) = wordsL.getD k ⟨#[]⟩) := hid (by unfold wordOf; rw [if_pos ⟨h0, h1⟩, Int.toNat_natCast])
      generalize wordsL.getD k ⟨#[]⟩ = s at *
      generalize wordOf (k : Int) = s' at *
      generalize wS = S at *
      clear h0 h1
      go_enter Tryd.func9, Tryd.ntmps9
      go_wp2_with fail
      refine (HW.out _).mono ?_
      rintro r w1 ⟨rfl, hb1⟩
      go_wp2
      go_ret
      exact ⟨by rw [hf.out]; rfl, hb1⟩
    · have d1 : decide (c < 0) = false := decide_eq_false (by omega)
      have d2 : decide ((20 : Int) < c) = true := decide_eq_true (by omega)
      have hf : Hid (wordOf c = ⟨#[]⟩) := hid (by unfold wordOf; rw [if_neg (by omega)])
      generalize wordOf c = s' at *
      clear h0 h1
      go_enter Tryd.func9, Tryd.ntmps9
      go_wp2
      go_ret
      exact ⟨by rw [hf.out]; rfl, Below.refl _ _⟩
  · have d1 : decide (c < 0) = true := decide_eq_true (by omega)
    have hf : Hid (wordOf c = ⟨#[]⟩) := hid (by unfold wordOf; rw [if_neg (by omega)])
    generalize wordOf c = s' at *
    clear h0
    go_enter Tryd.func9, Tryd.ntmps9
    go_wp2
    go_ret
    exact ⟨by rw [hf.out]; rfl, Below.refl _ _⟩

/-- What Find hands back. -/
def FindRet (s : ByteArray) (r : Ending) : Prop :=
  (∃ k : Nat, k < 21 ∧ wordsL.getD k ⟨#[]⟩ = s ∧ r = .returned (.tuple #[.int .i64 (k : Int), .bool true])) ∨ ((∀ k : Nat, k < 21 → wordsL.getD k ⟨#[]⟩ ≠ s) ∧ r = .returned (.tuple #[.int .i64 0, .bool false]))

set_option maxHeartbeats 1600000 in
theorem fault_find (s : ByteArray) (w : World) : Calls Tryd.prog 13 #[.string s] w fun r w' => FindRet s r ∧ Below w.heap.size w w' := by
  have HW := hid fault_words
  have HIX := hid (fun (W : World) (k : Nat) (h : k < 21) => word_ix W k h)
  generalize wS = S at *
  go_enter Tryd.func13, Tryd.ntmps13
  go_wp2_with fail
  refine (HW.out _).mono ?_
  rintro r w1 ⟨rfl, hb1⟩
  go_wp2_with fail
  go_loopw [7] (fun i wr => ∃ k : Nat, k ≤ 21 ∧ i = .int .i64 k ∧ Hid (∀ j : Nat, j < k → wordsL.getD j ⟨#[]⟩ ≠ s) ∧ wr = w1) (fun i _ => 21 - (intOf i).toNat)
  case atStart => exact ⟨0, by omega, rfl, hid (fun j hj => absurd hj (Nat.not_lt_zero _)), rfl⟩
  case round =>
    obtain ⟨k, hk, rfl, hno, rfl⟩ := hrel
    by_cases hlt : k < 21
    · have i1 : (k : Int) < 21 := by omega
      have hix := fun W => HIX.out W k hlt
      have HF := hid (fun e : wordsL.getD k ⟨#[]⟩ = s => (.inl ⟨k, hlt, e, rfl⟩ : FindRet s (.returned (.tuple #[.int .i64 (k : Int), .bool true]))))
      have HN := hid (fun (e : wordsL.getD k ⟨#[]⟩ ≠ s) (j : Nat) (hj : j < k + 1) => (by
        rcases Nat.lt_succ_iff_lt_or_eq.1 hj with h | rfl
        · exact hno.out j h
        · exact e : wordsL.getD j ⟨#[]⟩ ≠ s))
      generalize wordsL.getD k ⟨#[]⟩ = u at *
      by_cases he : u = s
      · have hd : (u.toList == s.toList) = true := by rw [str_eq]; exact decide_eq_true he
        have HE := hid (HF.out he)
        clear he HF HN
        go_wp2_with fail
        go_ret2
        exact ⟨HE.out, hb1⟩
      · have hd : (u.toList == s.toList) = false := by rw [str_eq]; exact decide_eq_false he
        have HE := hid (HN.out he)
        clear he HF HN
        go_wp2_with fail
        go_roundw
        case rel => exact ⟨k + 1, by omega, by go_num, hid HE.out, trivial⟩
        case measure => simp [intOf]; omega
    · obtain rfl : k = 21 := by omega
      go_wp2
      go_ret2
      exact ⟨.inr ⟨hno.out, rfl⟩, hb1⟩
end Go.Proofs.YtlkpnpbodbokkaaDoor
