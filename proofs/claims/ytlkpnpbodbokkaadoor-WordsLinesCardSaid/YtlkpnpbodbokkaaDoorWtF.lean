/- strings.IndexRune in the sixteen signs of hex, at any rune (written by gen_wtf.py). -/
import Derived.Test.YtlkpnpbodbokkaaDoorProg
import Derived.WalkKit
import Derived.Deep.Cut
import Derived.BigQuiet
import Derived.LoopTactic
import Derived.Scope
import Derived.Laws.Runes
import Derived.Laws.RangeString
import Derived.Laws.RangeAny
import Derived.Lib.OthersKept
import Derived.Test.YtlkpnpbodbokkaaDoorShe
import Derived.Test.YtlkpnpbodbokkaaDoorBase
import Derived.Test.YtlkpnpbodbokkaaDoorWpB
namespace Go.Bs
open Go.RowKit
abbrev hexS : ByteArray := ⟨#[48, 49, 50, 51, 52, 53, 54, 55, 56, 57, 97, 98, 99, 100, 101, 102]⟩
theorem indexByte_no (l : List UInt8) (c : UInt8) (h : c ∉ l) : Lib.indexByte l c = -1 := by
  induction l with
  | nil => rfl
  | cons b l ih =>
    rw [List.mem_cons, not_or] at h
    have hb : (b == c) = false := beq_eq_false_iff_ne.2 (fun e => h.1 e.symm)
    rw [Lib.indexByte, hb, ih h.2]
    rfl
end Go.Bs
namespace Go.Proofs.YtlkpnpbodbokkaaDoor
open Go.RowKit Go.Bs
set_option linter.unusedVariables false
set_option linter.unusedSimpArgs false

def IrSpec (c : Int) (w : World) : Prop := Calls Tryd.prog 45 #[.string hexS, .int .i32 c] w fun r w' => r = .returned (.int .i64 (-1)) ∧ Below w.heap.size w w'

set_option maxRecDepth 100000 in
set_option maxHeartbeats 3200000 in
/-- A byte sequence that is no rune. -/
theorem ir_err (w : World) : IrSpec 65533 w := by
  unfold IrSpec
  go_enter Tryd.func45, Tryd.ntmps45
  go_wp2_with fail
  go_loopw [5] (fun s wr => ∃ pos : Nat, pos ≤ 16 ∧ wr = w.iter hexS pos) (fun _ wr => 16 - wr.iterPos w.heap.size)
  case atStart => exact ⟨0, by omega, rfl⟩
  case round =>
    obtain ⟨pos, hp, rfl⟩ := hrel
    by_cases hlt : pos < 16
    · have hl : pos < hexS.size := hlt
      have ha : (hexS[pos]'hl).toNat < 128 := by
        have hh : ∀ p : Fin 16, (hexS[p.val]'(p.isLt)).toNat < 128 := by decide
        exact hh ⟨pos, hlt⟩
      have hnx := fun ty => run_next_ascii (P := Tryd.prog) w hexS pos ty hl ha
      generalize (hexS[pos]'hl).toNat = d at *
      have d1 : ((d : Int) == (65533 : Int)) = false := beq_eq_false_iff_ne.2 (by omega)
      go_wp2_with fail
      go_roundw
      case rel => exact ⟨pos + 1, by omega, rfl⟩
      case measure => simp; omega
    · have hnx := fun ty => run_next_end (P := Tryd.prog) w hexS pos ty hlt
      go_wp2_with fail
      go_ret
      exact ⟨rfl, (Below.refl _ _).alloc (Nat.le_refl _) _⟩

set_option maxRecDepth 100000 in
set_option maxHeartbeats 3200000 in
/-- A rune that none may be. -/
theorem ir_bad (c : Int) (h : 128 ≤ c) (hm : c ≤ 1114111) (he : c ≠ 65533) (hv : Lib.validRune c = false) (w : World) : IrSpec c w := by
  unfold IrSpec
  have d1 : decide ((0 : Int) ≤ c) = true := decide_eq_true (by omega)
  have d2 : decide (c < 128) = false := decide_eq_false (by omega)
  have d3 : (c == (65533 : Int)) = false := beq_eq_false_iff_ne.2 he
  have HV := hid (fun w => Tryd.utf8_ValidRune c w)
  rw [hv] at HV
  clear hv he
  go_enter Tryd.func45, Tryd.ntmps45
  go_wp2_with fail
  refine (HV.out _).mono ?_
  rintro r w1 ⟨rfl, rfl⟩
  go_wp2_with fail
  go_ret
  exact ⟨rfl, Below.refl _ _⟩

set_option maxRecDepth 100000 in
set_option maxHeartbeats 3200000 in
/-- A rune of two or more bytes: its last byte is none of the signs. -/
theorem ir_high (c : Int) (h : 128 ≤ c) (hm : c ≤ 1114111) (he : c ≠ 65533) (hv : Lib.validRune c = true) (w : World) : IrSpec c w := by
  unfold IrSpec
  have d1 : decide ((0 : Int) ≤ c) = true := decide_eq_true (by omega)
  have d2 : decide (c < 128) = false := decide_eq_false (by omega)
  have d3 : (c == (65533 : Int)) = false := beq_eq_false_iff_ne.2 he
  have HV := hid (fun w => Tryd.utf8_ValidRune c w)
  have hf := encode_facts c (by rw [validRune_eq]; exact hv) h
  rw [hv] at HV
  clear hv he
  go_enter Tryd.func45, Tryd.ntmps45
  go_wp2_with fail
  refine (HV.out _).mono ?_
  rintro r w1 ⟨rfl, rfl⟩
  have hcE : ∀ W : World, (convert 21 9 (.int .i32 c)).run Tryd.prog W = .ok (.string (Utf8.encode c)) W := fun W => run_convert_int_string W _ _ _ _ (by rw [Tryd.underlying21]; rfl) Tryd.underlying9
  generalize Utf8.encode c = E at *
  have hs : E.size = 2 ∨ E.size = 3 ∨ E.size = 4 := by omega
  rcases hs with hs | hs | hs
  · have hl : 1 < E.size := by omega
    have h3 := hf.2.2 (by omega)
    have hq : ∃ q : UInt8, E[1]'hl = q ∧ 128 ≤ q.toNat := ⟨_, rfl, by
      have e : ∀ (k : Nat) (hk : k < E.size), k = 1 → (E[k]'hk) = E[1]'hl := fun k hk e => by subst e; rfl
      rw [e _ _ (by omega)] at h3
      exact h3⟩
    obtain ⟨q, hq, hq1⟩ := hq
    have iE : ∀ W : World, (Instr.index 9 (.string E) (.int .i64 1)).run Tryd.prog W = .ok (.int .u8 ((q.toNat : Nat) : Int)) W := fun W => by
      rw [run_index_string _ _ _ _ _ Tryd.underlying9, dif_pos (by omega)]
      show Result.ok (Value.int .u8 ((E[1]'hl).toNat : Int)) W = _
      rw [hq]
    have iD : ∀ W : World, (Instr.index 9 (.string hexS) (.int .i64 1)).run Tryd.prog W = .ok (.int .u8 49) W := fun W => by kernel_rfl
    have sD : ∀ W : World, (Instr.slice 9 (.string hexS) (some (.int .i64 2)) none none).run Tryd.prog W = .ok (.string ⟨#[50, 51, 52, 53, 54, 55, 56, 57, 97, 98, 99, 100, 101, 102]⟩) W := fun W => by kernel_rfl
    have hno : Lib.indexByte [50, 51, 52, 53, 54, 55, 56, 57, 97, 98, 99, 100, 101, 102] q = -1 := indexByte_no _ _ (by
      intro hm
      have hh : ∀ u ∈ ([50, 51, 52, 53, 54, 55, 56, 57, 97, 98, 99, 100, 101, 102] : List UInt8), u.toNat < 128 := by decide
      have := hh q hm
      omega)
    have HIB : Hid (∀ w : World, Calls Tryd.prog 55 #[.string ⟨#[50, 51, 52, 53, 54, 55, 56, 57, 97, 98, 99, 100, 101, 102]⟩, .int .u8 ((q.toNat : Nat) : Int)] w fun e w' => e = .returned (.int .i64 (-1)) ∧ w = w') := hid (fun w => (Tryd.strings_IndexByte _ _ w).mono (by
      rintro e w' ⟨rfl, rfl⟩
      have eq : ((q.toNat : Nat) : Int).toNat.toUInt8 = q := by simp
      rw [eq]
      exact ⟨by rw [← hno], rfl⟩))
    have dn : ((49 : Int) != ((q.toNat : Nat) : Int)) = true := bne_iff_ne.2 (by omega)
    have ez : ((E.size : Nat) : Int) = 2 := by omega
    clear hf h3 hl hq hq1 hs hno
    generalize q.toNat = qn at *
    go_wp2_with fail
    refine wp_scope_straight ?_
    go_wp2_with fail
    go_loopw [9] (fun i wr => i = .int .i64 1 ∧ wr = w1) (fun _ _ => 0)
    case atStart => exact ⟨rfl, rfl⟩
    case round =>
      obtain ⟨rfl, rfl⟩ := hrel
      go_wp2_with fail
      refine wp_scope_straight ?_
      go_wp2_with fail
      refine wp_region_later (by kernel_rfl) (by kernel_rfl) ?_
      repeat (go_big_quiet_step (fail))
      refine wpQuiet_nil ?_
      rintro W5 ⟨⟨W5', hb5⟩, rfl⟩
      go_wp2_with fail
      refine wp_region_later (by kernel_rfl) (by kernel_rfl) ?_
      repeat (go_big_quiet_step ((go_at_call 55; with_reducible exact later_same (HIB.out _))))
      refine wpQuiet_nil ?_
      rintro W6 ⟨⟨W6', hb6⟩, rfl⟩
      have HB := hid (hb5.trans (hb6.mono hb5.size))
      go_wp2_with fail
      simp only [Exit.noGoto]
      go_wp2_with fail
      (try simp only [Exit.noGoto])
      go_wp2_with fail
      go_ret
      exact ⟨rfl, HB.out⟩
  · have hl : 2 < E.size := by omega
    have h3 := hf.2.2 (by omega)
    have hq : ∃ q : UInt8, E[2]'hl = q ∧ 128 ≤ q.toNat := ⟨_, rfl, by
      have e : ∀ (k : Nat) (hk : k < E.size), k = 2 → (E[k]'hk) = E[2]'hl := fun k hk e => by subst e; rfl
      rw [e _ _ (by omega)] at h3
      exact h3⟩
    obtain ⟨q, hq, hq1⟩ := hq
    have iE : ∀ W : World, (Instr.index 9 (.string E) (.int .i64 2)).run Tryd.prog W = .ok (.int .u8 ((q.toNat : Nat) : Int)) W := fun W => by
      rw [run_index_string _ _ _ _ _ Tryd.underlying9, dif_pos (by omega)]
      show Result.ok (Value.int .u8 ((E[2]'hl).toNat : Int)) W = _
      rw [hq]
    have iD : ∀ W : World, (Instr.index 9 (.string hexS) (.int .i64 2)).run Tryd.prog W = .ok (.int .u8 50) W := fun W => by kernel_rfl
    have sD : ∀ W : World, (Instr.slice 9 (.string hexS) (some (.int .i64 3)) none none).run Tryd.prog W = .ok (.string ⟨#[51, 52, 53, 54, 55, 56, 57, 97, 98, 99, 100, 101, 102]⟩) W := fun W => by kernel_rfl
    have hno : Lib.indexByte [51, 52, 53, 54, 55, 56, 57, 97, 98, 99, 100, 101, 102] q = -1 := indexByte_no _ _ (by
      intro hm
      have hh : ∀ u ∈ ([51, 52, 53, 54, 55, 56, 57, 97, 98, 99, 100, 101, 102] : List UInt8), u.toNat < 128 := by decide
      have := hh q hm
      omega)
    have HIB : Hid (∀ w : World, Calls Tryd.prog 55 #[.string ⟨#[51, 52, 53, 54, 55, 56, 57, 97, 98, 99, 100, 101, 102]⟩, .int .u8 ((q.toNat : Nat) : Int)] w fun e w' => e = .returned (.int .i64 (-1)) ∧ w = w') := hid (fun w => (Tryd.strings_IndexByte _ _ w).mono (by
      rintro e w' ⟨rfl, rfl⟩
      have eq : ((q.toNat : Nat) : Int).toNat.toUInt8 = q := by simp
      rw [eq]
      exact ⟨by rw [← hno], rfl⟩))
    have dn : ((50 : Int) != ((q.toNat : Nat) : Int)) = true := bne_iff_ne.2 (by omega)
    have ez : ((E.size : Nat) : Int) = 3 := by omega
    clear hf h3 hl hq hq1 hs hno
    generalize q.toNat = qn at *
    go_wp2_with fail
    refine wp_scope_straight ?_
    go_wp2_with fail
    go_loopw [9] (fun i wr => i = .int .i64 2 ∧ wr = w1) (fun _ _ => 0)
    case atStart => exact ⟨rfl, rfl⟩
    case round =>
      obtain ⟨rfl, rfl⟩ := hrel
      go_wp2_with fail
      refine wp_scope_straight ?_
      go_wp2_with fail
      refine wp_region_later (by kernel_rfl) (by kernel_rfl) ?_
      repeat (go_big_quiet_step (fail))
      refine wpQuiet_nil ?_
      rintro W5 ⟨⟨W5', hb5⟩, rfl⟩
      go_wp2_with fail
      refine wp_region_later (by kernel_rfl) (by kernel_rfl) ?_
      repeat (go_big_quiet_step ((go_at_call 55; with_reducible exact later_same (HIB.out _))))
      refine wpQuiet_nil ?_
      rintro W6 ⟨⟨W6', hb6⟩, rfl⟩
      have HB := hid (hb5.trans (hb6.mono hb5.size))
      go_wp2_with fail
      simp only [Exit.noGoto]
      go_wp2_with fail
      (try simp only [Exit.noGoto])
      go_wp2_with fail
      go_ret
      exact ⟨rfl, HB.out⟩
  · have hl : 3 < E.size := by omega
    have h3 := hf.2.2 (by omega)
    have hq : ∃ q : UInt8, E[3]'hl = q ∧ 128 ≤ q.toNat := ⟨_, rfl, by
      have e : ∀ (k : Nat) (hk : k < E.size), k = 3 → (E[k]'hk) = E[3]'hl := fun k hk e => by subst e; rfl
      rw [e _ _ (by omega)] at h3
      exact h3⟩
    obtain ⟨q, hq, hq1⟩ := hq
    have iE : ∀ W : World, (Instr.index 9 (.string E) (.int .i64 3)).run Tryd.prog W = .ok (.int .u8 ((q.toNat : Nat) : Int)) W := fun W => by
      rw [run_index_string _ _ _ _ _ Tryd.underlying9, dif_pos (by omega)]
      show Result.ok (Value.int .u8 ((E[3]'hl).toNat : Int)) W = _
      rw [hq]
    have iD : ∀ W : World, (Instr.index 9 (.string hexS) (.int .i64 3)).run Tryd.prog W = .ok (.int .u8 51) W := fun W => by kernel_rfl
    have sD : ∀ W : World, (Instr.slice 9 (.string hexS) (some (.int .i64 4)) none none).run Tryd.prog W = .ok (.string ⟨#[52, 53, 54, 55, 56, 57, 97, 98, 99, 100, 101, 102]⟩) W := fun W => by kernel_rfl
    have hno : Lib.indexByte [52, 53, 54, 55, 56, 57, 97, 98, 99, 100, 101, 102] q = -1 := indexByte_no _ _ (by
      intro hm
      have hh : ∀ u ∈ ([52, 53, 54, 55, 56, 57, 97, 98, 99, 100, 101, 102] : List UInt8), u.toNat < 128 := by decide
      have := hh q hm
      omega)
    have HIB : Hid (∀ w : World, Calls Tryd.prog 55 #[.string ⟨#[52, 53, 54, 55, 56, 57, 97, 98, 99, 100, 101, 102]⟩, .int .u8 ((q.toNat : Nat) : Int)] w fun e w' => e = .returned (.int .i64 (-1)) ∧ w = w') := hid (fun w => (Tryd.strings_IndexByte _ _ w).mono (by
      rintro e w' ⟨rfl, rfl⟩
      have eq : ((q.toNat : Nat) : Int).toNat.toUInt8 = q := by simp
      rw [eq]
      exact ⟨by rw [← hno], rfl⟩))
    have dn : ((51 : Int) != ((q.toNat : Nat) : Int)) = true := bne_iff_ne.2 (by omega)
    have ez : ((E.size : Nat) : Int) = 4 := by omega
    clear hf h3 hl hq hq1 hs hno
    generalize q.toNat = qn at *
    go_wp2_with fail
    refine wp_scope_straight ?_
    go_wp2_with fail
    go_loopw [9] (fun i wr => i = .int .i64 3 ∧ wr = w1) (fun _ _ => 0)
    case atStart => exact ⟨rfl, rfl⟩
    case round =>
      obtain ⟨rfl, rfl⟩ := hrel
      go_wp2_with fail
      refine wp_scope_straight ?_
      go_wp2_with fail
      refine wp_region_later (by kernel_rfl) (by kernel_rfl) ?_
      repeat (go_big_quiet_step (fail))
      refine wpQuiet_nil ?_
      rintro W5 ⟨⟨W5', hb5⟩, rfl⟩
      go_wp2_with fail
      refine wp_region_later (by kernel_rfl) (by kernel_rfl) ?_
      repeat (go_big_quiet_step ((go_at_call 55; with_reducible exact later_same (HIB.out _))))
      refine wpQuiet_nil ?_
      rintro W6 ⟨⟨W6', hb6⟩, rfl⟩
      have HB := hid (hb5.trans (hb6.mono hb5.size))
      go_wp2_with fail
      simp only [Exit.noGoto]
      go_wp2_with fail
      (try simp only [Exit.noGoto])
      go_wp2_with fail
      go_ret
      exact ⟨rfl, HB.out⟩
end Go.Proofs.YtlkpnpbodbokkaaDoor
