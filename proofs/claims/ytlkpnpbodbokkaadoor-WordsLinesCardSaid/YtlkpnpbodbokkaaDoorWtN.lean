/- Lines and their words: words.plain, the document's Line and Split, Same (written by gen_wtn.py). -/
import Derived.Test.YtlkpnpbodbokkaaDoorProg
import Derived.WalkKit
import Derived.Deep.Cut
import Derived.BigQuiet
import Derived.Laws.RangeAny
import Derived.Laws.Strings2
import Derived.Laws.Strings3
import Derived.Test.YtlkpnpbodbokkaaDoorWpD
import Derived.Test.YtlkpnpbodbokkaaDoorWtJ
namespace Go.Bs
open Go.RowKit
set_option linter.unusedVariables false
/-- A slice of texts. -/
def StrsAt (w : World) (v : Value) (l : List (List UInt8)) : Prop := ∃ a c, v = .slice a l.length c ∧ (l = [] ∨ ∃ b o, a = some ⟨b, o, none⟩ ∧ b < w.heap.size ∧ l.length ≤ c ∧ ∀ i, i < l.length → w.cell? ⟨b, o + i, none⟩ = some (.string ⟨(l.getD i []).toArray⟩))
theorem StrsAt.below {w w' : World} {v : Value} {l : List (List UInt8)} (h : StrsAt w v l) (hb : Below w.heap.size w w') : StrsAt w' v l := by
  obtain ⟨a, c, h1, h2⟩ := h
  refine ⟨a, c, h1, h2.imp id fun ⟨b, o, e, hlt, hcap, hc⟩ => ⟨b, o, e, Nat.lt_of_lt_of_le hlt hb.size, hcap, fun i hi => (hb.cell (p := ⟨b, o + i, none⟩) hlt).trans (hc i hi)⟩⟩
def mkS (p : List UInt8) : ByteArray := ⟨p.toArray⟩
theorem own_texts {w : World} {base : Nat} {e : TypeId} {v : Value} {l : List (List UInt8)} {n : Nat} (hn : n = l.length) (h : w.ownsRow base e 1 v n (strCells (l.map mkS))) : StrsAt w v l := by
  by_cases hl : 0 < n
  · obtain ⟨g, c, rfl, hg, hc, hcl⟩ := own_strs (by simp [hn]) hl h
    rw [List.length_map] at hc ⊢
    refine ⟨_, c, rfl, .inr ⟨g, 0, rfl, hg, hc, fun i hi => hcl i _ ?_⟩⟩
    rw [List.getElem?_map, List.getElem?_eq_getElem hi, List.getD_eq_getElem?_getD, List.getElem?_eq_getElem hi]; rfl
  · have : l = [] := List.eq_nil_of_length_eq_zero (by omega)
    subst this
    subst hn
    rcases h.2 with ⟨rfl, h0⟩ | ⟨g, cap, cur, rfl, _⟩
    · exact ⟨none, 0, rfl, .inl rfl⟩
    · exact ⟨_, cap, rfl, .inl rfl⟩
theorem lnB_cons (b : Bool) (c : UInt8) (r : List UInt8) : lnB b (c :: r) = if c = 32 then !b && lnB true r else inR c && lnB false r := rfl
theorem mkS_data (s : ByteArray) : mkS s.data.toList = s := by
  cases s with
  | mk d => simp [mkS]
theorem extract_mkS (s : ByteArray) (f i : Nat) : s.extract f i = mkS ((s.data.toList.drop f).take (i - f)) := by
  have h : (s.extract f i).data.toList = (s.data.toList.drop f).take (i - f) := by
    rw [ByteArray.data_extract, Array.toList_extract, List.extract_eq_take_drop]
  rw [← h, mkS_data]
end Go.Bs
namespace Go.Proofs.YtlkpnpbodbokkaaDoor
open Go.RowKit Go.Bs
set_option linter.unusedVariables false
set_option linter.unusedSimpArgs false

set_option maxRecDepth 100000 in
set_option maxHeartbeats 3200000 in
theorem words_plain (s : ByteArray) (w : World) : Calls Tryd.prog 49 #[.string s] w fun r w' => r = .returned (.bool (plainB s.data.toList)) ∧ Below w.heap.size w w' := by
  have hln := str_len s
  go_enter Tryd.func49, Tryd.ntmps49
  go_wp2_with fail
  go_loopw [4] (fun _ wr => ∃ i : Nat, i ≤ s.size ∧ (∀ j, j < i → inR (s.data.toList.getD j 0) = true) ∧ wr = w.iter s i) (fun _ wr => s.size - wr.iterPos w.heap.size)
  case atStart => exact ⟨0, by omega, fun j hj => by omega, rfl⟩
  case round =>
    obtain ⟨i, hi, hpre, rfl⟩ := hrel
    by_cases hlt : i < s.size
    · have hx0 := str_at s i hlt
      by_cases ha : (s[i]'hlt).toNat < 128
      · have hnx := fun ty => run_next_ascii (P := Tryd.prog) w s i ty hlt ha
        by_cases hr : 33 ≤ (s[i]'hlt).toNat ∧ (s[i]'hlt).toNat ≤ 126
        · have hin : inR (s.data.toList.getD i 0) = true := by rw [hx0]; exact decide_eq_true hr
          have HPRE := hid hpre
          generalize (s[i]'hlt).toNat = x at *
          have d1 : decide ((x : Int) ≤ 32) = false := decide_eq_false (by omega)
          have d2 : decide ((126 : Int) < (x : Int)) = false := decide_eq_false (by omega)
          have HIN := hid hin
          clear hpre hin hx0
          go_wp2_with fail
          go_roundw
          case rel =>
            refine ⟨i + 1, by omega, fun j hj => ?_, rfl⟩
            by_cases hji : j = i
            · subst hji; exact HIN.out
            · exact HPRE.out j (by omega)
          case measure => simp; omega
        · have hin : inR (s.data.toList.getD i 0) = false := by rw [hx0]; exact decide_eq_false hr
          have hpl : Hid (plainB s.data.toList = false) := hid (by
            unfold plainB
            have : s.data.toList.all inR = false := by
              rw [List.all_eq_false]
              exact ⟨s.data.toList.getD i 0, by rw [List.getD_eq_getElem?_getD, List.getElem?_eq_getElem (by omega)]; exact List.getElem_mem (by omega), by rw [hin]; decide⟩
            rw [this]; simp)
          generalize (s[i]'hlt).toNat = x at *
          by_cases hle : (x : Int) ≤ 32
          · have d1 : decide ((x : Int) ≤ 32) = true := decide_eq_true hle
            clear hpre hin hx0 hr
            go_wp2_with fail
            go_ret
            exact ⟨by rw [hpl.out]; rfl, (Below.refl _ _).alloc (Nat.le_refl _) _⟩
          · have d1 : decide ((x : Int) ≤ 32) = false := decide_eq_false hle
            have d2 : decide ((126 : Int) < (x : Int)) = true := decide_eq_true (by omega)
            clear hpre hin hx0 hr
            go_wp2_with fail
            go_ret
            exact ⟨by rw [hpl.out]; rfl, (Below.refl _ _).alloc (Nat.le_refl _) _⟩
      · have hnx : ∀ ty, (Instr.next (.pointer (some ⟨w.heap.size, 0, none⟩)) true ty).run Tryd.prog (w.iter s i) = _ := fun ty => run_next_any w s i ty hlt
        have hd1 := decode_high s i hlt (by omega)
        have hin : inR (s.data.toList.getD i 0) = false := by rw [hx0]; exact decide_eq_false (by omega)
        have hpl : Hid (plainB s.data.toList = false) := hid (by
          unfold plainB
          have : s.data.toList.all inR = false := by
            rw [List.all_eq_false]
            exact ⟨s.data.toList.getD i 0, by rw [List.getD_eq_getElem?_getD, List.getElem?_eq_getElem (by omega)]; exact List.getElem_mem (by omega), by rw [hin]; decide⟩
          rw [this]; simp)
        generalize (Utf8.decode s i).2 = q at *
        generalize (Utf8.decode s i).1 = x at *
        have d1 : decide ((x : Int) ≤ 32) = false := decide_eq_false (by omega)
        have d2 : decide ((126 : Int) < (x : Int)) = true := decide_eq_true (by omega)
        clear hpre hin hx0 hd1
        go_wp2_with fail
        go_ret
        exact ⟨by rw [hpl.out]; rfl, (Below.refl _ _).alloc (Nat.le_refl _) _⟩
    · obtain rfl : i = s.size := by omega
      have hnx := fun ty => run_next_end (P := Tryd.prog) w s s.size ty hlt
      have hall : s.data.toList.all inR = true := by
        rw [List.all_eq_true]
        intro c hc
        obtain ⟨j, hj, rfl⟩ := List.getElem_of_mem hc
        have := hpre j (by omega)
        rw [List.getD_eq_getElem?_getD, List.getElem?_eq_getElem hj] at this
        exact this
      have hpl : Hid (plainB s.data.toList = !s.data.toList.isEmpty) := hid (by unfold plainB; rw [hall]; simp)
      have hl2 : s.toList = s.data.toList := data_str s
      cases hz : s.data.toList.isEmpty with
      | true =>
        have he : s.toList.isEmpty = true := by rw [hl2]; exact hz
        have hq : (s.toList != []) = false := by rw [hl2, List.isEmpty_iff.1 hz]; rfl
        have HZ := hid hz
        clear hpre hall hl2 hz
        go_wp2_with fail
        go_ret
        exact ⟨by rw [hpl.out, HZ.out]; rfl, (Below.refl _ _).alloc (Nat.le_refl _) _⟩
      | false =>
        have he : s.toList.isEmpty = false := by rw [hl2]; exact hz
        have hq : (s.toList != []) = true := by rw [hl2, bne_iff_ne]; exact List.isEmpty_eq_false_iff.1 hz
        have HZ := hid hz
        clear hpre hall hl2 hz
        go_wp2_with fail
        go_ret
        exact ⟨by rw [hpl.out, HZ.out]; rfl, (Below.refl _ _).alloc (Nat.le_refl _) _⟩

theorem same10_nil (a a' : Option Addr) (c c' : Nat) (w : World) : Calls Tryd.prog 31 #[.slice a 0 c, .slice a' 0 c'] w fun r w' => r = .returned (.bool true) ∧ Below w.heap.size w w' := by
  go_enter Tryd.func31, Tryd.ntmps31
  go_wp2_with fail
  go_loopw [5] (fun i wr => i = .int .i64 0 ∧ wr = w) (fun _ _ => 0)
  case atStart => exact ⟨rfl, rfl⟩
  case round =>
    obtain ⟨rfl, rfl⟩ := hrel
    go_wp2_with fail
    go_ret
    exact ⟨rfl, Below.refl _ _⟩

set_option maxRecDepth 100000 in
set_option maxHeartbeats 3200000 in
theorem same10_some (b o b' o' c c' : Nat) (l : List (List UInt8)) (w : World) (hn : l.length ≤ 100000) (h : ∀ i, i < l.length → w.cell? ⟨b, o + i, none⟩ = some (.string ⟨(l.getD i []).toArray⟩)) (h' : ∀ i, i < l.length → w.cell? ⟨b', o' + i, none⟩ = some (.string ⟨(l.getD i []).toArray⟩)) :
    Calls Tryd.prog 31 #[.slice (some ⟨b, o, none⟩) l.length c, .slice (some ⟨b', o', none⟩) l.length c'] w fun r w' => r = .returned (.bool true) ∧ Below w.heap.size w w' := by
  have H1 := hid h
  have H2 := hid h'
  clear h h'
  go_enter Tryd.func31, Tryd.ntmps31
  go_wp2_with fail
  go_loopw [5] (fun i wr => ∃ k : Nat, k ≤ l.length ∧ i = .int .i64 k ∧ Below w.heap.size w wr) (fun i _ => l.length - (intOf i).toNat)
  case atStart => exact ⟨0, by omega, rfl, Below.refl _ _⟩
  case round =>
    obtain ⟨k, hk, rfl, hb⟩ := hrel
    by_cases hlt : k < l.length
    · have i1 : (k : Int) < (l.length : Int) := by omega
      have hx := H1.out k hlt
      have hy := H2.out k hlt
      have hx' := (hb.cell (p := ⟨b, o + k, none⟩) (World.block_lt_of_cell? _ _ hx)).trans hx
      have hy' := (hb.cell (p := ⟨b', o' + k, none⟩) (World.block_lt_of_cell? _ _ hy)).trans hy
      clear hx hy
      generalize (⟨(l.getD k []).toArray⟩ : ByteArray) = x at *
      have X0 := fun z : Later wr => z.cell hx'
      have X1 := fun z : Later wr => z.cell hy'
      have HB := hid hb
      go_wp2_with fail
      refine wp_region_later (by kernel_rfl) (by kernel_rfl) ?_
      repeat (go_big_quiet_step (fail))
      refine wpQuiet_nil ?_
      rintro W5 ⟨⟨W5', hb5⟩, rfl⟩
      have HB5 := hid (HB.out.trans (hb5.mono HB.out.size))
      go_wp2_with fail
      go_roundw
      case rel => exact ⟨k + 1, by omega, by go_num, HB5.out⟩
      case measure => simp [intOf]; omega
    · obtain rfl : k = l.length := by omega
      go_wp2_with fail
      go_ret
      exact ⟨rfl, hb⟩

theorem same10 (v v' : Value) (l : List (List UInt8)) (w : World) (hn : l.length ≤ 100000) (h : StrsAt w v l) (h' : StrsAt w v' l) : Calls Tryd.prog 31 #[v, v'] w fun r w' => r = .returned (.bool true) ∧ Below w.heap.size w w' := by
  obtain ⟨a, c, rfl, h⟩ := h
  obtain ⟨a', c', rfl, h'⟩ := h'
  by_cases hz : l = []
  · subst hz; exact same10_nil a a' c c' w
  · rcases h with h | ⟨b, o, rfl, _, _, hc⟩
    · exact absurd h hz
    · rcases h' with h | ⟨b', o', rfl, _, _, hc'⟩
      · exact absurd h hz
      · exact same10_some b o b' o' c c' l w hn hc hc'

set_option maxRecDepth 100000 in
set_option maxHeartbeats 3200000 in
theorem ref10_line (s : ByteArray) (hs : s.size ≤ 100000) (w : World) : Calls Tryd.prog 33 #[.string s] w fun r w' => r = .returned (.bool (lineB s.data.toList)) ∧ Below w.heap.size w w' := by
  by_cases hz : s.size = 0
  · have hl : s.data.toList = [] := List.eq_nil_of_length_eq_zero (by rw [str_len]; exact hz)
    have hlb : lineB s.data.toList = true := by rw [hl]; rfl
    have ez : ((s.size : Nat) : Int) = 0 := by omega
    rw [hlb]
    clear hlb hl hz
    go_enter Tryd.func33, Tryd.ntmps33
    go_wp2_with fail
    go_loopw [3] (fun i wr => i = .int .i64 0 ∧ wr = w) (fun _ _ => 0)
    case atStart => exact ⟨rfl, rfl⟩
    case round =>
      obtain ⟨rfl, rfl⟩ := hrel
      go_wp2_with fail
      go_ret
      exact ⟨rfl, Below.refl _ _⟩
  · obtain ⟨l, hl⟩ : ∃ l, l = s.data.toList := ⟨_, rfl⟩
    have hln : l.length = s.size := by rw [hl]; exact str_len s
    have hlb : Hid (lineB s.data.toList = lnB true l) := hid (by
      rw [← hl]; unfold lineB
      cases l with
      | nil => simp at hln; omega
      | cons a t => rfl)
    have HIX : Hid (∀ (W : World) (i : Nat), i < s.size → (Instr.index 9 (.string s) (.int .i64 (i : Int))).run Tryd.prog W = .ok (.int .u8 (((l.getD i 0).toNat : Nat) : Int)) W) := hid (fun W i hi => by
      have e := str_at s i hi
      rw [← hl] at e
      rw [run_index_string _ _ _ _ _ Tryd.underlying9, dif_pos (by omega)]
      show Result.ok (Value.int .u8 ((s[i]'hi).toNat : Int)) W = _
      rw [← e])
    have HLN := hid hln
    rw [hlb.out]
    clear hlb hl hln
    go_enter Tryd.func33, Tryd.ntmps33
    go_wp2_with fail
    go_loopw [3] (fun i wr => ∃ (k : Nat) (b : Bool), k ≤ s.size ∧ i = .int .i64 k ∧ wr = w ∧ lnB true l = lnB b (l.drop k) ∧ b = (decide (k = 0) || decide (l.getD (k - 1) 0 = 32)) ∧ (b = true → k < s.size)) (fun i _ => s.size - (intOf i).toNat)
    case atStart => exact ⟨0, true, by omega, rfl, rfl, rfl, rfl, fun _ => by omega⟩
    case round =>
      obtain ⟨k, b, hk, rfl, rfl, hln, hbd, hbk⟩ := hrel
      by_cases hlt : k < s.size
      · have i1 : (k : Int) < (s.size : Int) := by omega
        have ix := fun W => HIX.out W k hlt
        have hkl : k < l.length := by rw [HLN.out]; exact hlt
        have hdr : l.drop k = l.getD k 0 :: l.drop (k + 1) := by
          rw [List.drop_eq_getElem_cons hkl, List.getD_eq_getElem?_getD, List.getElem?_eq_getElem hkl]; rfl
        rw [hdr] at hln
        rw [lnB_cons] at hln
        obtain ⟨x, hx⟩ : ∃ x, l.getD k 0 = x := ⟨_, rfl⟩
        rw [hx] at hln ix
        have hx256 := x.toNat_lt
        by_cases hr : 32 ≤ x.toNat ∧ x.toNat ≤ 126
        · have d1 : decide ((x.toNat : Int) < 32) = false := decide_eq_false (by omega)
          have d2 : decide ((126 : Int) < (x.toNat : Int)) = false := decide_eq_false (by omega)
          by_cases h32 : x = 32
          · have d3 : ((x.toNat : Int) == 32) = true := by rw [h32]; rfl
            rw [if_pos h32] at hln
            by_cases hk0 : k = 0
            · have d4 : ((k : Int) == 0) = true := by rw [hk0]; rfl
              have hb1 : b = true := by rw [hbd, hk0]; rfl
              have hF : Hid (lnB true l = false) := hid (by rw [hln, hb1]; rfl)
              clear hln hbd hbk hdr hx h32 hr hb1 hk0
              generalize x.toNat = xn at *
              go_wp2_with fail
              go_ret
              exact ⟨by rw [hF.out]; rfl, Below.refl _ _⟩
            · have d4 : ((k : Int) == 0) = false := beq_eq_false_iff_ne.2 (by omega)
              by_cases hke : k + 1 = s.size
              · have d5 : ((k : Int) == (s.size : Int) - 1) = true := beq_iff_eq.2 (by omega)
                have hF : Hid (lnB true l = false) := hid (by
                  rw [hln, List.drop_eq_nil_of_le (by rw [HLN.out]; omega)]
                  cases b <;> rfl)
                clear hln hbd hbk hdr hx h32 hr
                generalize x.toNat = xn at *
                go_wp2_with fail
                go_ret
                exact ⟨by rw [hF.out]; rfl, Below.refl _ _⟩
              · have d5 : ((k : Int) == (s.size : Int) - 1) = false := beq_eq_false_iff_ne.2 (by omega)
                have ix1 := fun W => HIX.out W (k - 1) (by omega)
                have ek : ((k - 1 : Nat) : Int) = (k : Int) - 1 := by omega
                rw [ek] at ix1
                obtain ⟨y, hy⟩ : ∃ y, l.getD (k - 1) 0 = y := ⟨_, rfl⟩
                rw [hy] at ix1 hbd
                rw [decide_eq_false hk0, Bool.false_or] at hbd
                by_cases hy32 : y = 32
                · have d6 : ((y.toNat : Int) == 32) = true := by rw [hy32]; rfl
                  have hF : Hid (lnB true l = false) := hid (by rw [hln, hbd, decide_eq_true hy32]; rfl)
                  clear hln hbd hbk hdr hx h32 hr hy hy32
                  generalize x.toNat = xn at *
                  generalize y.toNat = yn at *
                  go_wp2_with fail
                  go_ret
                  exact ⟨by rw [hF.out]; rfl, Below.refl _ _⟩
                · have d6 : ((y.toNat : Int) == 32) = false := beq_eq_false_iff_ne.2 (fun e => hy32 (UInt8.toNat_inj.1 (by show y.toNat = 32; omega)))
                  have hN : Hid (lnB true l = lnB true (l.drop (k + 1))) := hid (by rw [hln, hbd, decide_eq_false hy32]; rfl)
                  have hXh := hid (hx.trans h32)
                  clear hln hbd hbk hdr hx h32 hr hy hy32
                  generalize x.toNat = xn at *
                  generalize y.toNat = yn at *
                  go_wp2_with fail
                  go_roundw
                  case rel => exact ⟨k + 1, true, by omega, by go_num, trivial, hN.out, by rw [show k + 1 - 1 = k by omega, decide_eq_true hXh.out]; simp, fun _ => by omega⟩
                  case measure => simp [intOf]; omega
          · have d3 : ((x.toNat : Int) == 32) = false := beq_eq_false_iff_ne.2 (fun e => h32 (UInt8.toNat_inj.1 (by show x.toNat = 32; omega)))
            rw [if_neg h32] at hln
            have hxn : x.toNat ≠ 32 := fun e => h32 (UInt8.toNat_inj.1 e)
            have hN : Hid (lnB true l = lnB false (l.drop (k + 1))) := hid (by
              rw [hln]
              have : inR x = true := decide_eq_true (by omega)
              rw [this]; rfl)
            have hXh : Hid (l.getD k 0 ≠ 32) := hid (by rw [hx]; exact h32)
            clear hln hbd hbk hdr hx h32 hr hxn
            generalize x.toNat = xn at *
            go_wp2_with fail
            go_roundw
            case rel => exact ⟨k + 1, false, by omega, by go_num, trivial, hN.out, by rw [show k + 1 - 1 = k by omega, decide_eq_false hXh.out]; simp, fun h => by cases h⟩
            case measure => simp [intOf]; omega
        · have hx32 : x ≠ 32 := fun e => hr (by rw [e]; decide)
          rw [if_neg hx32] at hln
          have hF : Hid (lnB true l = false) := hid (by
            rw [hln]
            have : inR x = false := decide_eq_false (by omega)
            rw [this]; rfl)
          by_cases hlo : x.toNat < 32
          · have d1 : decide ((x.toNat : Int) < 32) = true := decide_eq_true (by omega)
            clear hln hbd hbk hdr hx hr hx32 hlo
            generalize x.toNat = xn at *
            go_wp2_with fail
            go_ret
            exact ⟨by rw [hF.out]; rfl, Below.refl _ _⟩
          · have d1 : decide ((x.toNat : Int) < 32) = false := decide_eq_false (by omega)
            have d2 : decide ((126 : Int) < (x.toNat : Int)) = true := decide_eq_true (by omega)
            clear hln hbd hbk hdr hx hr hx32 hlo
            generalize x.toNat = xn at *
            go_wp2_with fail
            go_ret
            exact ⟨by rw [hF.out]; rfl, Below.refl _ _⟩
      · obtain rfl : k = s.size := by omega
        have hF : Hid (lnB true l = true) := hid (by
          rw [hln, List.drop_eq_nil_of_le (by rw [HLN.out]; omega)]
          cases b with
          | true => exact absurd (hbk rfl) (by omega)
          | false => rfl)
        clear hln hbd hbk
        go_wp2_with fail
        go_ret
        exact ⟨by rw [hF.out]; rfl, Below.refl _ _⟩
end Go.Proofs.YtlkpnpbodbokkaaDoor
