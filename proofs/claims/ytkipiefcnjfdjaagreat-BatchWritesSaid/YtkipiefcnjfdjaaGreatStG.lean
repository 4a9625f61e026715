/- Batches: how many bytes they have, whether their positions fit. -/
import Derived.Test.YtkipiefcnjfdjaaGreatStF
import Derived.Test.YtkipiefcnjfdjaaGreatOwn
namespace Go.Proofs.YtkipiefcnjfdjaaGreat
open Go.RowKit Go.Bs
set_option linter.unusedVariables false
set_option linter.unusedSimpArgs false

theorem info8 : (Tryz.prog.info? 5).map (fun i => (i.zero, i.size, i.bytes)) = some (some (.int .u8 0), 1, 1) := by kernel_rfl

theorem total_step (l : List Entry) (k : Nat) (h : k < l.length) : total (l.take (k + 1)) = total (l.take k) + l[k].data.length := by
  unfold total
  rw [List.take_succ_eq_append_getElem h, List.map_append, List.sum_append]
  simp
theorem total_take_le (l : List Entry) (k : Nat) : total (l.take k) ≤ total l := by
  have : total l = total (l.take k) + total (l.drop k) := by
    unfold total
    rw [← List.sum_append, ← List.map_append, List.take_append_drop]
  omega

set_option maxHeartbeats 800000 in
theorem entry_total (l : List Entry) (a : Option Addr) (n c : Nat) (w : World) (hl : rEntries.r (· < w.heap.size) w [.slice a n c] l) (ht : total l ≤ 1000000000000) :
    Calls Tryz.prog 80 #[.slice a n c] w fun r w' => r = .returned (.int .i64 (total l : Nat)) ∧ Below w.heap.size w w' := by
  obtain ⟨rfl, hm, _, _⟩ := sl_len hl
  have HL := hid hl; clear hl
  go_enter Tryz.func80, Tryz.ntmps80
  go_wp2
  go_loopw [3, 8] (fun s i wr => ∃ k : Nat, k ≤ l.length ∧ i = .int .i64 k ∧ s = .int .i64 (total (l.take k) : Nat) ∧ Below w.heap.size w wr) (fun _ i _ => l.length - (intOf i).toNat)
  case atStart => exact ⟨0, Nat.zero_le _, rfl, rfl, Below.refl _ _⟩
  case round =>
    obtain ⟨k, hk, rfl, rfl, hb⟩ := hrel
    by_cases hlt : k < l.length
    · obtain ⟨b, o, hA, hbb, a1, c1, a2, c2, hc0, hc1, _, _⟩ := entry_at HL.out hlt
      subst hA
      have X0 := (hb.cell (p := ⟨b, o + k * 2, none⟩) hbb).trans hc0
      have X1 := (hb.cell (p := ⟨b, o + k * 2 + 1, none⟩) hbb).trans hc1
      clear hc0 hc1
      have hs := hid (total_step l k hlt)
      have h1 := total_take_le l (k + 1)
      rw [hs.out] at h1
      generalize l[k].links.length = n1 at *
      generalize l[k].data.length = n2 at *
      generalize total (l.take k) = t at *
      go_wp2
      go_roundw
      case rel => exact ⟨k + 1, by omega, by go_num, by rw [hs.out]; simp only [Int.natCast_add], hb.alloc hb.size _⟩
      case measure => simp [intOf]; omega
    · obtain rfl : k = l.length := by omega
      rw [List.take_length]
      go_wp2
      go_ret
      exact ⟨rfl, hb⟩

def joined (l : List Entry) : List UInt8 := l.flatMap Entry.data
theorem joined_length (l : List Entry) : (joined l).length = total l := by
  unfold joined total
  rw [List.length_flatMap]
theorem joined_step (l : List Entry) (k : Nat) (h : k < l.length) : joined (l.take (k + 1)) = joined (l.take k) ++ l[k].data := by
  unfold joined
  rw [List.take_succ_eq_append_getElem h, List.flatMap_append]
  simp

/-- What ref24.Join hands back. -/
def BytesRet (l : List UInt8) (w : World) (e : Ending) (w' : World) : Prop := ∃ v, e = .returned v ∧ rBytes.r (· < w'.heap.size) w' [v] l ∧ Below w.heap.size w w'

set_option maxHeartbeats 800000 in
theorem ref24_join (l : List Entry) (a : Option Addr) (n c : Nat) (w : World) (hl : rEntries.r (· < w.heap.size) w [.slice a n c] l) (ht : total l ≤ 1000000000000) :
    Calls Tryz.prog 84 #[.slice a n c] w (BytesRet (joined l) w) := by
  obtain ⟨rfl, hm, _, _⟩ := sl_len hl
  obtain ⟨i0, hi, hz0, hz1, hz2⟩ := info_parts info8
  have HL := hid hl; clear hl
  go_enter Tryz.func84, Tryz.ntmps84
  go_wp2
  go_loopw [3, 4] (fun v i wr => ∃ k : Nat, k ≤ l.length ∧ i = .int .i64 k ∧ wr.ownsRow w.heap.size 5 1 v (total (l.take k)) (byteCells (joined (l.take k))) ∧ Below w.heap.size w wr) (fun _ i _ => l.length - (intOf i).toNat)
  case atStart => exact ⟨0, Nat.zero_le _, rfl, ⟨rfl, .inl ⟨rfl, rfl⟩⟩, Below.refl _ _⟩
  case round =>
    obtain ⟨k, hk, rfl, hown, hb⟩ := hrel
    by_cases hlt : k < l.length
    · obtain ⟨b, o, hA, hbb, a1, c1, a2, c2, hc0, hc1, _, hd⟩ := entry_at HL.out hlt
      subst hA
      have X1 := (hb.cell (p := ⟨b, o + k * 2 + 1, none⟩) hbb).trans hc1
      clear hc0 hc1
      have hs := hid (total_step l k hlt)
      have hj := hid (joined_step l k hlt)
      have h1 := total_take_le l (k + 1)
      rw [hs.out] at h1
      have hsrc := src_bytes (lift hd hb)
      have hone := byteCells_one l[k].data
      generalize l[k].data = D at *
      generalize joined (l.take k) = J at *
      generalize total (l.take k) = t at *
      have HSRC := hid hsrc; clear hsrc hd
      have HONE := hid hone; clear hone
      have hbs := hb.size
      have i1 : (k : Int) < (l.length : Int) := by omega
      go_wp2_with (at_builtin; refine wpList_append_src rfl _ _ _ rfl w.heap.size 5 i0 (.int .u8 0) 1 1 Tryz.underlying28 hi hz0 hz1 hz2 rfl (by decide) _ t _ rfl hown a2 D.length c2 (byteCells D) rfl HSRC.out HONE.out (by simp only [maxLen]; omega) (by omega) hbs ?_; intro v1 w1 hown1 hgrow1 hat1)
      go_roundw
      case rel =>
        refine ⟨k + 1, by omega, by go_num, ?_, ?_⟩
        · rw [hs.out, hj.out, byteCells, List.map_append]; exact hown1
        · exact hb.grown hgrow1 hbs (fun g e => (hown.lt g e).1)
      case measure => simp [intOf]; omega
    · obtain rfl : k = l.length := by omega
      rw [List.take_length] at hown
      have hv := own_bytes (joined_length l).symm hown
      have HV := hid hv; clear hv
      go_wp2
      go_ret
      exact ⟨_, rfl, HV.out, hb⟩
end Go.Proofs.YtkipiefcnjfdjaaGreat
