/- Bytes in hex, as the program tells them (written by gen_wte.py). -/
import Derived.Test.YtlkpnpbodbokkaaDoorProg
import Derived.WalkKit
import Derived.Deep.Cut
import Derived.Deep.RegionLaw
import Derived.Deep.AppendLies
import Derived.Laws.Slices
import Derived.Laws.BytesArg
import Derived.Laws.IdiomStrings
import Derived.Test.YtlkpnpbodbokkaaDoorElem
import Derived.Test.YtlkpnpbodbokkaaDoorWpB
namespace Go.Bs
open Go.RowKit
theorem src_row {w : World} {g : Nat} {t : TypeId} {cs : List Value} (h : Blk w g t cs.toArray) : Src w (some ⟨g, 0, none⟩) cs.length 1 cs := by
  refine ⟨by omega, .inr ⟨_, 0, rfl, fun j u hu => ?_⟩⟩
  rw [Nat.zero_add, Blk.cell h]
  simpa using hu
/-- string(b) of an own row of bytes. -/
theorem own_string {P : Program} {w : World} {base : Nat} {e0 : TypeId} {v : Value} {n : Nat} {J : List UInt8} (src dst e : TypeId) (hs : P.underlying src = some (.slice e)) (he : P.underlying e = some (.int .u8)) (hd : P.underlying dst = some .string)
    (hn : n = J.length) (h : w.ownsRow base e0 1 v n (byteCells J)) : (convert src dst v).run P w = .ok (.string ⟨J.toArray⟩) w := by
  subst hn
  rcases h.2 with ⟨rfl, h0⟩ | ⟨g, cap, cur, rfl, hbg, hg, hn, hc, hcur, hx⟩
  · have : J = [] := List.eq_nil_of_length_eq_zero h0
    subst this
    exact run_convert_bytes_nil (P := P) w src e hs he 0 0 dst hd
  · refine run_convert_bytes_back (P := P) w src dst e ⟨g, 0, none⟩ cap J hs he hd (fun j hj => ?_)
    have ea : (⟨g, 0, none⟩ : Addr).add j = ⟨g, j, none⟩ := by simp [Addr.add]; intro h; exact h.symm
    rw [ea, Blk.cell hg]
    have e1 : cur[j]? = (cur.toList.take (J.length * 1))[j]? := by
      rw [List.getElem?_take, if_pos (by omega)]; simp
    rw [e1, hx]
    simp [byteCells, List.getElem?_eq_getElem hj]
end Go.Bs
namespace Go.Proofs.YtlkpnpbodbokkaaDoor
open Go.RowKit Go.Bs
set_option linter.unusedVariables false
set_option linter.unusedSimpArgs false
theorem wInfo8 : (Tryd.prog.info? 5).map (fun i => (i.zero, i.size, i.bytes)) = some (some (.int .u8 0), 1, 1) := by kernel_rfl
theorem wInfoU : (Tryd.prog.info? 34).map (fun i => (i.zero, i.size, i.bytes)) = some (some (.int .u64 0), 1, 8) := by kernel_rfl
theorem wInfoS : (Tryd.prog.info? 9).map (fun i => (i.zero, i.size, i.bytes)) = some (some (.string ⟨#[]⟩), 1, 16) := by kernel_rfl
set_option maxRecDepth 100000 in
theorem and_15 (x : Nat) (h : x < 256) : bits BinOp.and IntKind.u8 (x : Int) 15 = (x : Int) % 16 := by
  have hh : ∀ x : Fin 256, bits BinOp.and IntKind.u8 ((x.val : Nat) : Int) 15 = ((x.val : Nat) : Int) % 16 := by decide +kernel
  exact hh ⟨x, h⟩
theorem hex_at (W : World) : ∀ h : Nat, h < 16 → (Instr.index 9 (.string ⟨#[48, 49, 50, 51, 52, 53, 54, 55, 56, 57, 97, 98, 99, 100, 101, 102]⟩) (.int .u8 (h : Int))).run Tryd.prog W = .ok (.int .u8 (((hexL.getD h 0).toNat : Nat) : Int)) W
  | 0, _ => by kernel_rfl
  | 1, _ => by kernel_rfl
  | 2, _ => by kernel_rfl
  | 3, _ => by kernel_rfl
  | 4, _ => by kernel_rfl
  | 5, _ => by kernel_rfl
  | 6, _ => by kernel_rfl
  | 7, _ => by kernel_rfl
  | 8, _ => by kernel_rfl
  | 9, _ => by kernel_rfl
  | 10, _ => by kernel_rfl
  | 11, _ => by kernel_rfl
  | 12, _ => by kernel_rfl
  | 13, _ => by kernel_rfl
  | 14, _ => by kernel_rfl
  | 15, _ => by kernel_rfl
  | n + 16, h => absurd h (by omega)
set_option maxRecDepth 100000 in
set_option maxHeartbeats 3200000 in
theorem words_hex (l : List UInt8) (hn : l.length ≤ 100000) (b o c : Nat) (w : World) (hc : ∀ i : Nat, i < l.length → w.cell? ⟨b, o + i, none⟩ = some (.int .u8 (((l.getD i 0).toNat : Nat) : Int))) (hnl : 0 < l.length) :
    Calls Tryd.prog 25 #[.slice (some ⟨b, o, none⟩) l.length c] w fun r w' => r = .returned (.string ⟨(hexW l).toArray⟩) ∧ Below w.heap.size w w' := by
  obtain ⟨i0, hi, hz0, hz1, hz2⟩ := info_parts wInfo8
  have HC := hid hc
  have HL := hid (hx_len l)
  have HX := hid hex_at
  have HE : Hid (hxTo l l.length = hexW l) := hid (by unfold hexW; rw [if_neg (by intro e; subst e; simp at hnl)])
  have d0 : ((l.length : Int) == 0) = false := beq_eq_false_iff_ne.2 (by omega)
  clear hc
  go_enter Tryd.func25, Tryd.ntmps25
  go_wp2_with fail
  go_loopw [3, 11] (fun s i wr => ∃ k : Nat, k ≤ l.length ∧ i = .int .i64 k ∧ wr.ownsRow w.heap.size 5 1 s (2 * k) (byteCells (hxTo l k)) ∧ Below w.heap.size w wr) (fun _ i _ => l.length - (intOf i).toNat)
  case atStart => exact ⟨0, by omega, rfl, ⟨by simp [hxTo, byteCells], .inl ⟨rfl, rfl⟩⟩, Below.refl _ _⟩
  case round =>
    obtain ⟨k, hk, rfl, hown, hb⟩ := hrel
    by_cases hlt : k < l.length
    · have i1 : (k : Int) < (l.length : Int) := by omega
      have hx := HC.out k hlt
      have hx' := (hb.cell (p := ⟨b, o + k, none⟩) (World.block_lt_of_cell? _ _ hx)).trans hx
      have hst : Hid (hxTo l (k + 1) = hxTo l k ++ [hexL.getD ((l.getD k 0).toNat / 16) 0] ++ [hexL.getD ((l.getD k 0).toNat % 16) 0]) := hid rfl
      have h1 := HL.out k
      have hx3 : (l.getD k 0).toNat < 256 := (l.getD k 0).toNat_lt
      clear hx
      generalize hxTo l k = S at *
      generalize (l.getD k 0).toNat = x at *
      have cu := fun W => HX.out W (x / 16) (by omega)
      have cv := fun W => HX.out W (x % 16) (by omega)
      have ex : ((x / 16 : Nat) : Int) = (x : Int) / 16 := by omega
      have ey : ((x % 16 : Nat) : Int) = (x : Int) % 16 := by omega
      rw [ex] at cu
      rw [ey] at cv
      have HO := hid hown
      obtain ⟨a5, c5, rfl⟩ := own_form hown
      have ea := and_15 x hx3
      have hbs := hb.size
      clear ex ey hown
      generalize hexL.getD (x / 16) 0 = u at *
      generalize hexL.getD (x % 16) 0 = v at *
      go_wp2_with fail
      go_region_law (first
        | (go_loud (refine step_append_src (by rfl) _ _ _ (by rfl) w.heap.size 5 i0 (.int .u8 0) 1 1 Tryd.underlying37 hi hz0 hz1 hz2 rfl (by decide) (.slice a5 (2 * k) c5) (2 * k) (byteCells S) (by rfl) (own_below HO.out (by (repeat (first | exact Below.refl _ _ | assumption | (refine below_alloc ?_ _) | (refine Below.setCell ?_ (by first | omega | (simp; done) | (simp; omega)) _) | (refine Below.drew ?_) | (refine below_drewN ?_ _) | (refine below_then (by assumption) ?_))))) _ 2 2 [.int .u8 ((u.toNat : Nat) : Int), .int .u8 ((v.toNat : Nat) : Int)] (by rfl) (src_row (by (repeat (first | assumption | exact Blk.newAt _ _ _ (by first | (simp; done) | (simp; omega)) | refine Blk.alloc ?_ _ | refine Blk.drew ?_ | refine Blk.drewN ?_ _ | refine Blk.far ?_ (by first | (simp; done) | (simp; omega)) _)))) (by simp [Value.oneCell']) (by simp only [maxLen]; omega) (by omega) (by first | omega | (simp; done) | (simp; omega)) ?_; intro a6 c6 w6 hown6 hgrow6 hat6; have hb6 : Below w.heap.size w w6 := ((Below.grown (by (repeat (first | exact Below.refl _ _ | assumption | (refine below_alloc ?_ _) | (refine Below.setCell ?_ (by first | omega | (simp; done) | (simp; omega)) _) | (refine Below.drew ?_) | (refine below_drewN ?_ _) | (refine below_then (by assumption) ?_)))) hgrow6 (by first | omega | (simp; done) | (simp; omega)) (fun g e => (HO.out.lt g e).1))); have HO6 := hid hown6; clear hown6 hgrow6 hat6)))
      all_goals
        go_wp2_with fail
        go_roundw
        case rel => exact ⟨k + 1, by omega, by go_num, (by rw [hst.out]; have h := HO6.out; rw [show 2 * (k + 1) = 2 * k + 2 by omega]; simpa [byteCells] using h), hb6⟩
        case measure => simp [intOf]; omega
    · obtain rfl : k = l.length := by omega
      have HO := hid hown
      obtain ⟨a5, c5, rfl⟩ := own_form hown
      have hl := hx_len l l.length
      rw [HE.out] at HO hl
      clear HL HC HX hown
      have HJ0 : ∃ J, hexW l = J := ⟨_, rfl⟩
      obtain ⟨J, hJ⟩ := HJ0
      rw [hJ] at HO hl
      have HJ := hid hJ
      clear hJ HE
      rw [← hl] at HO
      have hcv := own_string (P := Tryd.prog) 37 9 5 Tryd.underlying37 Tryd.underlying5 Tryd.underlying9 (J := J) rfl HO.out
      rw [hl] at hcv
      go_wp2_with fail
      go_ret
      exact ⟨by rw [HJ.out]; rfl, hb⟩
end Go.Proofs.YtlkpnpbodbokkaaDoor
