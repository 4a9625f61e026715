/- What the rows of the words' laws have in common: the laid tables, the arguments opened (written by gen_wtk.py). -/
import Derived.Test.YtlkpnpbodbokkaaDoorFrB
import Derived.Test.YtlkpnpbodbokkaaDoorWtI
import Derived.Test.YtlkpnpbodbokkaaDoorWtJ
import Derived.SizedLaws
import Derived.Lay
import Derived.Shelf.Vars
import Derived.LaidLaws
import Derived.Test.YtlkpnpbodbokkaaDoorTie
import Derived.Test.YtlkpnpbodbokkaaDoorCards
import Derived.WalkKit
import Derived.ProofKit
import Derived.LaidMore
import Derived.OpenShut
import Derived.ShutString
import Derived.ChangeOld
import Derived.Below
import Derived.Stop.Joined
import Derived.Stop.LaidErr
import Derived.Lib.LaidTab
import Derived.SevenTiedAt
import Derived.ChangeMaps5
namespace Go.Proofs.YtlkpnpbodbokkaaDoor
open Go.ChangeShapes Go.WideShapes Go.ChangeAt Go.WideMaps Go.WideElems Go.RowKit Go.Bs
set_option linter.unusedVariables false
set_option maxRecDepth 100000

abbrev laid7 : List (String × DataW Unit) := [("math/bits.deBruijn32tab", Rows.laid_math_bits_deBruijn32tab), ("math/bits.deBruijn64tab", Rows.laid_math_bits_deBruijn64tab), ("internal/strconv.uint64pow10", Rows.laid_internal_strconv_uint64pow10), ("unicode/utf8.acceptRanges", Rows.laid_unicode_utf8_acceptRanges), ("strconv.ErrRange", Rows.laid_strconv_ErrRange), ("strconv.ErrSyntax", Rows.laid_strconv_ErrSyntax), ("unicode/utf8.first", Rows.laid_unicode_utf8_first)]

theorem env_of7 {W : World} (hL : laidMetH Tryd.prog laid7 W) (hsh : W.ShapedOpen Tryd.prog) : Env W := by
  rw [MakeChecks.laidMetH_plain _ _ _ (by kernel_rfl)] at hL
  have h2 := hL.tail.tail
  have hd : (Rows.laid_internal_strconv_uint64pow10 : DataW Unit) = Lib.tabData .u64 Lib.pow10Tab := by kernel_rfl
  rw [hd] at h2
  have hT : Tab W := Lib.tabIs_of_head (g := 3) (t := 114) (e := 34) (n := 20) (by kernel_rfl) (by kernel_rfl) Tryd.underlying114 Tryd.underlying34 (by kernel_rfl) (by kernel_rfl) h2
  obtain ⟨a1, t1, hv1, _⟩ := laid_sentinel (g := 2) hL.tail.tail.tail.tail (by kernel_rfl) (by kernel_rfl) Tryd.underlying69 row124 Tryd.underlying124 Tryd.underlying126 rfl rfl Tryd.underlying9 (by kernel_rfl) (by kernel_rfl)
  obtain ⟨a2, t2, hv2, _⟩ := laid_sentinel (g := 1) hL.tail.tail.tail.tail.tail (by kernel_rfl) (by kernel_rfl) Tryd.underlying69 row124 Tryd.underlying124 Tryd.underlying126 rfl rfl Tryd.underlying9 (by kernel_rfl) (by kernel_rfl)
  have g1 : Tryd.prog.globalNamed "strconv.ErrSyntax" = some 1 := by kernel_rfl
  have g2 : Tryd.prog.globalNamed "strconv.ErrRange" = some 2 := by kernel_rfl
  have c1 := World.var?_cell g1 hv2 0
  have c2 := World.var?_cell g2 hv1 0
  exact ⟨hT, cell_of_shapedOpen_int hsh (of_decide_eq_true (by kernel_rfl)) (zero := #[.int .i64 0]) (t := 3) (by kernel_rfl) rfl (by kernel_rfl) (by kernel_rfl) Tryd.underlying3, ⟨_, _, by simpa using c1⟩, ⟨_, _, by simpa using c2⟩⟩

theorem laid_met7 (os : Os) (args : Array Value) : laidMetH Tryd.prog laid7 ((World.laidAll Tryd.prog os laid7).forCall (fun _ _ => 0) ⟨#[], args, []⟩).memory := by
  rw [MakeChecks.laidMetH_plain _ _ _ (by kernel_rfl)]
  exact laidMet_laidAll _ (by kernel_rfl) (by kernel_rfl)

theorem ow_bytes : Opens Tryd.prog 37 rBytes := opens_slice (sz := 1) Tryd.underlying37 (by kernel_rfl) (by decide) (opens_byte Tryd.underlying5)
theorem arg_bytes {H : Type} (enc : TypeId × Value → H) (W : World) (base : Nat) (v0 : Value) (d0 : DataW H) (p0 : List MemPlace)
    (k0 : DataW.Trod enc Tryd.prog W 0 (fun _ => true) true 37 v0 d0 p0) (o0 : Value.okWide Tryd.prog W .any base 37 v0) : ∃ l, BytesAt W v0 l := by
  obtain ⟨fuel, hf⟩ := k0
  obtain ⟨a, len, cap, rfl⟩ := Go.WideShapes.okWide_slice Tryd.underlying37 o0
  obtain ⟨b, hb⟩ := ow_bytes enc W fuel _ _ hf
  exact ⟨b, bytes_at hb (fun _ h => h)⟩
theorem arg_u64 {H : Type} (enc : TypeId × Value → H) (W : World) (base : Nat) (v0 : Value) (d0 : DataW H) (p0 : List MemPlace)
    (k0 : DataW.Trod enc Tryd.prog W 0 (fun _ => true) true 34 v0 d0 p0) (o0 : Value.okWide Tryd.prog W .any base 34 v0) : ∃ x : Nat, v0 = .int .u64 (x : Int) ∧ x < 18446744073709551616 := by
  obtain ⟨fuel, hf⟩ := k0
  obtain ⟨n, rfl⟩ := Go.WideShapes.okWide_int Tryd.underlying34 o0
  obtain ⟨n', hn, hw⟩ := opens_int Tryd.underlying34 enc W fuel _ _ hf
  simp [Value.cells] at hn
  subst hn
  have hb := bounds_u64 hw
  exact ⟨n.toNat, by rw [Int.toNat_of_nonneg hb.1], by omega⟩
theorem arg_nats {H : Type} (enc : TypeId × Value → H) (W : World) (base : Nat) (v0 : Value) (d0 : DataW H) (p0 : List MemPlace)
    (k0 : DataW.Trod enc Tryd.prog W 0 (fun _ => true) true 40 v0 d0 p0) (o0 : Value.okWide Tryd.prog W .any base 40 v0) : ∃ l, NatsAt W v0 l ∧ ∀ i, l.getD i 0 < 18446744073709551616 := by
  obtain ⟨fuel, hf⟩ := k0
  obtain ⟨a, len, cap, rfl⟩ := Go.WideShapes.okWide_slice Tryd.underlying40 o0
  obtain ⟨y, hy⟩ := (opens_slice (sz := 1) Tryd.underlying40 (by kernel_rfl) (by decide) (opens_int Tryd.underlying34) : Opens Tryd.prog 40 (rSl 1 (rInt .u64))) enc W fuel _ _ hf
  have hy2 := hy
  obtain ⟨a', c', h1, h2, h3, h4⟩ := hy
  simp [Value.cells] at h1
  obtain ⟨rfl, rfl, rfl⟩ := h1
  have hel : ∀ i (hi : i < y.length), ∃ b o, a = some ⟨b, o, none⟩ ∧ b < W.heap.size ∧ W.cell? ⟨b, o + i, none⟩ = some (.int .u64 (y[i])) ∧ 0 ≤ y[i] ∧ y[i] < 18446744073709551616 := by
    intro i hi
    obtain ⟨b, o, e, hS, cs, hcl, hc, hr⟩ := sl_at hy2 hi
    obtain ⟨rfl, hw⟩ := hr
    have := hc 0 _ rfl
    rw [Nat.mul_one, Nat.add_zero] at this
    have hb := bounds_u64 hw
    exact ⟨b, o, e, hS, this, hb.1, by omega⟩
  refine ⟨y.map Int.toNat, ⟨a, cap, by simp, ?_⟩, ?_⟩
  · rcases y with _ | ⟨x, y⟩
    · exact .inl rfl
    · right
      obtain ⟨b, o, rfl, hS, _⟩ := hel 0 (by simp)
      refine ⟨b, o, rfl, hS, fun i hi => ?_⟩
      rw [List.length_map] at hi
      obtain ⟨b', o', e, _, hc, h0, _⟩ := hel i hi
      simp at e
      obtain ⟨rfl, rfl⟩ := e
      rw [hc, List.getD_eq_getElem?_getD, List.getElem?_map, List.getElem?_eq_getElem hi]
      simp only [Option.map_some, Option.getD_some]
      rw [Int.toNat_of_nonneg h0]
  · intro i
    by_cases hi : i < y.length
    · obtain ⟨b', o', e, _, hc, h0, h5⟩ := hel i hi
      rw [List.getD_eq_getElem?_getD, List.getElem?_map, List.getElem?_eq_getElem hi]
      simp only [Option.map_some, Option.getD_some]
      omega
    · rw [List.getD_eq_getElem?_getD, List.getElem?_eq_none (by simpa using hi)]
      simp
end Go.Proofs.YtlkpnpbodbokkaaDoor
