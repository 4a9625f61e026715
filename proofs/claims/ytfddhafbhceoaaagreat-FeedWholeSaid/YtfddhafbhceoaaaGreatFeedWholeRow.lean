import Derived.Test.YtfddhafbhceoaaaGreatWG3
import Derived.Test.YtfddhafbhceoaaaGreatMxI
import Derived.ChangeOld
import Derived.Below
namespace Go.Proofs.YtfddhafbhceoaaaGreat.feedWhole
open Go.ChangeShapes Go.WideShapes Go.ChangeAt Go.RowKit
set_option linter.unusedVariables false
theorem u : ownKnob Tryz.prog.godebug = none := by kernel_rfl
theorem l : laidOutB Tryz.prog = true := by kernel_rfl
set_option maxRecDepth 100000 in
theorem F (os : Os) (s : os.Started) (H : Type) (enc : TypeId × Value → H) :
 ReturnsInHanded {} Tryz.checked os 13 .any (Rows.feedWholeSpec.pre6 enc Tryz.prog Tryz.f13 Rows.feedWholeRow.domain false) (Rows.feedWholeSpec.post enc Tryz.prog Tryz.f13 false true false false) := by
 refine returnsInHanded_of_change (C := Tryz.checked) u s (by kernel_rfl) Tryz.func13
  (ChangeSpec.witness6 (enc := enc) (C := Tryz.checked) false ⟨#[], #[.slice none 0 0], []⟩ 8 (by kernel_rfl) (by kernel_rfl) (by kernel_rfl) (by kernel_rfl)) ?_
 intro W B A ds gs b z hW _ _
 have g : ∀ (j : Nat) t v, Tryz.f13.params[j]? = some t → A[j]? = some v → Value.okWide Tryz.prog W .any B t v := z
 have hW' := hW
 obtain ⟨p, q, y, hV, rfl, _, _⟩ := hW
 have hA : DataW.TrodAll enc Tryz.prog W 0 (fun _ => true) true Tryz.f13.params.toList A.toList ds p := y
 rw [Tryz.params13] at hA g
 obtain ⟨v0, vs0, d0, ds0, p0, q0, k, rfl, rfl, h0, r0⟩ := trodAll_cons hA
 obtain ⟨rfl, rfl, rfl⟩ := trodAll_nil r0
 obtain rfl : A = #[v0] := by cases A; simp_all
 obtain ⟨rfl, rfl⟩ := trodVars_none hV
 have j : ∀ x ∈ p0, x.block < W.heap.size := by obtain ⟨m, hm⟩ := h0; exact DataW.trod_lt m _ _ _ hm
 clear y z
 refine (feedWhole_walk enc W B v0 d0 p0 h0 (g 0 22 v0 rfl rfl)).mono fun e W' ⟨he, bel⟩ => ?_
 subst he
 exact ⟨_, rfl, _, _, _, [], _, [], hW', trodAll_mk1 (shut_bool Tryz.underlying4 _), (trodAll_cons_mk (Below.trod l (by kernel_rfl) (of_decide_eq_true (by kernel_rfl)) h0 bel j) trodAll_mk0), rfl, bel.frame _, fun h => by cases h⟩
theorem proved : Rows.FeedWholeSaid := OpenClaim.holds_of_wide 13 Tryz.f13 rfl rfl rfl rfl rfl rfl rfl ⟨rfl, rfl, rfl, rfl, rfl⟩ rfl rfl rfl rfl rfl (by kernel_rfl) Tryz.func13 feedWhole_closed (of_decide_eq_true (by kernel_rfl)) (by unfold Func.isWrapper; first | (rw [if_pos (by decide +kernel)]; kernel_rfl) | (rw [if_neg (by decide +kernel)]; exact ⟨rfl, rfl⟩)) (fun os s H enc _ => F os s H enc)
