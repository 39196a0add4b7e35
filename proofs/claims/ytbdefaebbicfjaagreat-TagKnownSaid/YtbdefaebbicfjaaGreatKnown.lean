/- verdigrislaw15.TagKnown returns true, from every world: no condition. -/
import Derived.Test.YtbdefaebbicfjaaGreatRows
import Derived.Test.YtbdefaebbicfjaaGreatK29
import Derived.Test.YtbdefaebbicfjaaGreatA7
import Derived.JoinedOf
import Derived.JoinedAt
import Derived.JoinedStill
import Derived.ProofKit
set_option linter.all false
namespace Go.Proofs.YtbdefaebbicfjaaGreat.lawKnown
open Go.ChangeShapes Go.WideShapes Go.ChangeAt Go.RowKit
open Go.Ab

theorem walk (m : AM) : ACalls Tryz.prog 6 [] m fun x _ => x = .ret (.d (.bool true)) := known m

theorem own : ownKnob Tryz.prog.godebug = none := by kernel_rfl

set_option maxRecDepth 100000 in
theorem lifted (os : Os) (started : os.Started) (H : Type) (enc : TypeId × Value → H) :
    ReturnsInHanded {} Tryz.checked os 6 .any (Rows.tagKnownSpec.pre6 enc Tryz.prog Tryz.f6 Rows.tagKnownRow.domain false) (Rows.tagKnownSpec.post enc Tryz.prog Tryz.f6 false true false false) := by
  refine returnsInHanded_of_change (C := Tryz.checked) own started (by kernel_rfl) Tryz.func6
    (ChangeSpec.witness6 (enc := enc) (C := Tryz.checked) false ⟨#[], #[], []⟩ 8 (by kernel_rfl) (by kernel_rfl) (by kernel_rfl) (by kernel_rfl)) ?_
  intro W base args ds gs before _ hW _ _
  have hW' := hW
  obtain ⟨p, q, hA0, hV, rfl, _, _⟩ := hW
  have hA : DataW.TrodAll enc Tryz.prog W 0 (fun _ => true) true Tryz.f6.params.toList args.toList ds p := hA0
  have hp : Tryz.f6.params.toList = [] := by kernel_rfl
  rw [hp] at hA
  obtain ⟨ha, rfl, rfl⟩ := trodAll_nil hA
  obtain ⟨rfl, rfl⟩ := trodVars_none hV
  have ha : args = #[] := by cases args; simp_all
  subst ha
  refine (calls_of_true (by kernel_rfl) (walk []) (vs := []) (fun σ => ⟨rfl, by simp⟩)).mono fun e W' ⟨he, hk⟩ => ?_
  subst he
  refine ⟨_, rfl, law_post (t := 4) hW' rfl (by kernel_rfl) (by kernel_rfl) rfl (fun sp _ => ?_) hk⟩
  rw [hp]
  exact trodAll_mk0

theorem holds : Rows.TagKnownSaid :=
  OpenClaim.holds_of_wide 6 Tryz.f6 rfl rfl rfl rfl rfl rfl rfl ⟨rfl, rfl, rfl, rfl, rfl⟩ rfl rfl rfl rfl rfl (by kernel_rfl) Tryz.func6 (by kernel_rfl)
    (of_decide_eq_true (by kernel_rfl)) (by unfold Func.isWrapper; first | (rw [if_pos (by decide +kernel)]; kernel_rfl) | (rw [if_neg (by decide +kernel)]; exact ⟨rfl, rfl⟩))
    (fun os started H enc _ => lifted os started H enc)
end Go.Proofs.YtbdefaebbicfjaaGreat.lawKnown
