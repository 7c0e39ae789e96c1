/- The program names each error code just as the reference does; no condition. -/
import Derived.Test.YtjoobjgaecgdlaaPFnExactCodeNamex1
namespace Go.Proofs.Ytjoobjgaecgdlaa.Pure
open Go.RowKit Go.Proofs.Ytjoobjgaecgdlaa.PFnExactCodeName Go.Proofs.YtjoobjgaecgdlaaW.PrintWords Go.Proofs.YtjoobjgaecgdlaaW.PrintLast

/-- YOURS: ∀ (a0 : Int), (Lit.int .i64 a0).wf = true → laws_FnExactCodeName.f a0 = some true
What it reaches (each with k first where it has rounds; `.mono`: more rounds tell the same; `.l0`, ..: its loops, with `.mono_l`): spec_l00In.f, spec_CodeName.f, impl_within.f, impl_CodeName.f, laws_FnExactCodeName.f -/
theorem FnExactCodeName : laws_FnExactCodeName.Pure := by
  intro a _
  have h1 : ∀ x : Option ByteArray, (∃ b, x = some b) → (x.bind fun t111 => (x.bind fun t112 => (if t112.toList = t111.toList then (some true) else (some false)))) = some true := by
    rintro x ⟨b, rfl⟩
    simp only [Option.bind_some, if_true]
  unfold laws_FnExactCodeName.f
  have h2 : spec_CodeName.f a = impl_CodeName.f a := by
    unfold spec_CodeName.f impl_CodeName.f spec_l00In.f impl_within.f
    rfl
  have h3 : ∃ b, impl_CodeName.f a = some b := by
    unfold impl_CodeName.f impl_within.f
    by_cases h0 : 0 ≤ a
    · by_cases h8 : a ≤ 8
      · simp only [if_pos h0, h8, decide_true, Option.bind_some, if_true, List.length_cons, List.length_nil]
        rw [if_pos (by omega)]
        exact ⟨_, rfl⟩
      · simp only [if_pos h0, h8, decide_false, Option.bind_some]
        exact ⟨_, rfl⟩
    · simp only [if_neg h0, Option.bind_some]
      exact ⟨_, rfl⟩
  rw [h2]
  exact h1 _ h3

end Go.Proofs.Ytjoobjgaecgdlaa.Pure
