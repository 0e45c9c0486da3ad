/- The program's ProgramsFor returns what the reference's returns, for all pages and dies; conditions: none. -/
import Derived.Test.YtgcdkchdgeppdaaPFnExactProgramsForx1
namespace Go.Proofs.Ytgcdkchdgeppdaa.Pure
open Go.RowKit Go.Proofs.Ytgcdkchdgeppdaa.PFnExactProgramsFor Go.Proofs.YtgcdkchdgeppdaaW.PrintWords Go.Proofs.YtgcdkchdgeppdaaW.PrintLast

theorem within_eq (a b c : Int) : impl_within.f a b c = some (decide (b ≤ a ∧ a ≤ c)) := by
  unfold impl_within.f
  by_cases h : a ≥ b
  · rw [if_pos h]; congr 1; simp; omega
  · rw [if_neg h]; congr 1; simp; omega

theorem in_eq (a b c : Int) : spec_l00In.f a b c = some (decide (b ≤ a ∧ a ≤ c)) := by
  unfold spec_l00In.f
  by_cases h : a ≥ b
  · rw [if_pos h]; congr 1; simp; omega
  · rw [if_neg h]; congr 1; simp; omega

theorem FnExactProgramsFor : laws_FnExactProgramsFor.Pure := by
  intro a b ha hb
  unfold laws_FnExactProgramsFor.f spec_ProgramsFor.f impl_ProgramsFor.f impl_diesOk.f impl_programsFor.f
  simp only [within_eq, in_eq, Option.bind_some]
  by_cases h1 : (0 ≤ a ∧ a ≤ 1000000)
  · by_cases h2 : (2 ≤ b ∧ b ≤ 3)
    · have hn : ¬ wrap64 (b - 1) = 0 := by unfold wrap64; omega
      simp [h1, h2, hn]
    · simp [h1, h2]
  · simp [h1]

end Go.Proofs.Ytgcdkchdgeppdaa.Pure
