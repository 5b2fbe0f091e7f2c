/- Plain: the law of Fix: the program's and the reference's answers are one. -/
import Derived.Test.YtdbokcgjdkbknaaPFixx5
import Derived.Test.YtdbokcgjdkbknaaPureFix
namespace Go.Proofs.Ytdbokcgjdkbknaa.PFix
open Go.RowKit Go.Proofs.Ytdbokcgjdkbknaa.Hand Go.Proofs.Ytdbokcgjdkbknaa.PHost Go.Proofs.YtdbokcgjdkbknaaW.PrintWords Go.Proofs.YtdbokcgjdkbknaaW.PrintLast Go.Proofs.YtdbokcgjdkbknaaW.PrintMore
set_option linter.unusedVariables false
set_option linter.unusedSimpArgs false
theorem law_Fixes (l0 : List S61) (a1_0 : Int) (a1_1 a1_2 a2_0 : ByteArray) (a2_1 : Int) : ∃ k, abutmentlaw32_HostfixFixes.f k l0 a1_0 a1_1 a1_2 a2_0 a2_1 = some true := by
  apply Ev.rounds
  unfold abutmentlaw32_HostfixFixes.f
  refine Ev.bind (Few_ev l0) ?_
  have hlive : Ev (fun k => abutmentlaw32_HostfixFixes.j0 k l0 true a1_0 a1_1 a1_2 a2_0 a2_1) true := by
    refine Ev.step (fun k => by rw [abutmentlaw32_HostfixFixes.j0]) ?_
    exact Ev.ite_pos rfl (Ev.bind lives_ev (Ev.now _))
  cases hf : fewS l0
  · exact Ev.ite_neg (by decide) hlive
  · have hw := few_of hf
    refine Ev.ite_pos rfl ?_
    by_cases h1 : (a1_1.size : Int) > 300
    · exact Ev.ite_pos h1 hlive
    refine Ev.ite_neg h1 ?_
    by_cases h2 : (a1_2.size : Int) > 300
    · exact Ev.ite_pos h2 hlive
    refine Ev.ite_neg h2 ?_
    by_cases h3 : (a2_0.size : Int) > 300
    · rw [decide_eq_true h3]; exact hlive
    rw [decide_eq_false h3]
    have hsm := hw.small
    have hll := hw.len
    have hx2 : ∀ x ∈ l0, x.f0.size ≤ 140737488351232 := fun x hx => by have := hw.f0 x hx; omega
    have hps : (placeS l0 a1_0 a1_1 a2_0).size ≤ 300 := place_size hw (by omega) (by omega)
    refine Ev.step (fun k => by rw [abutmentlaw32_HostfixFixes.j0]) ?_
    refine Ev.ite_neg (by decide) (Ev.bind (Fix_ev l0 a1_0 a1_1 a1_2 a2_0 a2_1 (by omega) hsm (by omega)) (Ev.bind (refFix_ev l0 a1_0 a1_1 a1_2 a2_0 a2_1 (by omega) hsm hx2 (by omega)) (Ev.bind (Same_ev _ (by have := @fix_len l0 (placeS l0 a1_0 a1_1 a2_0) a2_1; omega)) ?_)))
    refine Ev.ite_pos rfl (Ev.ite_pos rfl ?_)
    rw [Place_f l0 a1_0 a1_1 a1_2 a2_0 (by omega) hsm]
    simp only [Option.bind_some]
    refine Ev.bind (refPlace_ev l0 a1_0 a1_1 a1_2 a2_0 (by omega) hx2) ?_
    refine Ev.ite_pos rfl (Ev.bind (FKey_ev l0 a1_0 a1_1 a1_2 a2_0 (by omega) hsm (by omega)) (Ev.bind (refFKey_ev l0 a1_0 a1_1 a1_2 a2_0 (by omega) hsm hx2 (by omega)) ?_))
    exact Ev.ite_pos rfl (Ev.bind lives_ev (Ev.now _))
end Go.Proofs.Ytdbokcgjdkbknaa.PFix
