/- The reference's Status (layer 15) in the printer's form. -/
import Derived.Test.YtdbokcgjdkbknaaDoorRefStatus
namespace Go.Proofs.YtdbokcgjdkbknaaDoor.Hand
open Go.RowKit Go.Proofs.YtdbokcgjdkbknaaDoor.PSa Go.Proofs.YtdbokcgjdkbknaaDoorW.PrintWords Go.Proofs.YtdbokcgjdkbknaaDoorW.PrintLast Go.Proofs.YtdbokcgjdkbknaaDoorW.PrintMore
set_option linter.unusedVariables false
set_option linter.unusedSimpArgs false
def abutmentref15_Status.f (a0 : ByteArray) : Option (ByteArray × ByteArray × Int × Int × ByteArray × List S45 × Int) := if a0.size ≤ 140737488351232 then some (statS a0) else none
theorem abutmentref15_Status.calls (a0 : ByteArray) (r1 : ByteArray) (r2 : ByteArray) (r3 : Int) (r4 : Int) (r5 : ByteArray) (r6 : List S45) (r7 : Int) (w : World) (h : abutmentref15_Status.f a0 = some (r1, r2, r3, r4, r5, r6, r7)) :
    Calls Tryd.prog 23 #[.string a0] w fun e w' => ∃ v5_ : Value, e = .returned (.tuple #[.agg #[.string r1, .string r2, .int .i64 r3, .int .i64 r4, .string r5, v5_], .int .i64 r7]) ∧ Kd.R k45 45 w' w.heap.size (fun _ => True) v5_ r6 ∧ Below w.heap.size w w' := by
  unfold abutmentref15_Status.f at h
  by_cases hs : a0.size ≤ 140737488351232
  · rw [if_pos hs] at h
    have hr := Option.some.inj h
    unfold statS badR at hr
    cases hk : okS a0
    · rw [if_neg (by simp [hk])] at hr
      simp only [Prod.mk.injEq] at hr
      obtain ⟨rfl, rfl, rfl, rfl, rfl, rfl, rfl⟩ := hr
      refine (RefStatus_bad a0 w hk (by omega)).mono ?_
      rintro e w' ⟨rfl, hb⟩
      exact ⟨_, rfl, Kd.R_nil _ _ _ _ _, hb⟩
    · rw [if_pos hk] at hr
      refine (RefStatus_good a0 w hk hs).mono ?_
      rintro e w' ⟨rfl, hb⟩
      unfold statEnd
      by_cases h1 : (minorB (a0.extract 0 8)).2 = 0
      · rw [if_pos h1] at hr
        rw [if_pos h1, if_pos h1]
        by_cases h2 : num3 a0 < 100 ∨ 599 < num3 a0
        · rw [if_pos h2] at hr
          rw [if_pos h2, if_pos h2]
          simp only [Prod.mk.injEq] at hr
          obtain ⟨rfl, rfl, rfl, rfl, rfl, rfl, rfl⟩ := hr
          exact ⟨_, rfl, Kd.R_nil _ _ _ _ _, hb⟩
        · rw [if_neg h2] at hr
          rw [if_neg h2, if_neg h2]
          by_cases h3 : Oct.valueS (a0.extract 13 a0.size) = true
          · rw [if_pos h3] at hr
            rw [if_pos h3, if_pos h3]
            simp only [Prod.mk.injEq] at hr
            obtain ⟨rfl, rfl, rfl, rfl, rfl, rfl, rfl⟩ := hr
            exact ⟨_, rfl, Kd.R_nil _ _ _ _ _, hb⟩
          · rw [if_neg h3] at hr
            rw [if_neg h3, if_neg h3]
            simp only [Prod.mk.injEq] at hr
            obtain ⟨rfl, rfl, rfl, rfl, rfl, rfl, rfl⟩ := hr
            exact ⟨_, rfl, Kd.R_nil _ _ _ _ _, hb⟩
      · rw [if_neg h1] at hr
        rw [if_neg h1, if_neg h1]
        simp only [Prod.mk.injEq] at hr
        obtain ⟨rfl, rfl, rfl, rfl, rfl, rfl, rfl⟩ := hr
        exact ⟨_, rfl, Kd.R_nil _ _ _ _ _, hb⟩
  · rw [if_neg hs] at h
    cases h
end Go.Proofs.YtdbokcgjdkbknaaDoor.Hand
