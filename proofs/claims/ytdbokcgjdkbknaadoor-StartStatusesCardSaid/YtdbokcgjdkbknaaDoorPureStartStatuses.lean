/- StartStatuses: a response's first line, and the reason of a status, are as the document says, for every text (at most 1,000 octets of it) and every number. Conditions: none. -/
import Derived.Test.YtdbokcgjdkbknaaDoorPureStatus
import Derived.Test.YtdbokcgjdkbknaaDoorPSdx1
namespace Go.Proofs.YtdbokcgjdkbknaaDoor.Pure
open Go.RowKit Go.Proofs.YtdbokcgjdkbknaaDoor.PSd Go.Proofs.YtdbokcgjdkbknaaDoor.PSa Go.Proofs.YtdbokcgjdkbknaaDoor.Hand Go.Proofs.YtdbokcgjdkbknaaDoorW.PrintWords Go.Proofs.YtdbokcgjdkbknaaDoorW.PrintLast
theorem reason_s (a : Int) : ∃ r, start_Reason.f a = some r ∧ Ev (fun k => abutmentref15_Reason.f k a) r := by
  by_cases h1 : a = 100
  · subst h1; exact ⟨_, rfl, Ev.of (abutmentref15_Reason.mono _) (k := 12) (by kernel_rfl)⟩
  by_cases h2 : a = 400
  · subst h2; exact ⟨_, rfl, Ev.of (abutmentref15_Reason.mono _) (k := 12) (by kernel_rfl)⟩
  by_cases h3 : a = 408
  · subst h3; exact ⟨_, rfl, Ev.of (abutmentref15_Reason.mono _) (k := 12) (by kernel_rfl)⟩
  by_cases h4 : a = 413
  · subst h4; exact ⟨_, rfl, Ev.of (abutmentref15_Reason.mono _) (k := 12) (by kernel_rfl)⟩
  by_cases h5 : a = 417
  · subst h5; exact ⟨_, rfl, Ev.of (abutmentref15_Reason.mono _) (k := 12) (by kernel_rfl)⟩
  by_cases h6 : a = 431
  · subst h6; exact ⟨_, rfl, Ev.of (abutmentref15_Reason.mono _) (k := 12) (by kernel_rfl)⟩
  by_cases h7 : a = 501
  · subst h7; exact ⟨_, rfl, Ev.of (abutmentref15_Reason.mono _) (k := 12) (by kernel_rfl)⟩
  by_cases h8 : a = 502
  · subst h8; exact ⟨_, rfl, Ev.of (abutmentref15_Reason.mono _) (k := 12) (by kernel_rfl)⟩
  by_cases h9 : a = 504
  · subst h9; exact ⟨_, rfl, Ev.of (abutmentref15_Reason.mono _) (k := 12) (by kernel_rfl)⟩
  by_cases h10 : a = 505
  · subst h10; exact ⟨_, rfl, Ev.of (abutmentref15_Reason.mono _) (k := 12) (by kernel_rfl)⟩
  by_cases h11 : a = 508
  · subst h11; exact ⟨_, rfl, Ev.of (abutmentref15_Reason.mono _) (k := 12) (by kernel_rfl)⟩
  refine ⟨⟨#[]⟩, ?_, Ev.of (abutmentref15_Reason.mono _) (k := 12) ?_⟩
  · unfold start_Reason.f
    rw [if_neg h1, if_neg h2, if_neg h3, if_neg h4, if_neg h5, if_neg h6, if_neg h7, if_neg h8, if_neg h9, if_neg h10, if_neg h11]
  · have g : ∀ x : Int, ¬ a = x → ¬ x = a := fun x h h' => h h'.symm
    unfold abutmentref15_Reason.f
    simp [abutmentref15_Reason.l0, rd, wrap64, g 100 h1, g 400 h2, g 408 h3, g 413 h4, g 417 h5, g 431 h6, g 501 h7, g 502 h8, g 504 h9, g 505 h10, g 508 h11]
theorem StartStatuses : abutmentlaw15_StartStatuses.Pure := by
  intro a0 a1 hn hw
  apply Ev.rounds
  unfold abutmentlaw15_StartStatuses.f
  have hm : 0 ≤ mn (a0.size : Int) 1000 ∧ mn (a0.size : Int) 1000 ≤ (a0.size : Int) ∧ mn (a0.size : Int) 1000 ≤ 1000 := by unfold mn; split <;> omega
  simp only [if_pos hm.1, if_pos hm.2.1]
  have hx : (a0.extract 0 (mn (a0.size : Int) 1000).toNat).size ≤ 1000 := by rw [ByteArray.size_extract]; omega
  generalize a0.extract 0 (mn (a0.size : Int) 1000).toNat = x at hx
  refine Ev.bind (status_s x (by omega)) ?_
  have hst : abutmentref15_Status.f x = some (statS x) := by unfold abutmentref15_Status.f; rw [if_pos (by omega)]
  simp only [hst, Option.bind_some]
  have hs : abutmentref15_Same.f (statS x).1 (statS x).2.1 (statS x).2.2.1 (statS x).2.2.2.1 (statS x).2.2.2.2.1 (statS x).2.2.2.2.2.1 (statS x).1 (statS x).2.1 (statS x).2.2.1 (statS x).2.2.2.1 (statS x).2.2.2.2.1 (statS x).2.2.2.2.2.1 = some true := same_s _ _ _ _ _ _ _
  have hf : (((statS x).2.2.2.2.2.1.length : Nat) : Int) = 0 := by rw [statS_fields]; rfl
  obtain ⟨r, hr, he⟩ := reason_s a1
  simp only [hs, hr, Option.bind_some, if_true, if_pos hf]
  refine Ev.bind he ?_
  simp only [if_true]
  exact Ev.bind lives_s (Ev.now true)
end Go.Proofs.YtdbokcgjdkbknaaDoor.Pure
