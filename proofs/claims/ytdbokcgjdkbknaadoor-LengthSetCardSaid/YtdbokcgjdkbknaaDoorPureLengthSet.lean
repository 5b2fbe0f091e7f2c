/- LengthSet: what is set is told; with another number beside it nothing is. -/
import Derived.Test.YtdbokcgjdkbknaaDoorPureLenA
import Derived.Test.YtdbokcgjdkbknaaDoorPLsx2
namespace Go.Proofs.YtdbokcgjdkbknaaDoor.PLs
open Go.RowKit Go.Proofs.YtdbokcgjdkbknaaDoor.Hand Go.Proofs.YtdbokcgjdkbknaaDoor.PTr Go.Proofs.YtdbokcgjdkbknaaDoorW.PrintWords Go.Proofs.YtdbokcgjdkbknaaDoorW.PrintLast Go.Proofs.YtdbokcgjdkbknaaDoorW.PrintMore
set_option linter.unusedVariables false
set_option linter.unusedSectionVars false
set_option linter.unusedSimpArgs false
theorem lives_k : abutmentlaw18_lives.f = some true := by kernel_rfl
theorem setF_small {l : List S45} {a : Int} (h0 : -9223372036854775808 ≤ a) (h1 : a ≤ 9223372036854775807) (hf : Few l) : (setF l a).length ≤ 41 ∧ ∀ x ∈ setF l a, x.f0.size ≤ 100 ∧ x.f1.size ≤ 300 := by
  have hl : (textL a).length ≤ 21 := by
    have := digL_le 20 10 a.natAbs (by omega) (by omega) (by omega)
    unfold textL
    split
    · simp; omega
    · omega
  have hz : (ba (textL a)).size ≤ 21 := by rw [ba_size]; exact hl
  have hk : lenB.size = 14 := rfl
  have hle : (l.filter fun x => !isNamed [lenB] x).length ≤ l.length := List.length_filter_le _ _
  have := hf.len
  unfold setF
  refine ⟨by rw [List.length_append, List.length_singleton]; omega, fun x hx => ?_⟩
  rcases List.mem_append.1 hx with h | h
  · exact ⟨hf.f0 x (List.mem_filter.1 h).1, hf.f1 x (List.mem_filter.1 h).1⟩
  · rw [List.mem_singleton.1 h]
    exact ⟨by show lenB.size ≤ 100; omega, by show (ba (textL a)).size ≤ 300; omega⟩
theorem of_k (l : List S45) (hl : l.length ≤ 100) (h : ∀ x ∈ l, x.f0.size ≤ 100 ∧ x.f1.size ≤ 300) : length_Of.f l = some (ofS l) := by
  unfold length_Of.f
  have ht : tameB l = true := List.all_eq_true.2 fun x hx => by
    have := h x hx
    rw [decide_eq_true (by omega), decide_eq_true (by omega)]
    rfl
  rw [if_pos ⟨by omega, ht⟩]
theorem set_k (l : List S45) (a : Int) (hf : Few l) (h0 : -9223372036854775808 ≤ a) (h1 : a ≤ 9223372036854775807) : length_Set.f l a = some (setF l a) := by
  have hlen : (l.filter fun x => !isNamed [lenB] x).length ≤ l.length := List.length_filter_le _ _
  have := hf.len
  have hs : smallB l = true := List.all_eq_true.2 fun x hx => decide_eq_true (by have := hf.f0 x hx; omega)
  unfold length_Set.f header_Without.f digits_Text.f header_With.f
  rw [if_pos ⟨by omega, by simp, by decide, hs⟩, if_pos ⟨h0, h1⟩]
  simp only [Option.bind_some]
  rw [if_pos (by exact Nat.le_trans hlen (by omega))]
  rfl
theorem few_nil : Few ([] : List S45) := few_of (by decide)
theorem set_j0 (l : List S45) (a b : Int) (q : Bool) (hq : q = false → Few l ∧ 0 ≤ a ∧ a ≤ 2147483647 ∧ 0 ≤ b ∧ b ≤ 2147483647) : Ev (fun k => abutmentlaw18_LengthSet.j0 k l a b q) true := by
  have key : Ev (fun k => abutmentlaw18_LengthSet.j0 (k + 1) l a b q) true := by
    simp only [abutmentlaw18_LengthSet.j0]
    cases q
    · obtain ⟨hf, a0, a1, b0, b1⟩ := hq rfl
      obtain ⟨z1, z2⟩ := setF_small (a := a) (by omega) (by omega) hf
      obtain ⟨y1, y2⟩ := setF_small (a := b) (by omega) (by omega) few_nil
      have e2 := of_k (setF l a ++ setF [] b) (by rw [List.length_append]; omega) (fun x hx => by
        rcases List.mem_append.1 hx with h | h
        · exact z2 x h
        · exact y2 x h)
      simp only [Bool.false_eq_true, if_false, set_k l a hf (by omega) (by omega), set_k [] b few_nil (by omega) (by omega), Option.bind_some, of_k (setF l a) (by omega) z2, of_set l a0 a1, List.nil_append, List.length_nil, if_true]
      rw [if_pos (by omega), if_pos (by omega)]
      simp only [e2, Option.bind_some, of_two l a0 a1 b0 b1, lives_k]
      by_cases h : a = b
      · subst h
        simp
        exact Ev.now _
      · simp [h]
        exact Ev.now _
    · simp only [if_true, lives_k, Option.bind_some]
      exact Ev.now true
  obtain ⟨K, h⟩ := key
  exact ⟨K + 1, fun k hk => by
    obtain ⟨m, rfl⟩ : ∃ m, k = m + 1 := ⟨k - 1, by omega⟩
    exact h m (by omega)⟩
theorem law_Set (l : List S45) (a b : Int) : ∃ k, abutmentlaw18_LengthSet.f k l a b = some true := by
  apply Ev.rounds
  unfold abutmentlaw18_LengthSet.f
  refine Ev.bind (Few_ev l) ?_
  have bad : Ev (fun k => abutmentlaw18_LengthSet.j0 k l a b true) true := set_j0 l a b true (fun h => by cases h)
  by_cases hq : fewS l = true
  · refine Ev.ite_pos hq ?_
    by_cases h1 : a < 0
    · exact Ev.ite_pos h1 bad
    · refine Ev.ite_neg h1 ?_
      by_cases h2 : a > 2147483647
      · exact Ev.ite_pos h2 bad
      · refine Ev.ite_neg h2 ?_
        by_cases h3 : b < 0
        · exact Ev.ite_pos h3 bad
        · refine Ev.ite_neg h3 (set_j0 l a b _ (fun h => ⟨few_of hq, by omega, by omega, by omega, ?_⟩))
          have := of_decide_eq_false h
          omega
  · exact Ev.ite_neg hq bad
end Go.Proofs.YtdbokcgjdkbknaaDoor.PLs
