/- Plain: the first line of a head: the program's and the reference's are one. -/
import Derived.Test.YtdbokcgjdkbknaaDoorPureStart
import Derived.Test.YtdbokcgjdkbknaaDoorPScx1
namespace Go.Proofs.YtdbokcgjdkbknaaDoor.Pure
open Go.RowKit Go.Proofs.YtdbokcgjdkbknaaDoor.PSc Go.Proofs.YtdbokcgjdkbknaaDoor.PSa Go.Proofs.YtdbokcgjdkbknaaDoor.Hand Go.Proofs.YtdbokcgjdkbknaaDoorW.PrintWords Go.Proofs.YtdbokcgjdkbknaaDoorW.PrintLast
theorem lines_j0 (b : Bool) (m t : ByteArray) (n st : Int) (r : ByteArray) (l : List S45) (h0 : -9223372036854775808 ≤ st) (h1 : st ≤ 9223372036854775807) (hb : b = false → m.size ≤ 1000 ∧ t.size ≤ 1000 ∧ r.size ≤ 1000) : Ev (fun k => abutmentlaw15_StartLines.j0 k b m t n st r l) true := by
  have key : Ev (fun k => abutmentlaw15_StartLines.j0 (k + 1) b m t n st r l) true := by
    simp only [abutmentlaw15_StartLines.j0]
    cases b
    · obtain ⟨k0, k1, k2⟩ := hb rfl
      have e1 : start_Line.f m t n st r l = some (lineS m t n st r) := by
        unfold start_Line.f
        rw [if_pos ⟨by omega, by omega, by omega, h0, h1⟩]
      have e2 : abutmentref15_Line.f m t n st r l = some (lineS m t n st r) := by
        unfold abutmentref15_Line.f
        rw [if_pos ⟨by omega, by omega, by omega, h0, h1⟩]
      simp only [e1, e2, start_Version.f, abutmentref15_Version.f, Option.bind_some, if_true]
      simp only [Bool.false_eq_true, if_false]
      exact Ev.bind lives_s (Ev.now true)
    · simp only [if_true]
      exact Ev.bind lives_s (Ev.now true)
  obtain ⟨K, h⟩ := key
  exact ⟨K + 1, fun k hk => by
    obtain ⟨m, rfl⟩ : ∃ m, k = m + 1 := ⟨k - 1, by omega⟩
    exact h m (by omega)⟩
theorem law_Lines (m t : ByteArray) (n st : Int) (r : ByteArray) (l : List S45) (h0 : -9223372036854775808 ≤ st) (h1 : st ≤ 9223372036854775807) : ∃ k, abutmentlaw15_StartLines.f k m t n st r l = some true := by
  apply Ev.rounds
  unfold abutmentlaw15_StartLines.f
  by_cases a : (m.size : Int) > 1000
  · simp only [if_pos a]
    exact lines_j0 true m t n st r l h0 h1 (fun h => by cases h)
  · simp only [if_neg a]
    by_cases b : (t.size : Int) > 1000
    · simp only [if_pos b]
      exact lines_j0 true m t n st r l h0 h1 (fun h => by cases h)
    · simp only [if_neg b]
      refine lines_j0 _ m t n st r l h0 h1 (fun h => ?_)
      simp only [decide_eq_false_iff_not] at h
      omega
end Go.Proofs.YtdbokcgjdkbknaaDoor.Pure
