/- The hand walks of package digits in the printer form: name.f tells the answer, name.calls is the contract. -/
import Derived.Test.YtdbokcgjdkbknaaDoorDigC
import Derived.Test.YtdbokcgjdkbknaaDoorWWords
namespace Go.Proofs.YtdbokcgjdkbknaaDoor.Hand
open Go.RowKit Go.Proofs.YtdbokcgjdkbknaaDoorW.PrintWords
set_option linter.unusedVariables false
set_option linter.unusedSimpArgs false

def digits_number.f (a0 : ByteArray) (a1 a2 : Int) : Option (Int × Int) := if a0.size ≤ 9223372036854775807 ∧ (a1 = 10 ∨ a1 = 16) ∧ 0 ≤ a2 ∧ a2 ≤ 4611686018427387904 then some (numS a1 a2 a0) else none
theorem digits_number.calls (a0 : ByteArray) (a1 a2 : Int) (r1 r2 : Int) (w : World) (h : digits_number.f a0 a1 a2 = some (r1, r2)) :
    Calls Tryd.prog 59 #[.string a0, .int .i64 a1, .int .i64 a2] w fun e w' => e = .returned (.tuple #[.int .i64 r1, .int .i64 r2]) ∧ Below w.heap.size w w' := by
  unfold digits_number.f at h
  split at h
  · rename_i hc
    refine (number_calls a0 a1 a2 w (by unfold maxLen; omega) hc.2.1 hc.2.2.1 hc.2.2.2).mono ?_
    rintro e w' ⟨rfl, hb⟩
    have h2 := Option.some.inj h
    unfold numS at h2
    rw [h2]
    exact ⟨rfl, hb⟩
  · exact absurd h (by simp)

def digits_figures.f (a0 a1 : Int) : Option ByteArray := if (a1 = 10 ∨ a1 = 16) ∧ -9223372036854775808 ≤ a0 ∧ a0 ≤ 9223372036854775807 then some ⟨(digL a1.toNat a0.natAbs).toArray⟩ else none
theorem digits_figures.calls (a0 a1 : Int) (r : ByteArray) (w : World) (h : digits_figures.f a0 a1 = some r) :
    Calls Tryd.prog 65 #[.int .i64 a0, .int .i64 a1] w fun e w' => e = .returned (.string r) ∧ Below w.heap.size w w' := by
  unfold digits_figures.f at h
  split at h
  · rename_i hc
    obtain rfl := Option.some.inj h
    exact figures_calls a0 a1 w hc.1 hc.2.1 hc.2.2
  · exact absurd h (by simp)
end Go.Proofs.YtdbokcgjdkbknaaDoor.Hand
