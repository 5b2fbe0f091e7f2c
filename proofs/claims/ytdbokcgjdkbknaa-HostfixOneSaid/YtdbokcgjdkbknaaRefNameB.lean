/- The reference's Name (layer 11): the contract, in the printer's form. -/
import Derived.Test.YtdbokcgjdkbknaaRefName
namespace Go.Proofs.Ytdbokcgjdkbknaa.Hand
open Go.RowKit Go.Proofs.YtdbokcgjdkbknaaW.PrintWords
set_option linter.unusedVariables false
set_option linter.unusedSimpArgs false
theorem refName_calls (s : ByteArray) (w : World) (hs : s.size ≤ 140737488355328) :
    Calls Try.prog 53 #[.string s] w fun e w' => e = .returned (.int .i64 (nameL s.data.toList)) ∧ w = w' := by
  by_cases hz : 0 < s.size
  · by_cases hb : s[0]'hz = 91
    · exact refName_br s w (by unfold maxLen; omega) hz hb
    · refine refName_no s w hs _ ?_ (.inr ⟨hz, by simp; intro h; exact hb (UInt8.toNat_inj.1 (by show _ = 91; omega))⟩)
      have := drop_cons s 0 hz
      rw [List.drop_zero] at this
      unfold Hid
      conv => rhs; rw [this]
      unfold nameL
      simp only [hb, if_false]
      rw [← this]
  · refine refName_no s w hs _ ?_ (.inl (by omega))
    have : s.data.toList = [] := by apply List.eq_nil_of_length_eq_zero; rw [Array.length_toList]; show s.size = 0; omega
    rw [this]
    exact rfl
def abutmentref11_Name.f (a0 : ByteArray) : Option Int := if a0.size ≤ 140737488355328 then some (nameL a0.data.toList) else none
theorem abutmentref11_Name.calls (a0 : ByteArray) (r : Int) (w : World) (h : abutmentref11_Name.f a0 = some r) :
    Calls Try.prog 53 #[.string a0] w fun e w' => e = .returned (.int .i64 r) ∧ Drawn0 w w' := by
  unfold abutmentref11_Name.f at h
  split at h
  · rename_i hc
    obtain rfl := Option.some.inj h
    exact (refName_calls a0 w hc).mono fun e w' ⟨he, hw⟩ => ⟨he, hw ▸ Drawn0.refl w⟩
  · exact absurd h (by simp)
end Go.Proofs.Ytdbokcgjdkbknaa.Hand
