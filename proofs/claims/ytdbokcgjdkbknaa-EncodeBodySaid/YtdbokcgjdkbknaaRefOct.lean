/- Hand walk: the reference's Tchar (layer 1). -/
import Derived.Test.YtdbokcgjdkbknaaOctetB
namespace Go.Proofs.Ytdbokcgjdkbknaa.Hand
open Go.RowKit Go.Proofs.YtdbokcgjdkbknaaW.PrintWords
set_option linter.unusedVariables false
set_option linter.unusedSimpArgs false
namespace Oct
set_option maxHeartbeats 1000000 in
set_option maxRecDepth 100000 in
theorem refTchar_calls (r : Int) (w : World) (h0 : 0 ≤ r) (h1 : r ≤ 255) :
    Calls Try.prog 102 #[.int .u8 r] w fun e w' => e = .returned (.bool (tcharI r)) ∧ Drawn0 w w' := by
  by_cases hal : (97 ≤ r ∧ r ≤ 122) ∨ (65 ≤ r ∧ r ≤ 90) ∨ (48 ≤ r ∧ r ≤ 57)
  · have e : tcharI r = true := by unfold tcharI; rw [decide_eq_true hal]; rfl
    rw [e]
    clear e
    rcases hal with h | h | h
    all_goals
      obtain ⟨g1, g2⟩ := h
      go_enter Try.func102, Try.ntmps102
      go_wp2 <;> first | (go_ret; exact ⟨by first | rfl | (simp; done) | (simp; omega), Drawn0.refl _⟩) | (exfalso; simp_all <;> omega)
  · have e : tcharI r = marks.any fun m => (m.toNat : Int) == r := by unfold tcharI; rw [decide_eq_false hal]; rfl
    rw [e]
    clear e
    obtain ⟨R, hR⟩ : ∃ R, (marks.any fun m => (m.toNat : Int) == r) = R := ⟨_, rfl⟩
    rw [hR]
    have hR' := Lib.hid hR
    have n1 : r < 97 ∨ 122 < r := by omega
    have n2 : r < 65 ∨ 90 < r := by omega
    have n3 : r < 48 ∨ 57 < r := by omega
    clear hR hal
    have hcase : r < 48 ∨ (57 < r ∧ r < 65) ∨ (90 < r ∧ r < 97) ∨ 122 < r := by omega
    clear n1 n2 n3
    rcases hcase with h | ⟨g1, g2⟩ | ⟨g1, g2⟩ | h
    all_goals
      go_enter Try.func102, Try.ntmps102
      go_wp2
      go_loop [4] (fun vi => ∃ k : Nat, k ≤ 15 ∧ vi = .int .i64 k ∧ Hid (((marks.drop k).any fun m => (m.toNat : Int) == r) = R)) (fun vi => 15 - (intOf vi).toNat)
      case atStart => exact ⟨0, by omega, rfl, hR'⟩
      case round =>
        clear hR'
        obtain ⟨k, hk, rfl, hR⟩ := hrel
        by_cases hp : k < 15
        · have hR2 := hR.out
          rw [mark_drop k hp] at hR2
          clear hR
          have hx1 : (⟨#[33, 35, 36, 37, 38, 39, 42, 43, 45, 46, 94, 95, 96, 124, 126]⟩ : ByteArray).size = 15 := rfl
          cases hx : ((((⟨#[33, 35, 36, 37, 38, 39, 42, 43, 45, 46, 94, 95, 96, 124, 126]⟩ : ByteArray)[k]'hp).toNat : Int) == r)
          · rw [hx, Bool.false_or] at hR2
            have hR3 := Lib.hid hR2
            clear hR2
            go_wp2
            go_round
            case rel => exact ⟨k + 1, by omega, by go_num, hR3⟩
            case measure => simp [intOf]; omega
          · rw [hx, Bool.true_or] at hR2
            have hR3 := Lib.hid hR2
            clear hR2
            go_wp2
            go_ret
            exact ⟨by rw [← hR3.out]; rfl, Drawn0.refl _⟩
        · obtain rfl : k = 15 := by omega
          have hR3 : Hid (R = false) := hR.out.symm
          clear hR
          go_wp2
          go_ret
          exact ⟨by rw [hR3.out]; rfl, Drawn0.refl _⟩
end Oct
def abutmentref01_Tchar.f (a0 : Int) : Option Bool := if 0 ≤ a0 ∧ a0 ≤ 255 then some (Oct.tcharI a0) else none
theorem abutmentref01_Tchar.calls (a0 : Int) (r : Bool) (w : World) (h : abutmentref01_Tchar.f a0 = some r) :
    Calls Try.prog 102 #[.int .u8 a0] w fun e w' => e = .returned (.bool r) ∧ Drawn0 w w' := by
  unfold abutmentref01_Tchar.f at h
  by_cases hc : 0 ≤ a0 ∧ a0 ≤ 255
  · rw [if_pos hc] at h
    obtain rfl := Option.some.inj h
    exact Oct.refTchar_calls a0 w hc.1 hc.2
  · rw [if_neg hc] at h
    cases h
end Go.Proofs.Ytdbokcgjdkbknaa.Hand
