/- Hand walks: the reference's Digits (layer 2). -/
import Derived.Test.YtdbokcgjdkbknaaDoorDigT
import Derived.IntWalk
namespace Go.Proofs.YtdbokcgjdkbknaaDoor.Hand
open Go.RowKit Go.Proofs.YtdbokcgjdkbknaaDoorW.PrintWords
set_option linter.unusedVariables false
set_option linter.unusedSimpArgs false
theorem digL_lt {b n : Nat} (h : n < b) : digL b n = [sg n] := by rw [digL, dif_pos (.inr h)]
theorem digL_ge {b n : Nat} (hb : 2 ≤ b) (h : ¬ n < b) : digL b n = digL b (n / b) ++ [sg (n % b)] := by rw [digL, dif_neg (by omega)]
theorem sig_at {d : Nat} (h : d < 16) : (⟨#[48, 49, 50, 51, 52, 53, 54, 55, 56, 57, 97, 98, 99, 100, 101, 102]⟩ : ByteArray).extract d (d + 1) = ba [sg d] := by
  have : ∀ d : Fin 16, ((⟨#[48, 49, 50, 51, 52, 53, 54, 55, 56, 57, 97, 98, 99, 100, 101, 102]⟩ : ByteArray).extract d.val (d.val + 1)).data.toList = [sg d.val] := by decide
  have h2 := this ⟨d, h⟩
  apply ByteArray.ext
  apply Array.ext'
  rw [h2]
  rfl
theorem u64_div {m b : Nat} (h : m ≤ 9223372036854775808) : IntKind.u64.wrap ((m : Int) / (b : Int)) = ((m / b : Nat) : Int) := by
  rw [← Int.natCast_ediv]
  have : m / b ≤ m := Nat.div_le_self _ _
  generalize m / b = q at *
  exact IntWalk.u64_in _ (by omega)
theorem Below_drewN {B : Nat} {w W : World} (h : Below B w W) (n : Nat) : Below B w (W.drewN n) := ⟨h.os, h.tape, h.output, h.size, h.block⟩
set_option maxHeartbeats 1000000 in
theorem refDigits_calls (n b : Nat) (w : World) (hb : b = 10 ∨ b = 16) (hn : n ≤ 9223372036854775808) :
    Calls Tryd.prog 66 #[.int .u64 n, .int .u64 b] w fun e w' => e = .returned (.string (ba (digL b n))) ∧ Below w.heap.size w w' := by
  obtain ⟨R, hR⟩ : ∃ R, digL b n = R := ⟨_, rfl⟩
  rw [hR]
  have hlen : R.length ≤ 20 := by rw [← hR]; exact digL_le 20 b n (by omega) (by omega) (by omega)
  have hR' : Hid (digL b n ++ [] = R) := by rw [List.append_nil]; exact hR
  have hlen' := Lib.hid hlen
  clear hR hlen
  have hb0 : b ≤ 16 := by omega
  have hb1 : 10 ≤ b := by omega
  have hb2 : ¬ b = 0 := by omega
  go_enter Tryd.func66, Tryd.ntmps66
  go_wp2
  go_loopw [0, 6] (fun vn vo wr => ∃ (m : Nat) (o : List UInt8), m ≤ 9223372036854775808 ∧ vn = .int .u64 m ∧ vo = .string (ba o) ∧ Hid (digL b m ++ o = R) ∧ Below w.heap.size w wr) (fun vn _ _ => (intOf vn).toNat)
  case atStart => exact ⟨n, [], hn, rfl, rfl, hR', Below.refl _ _⟩
  case round =>
    clear hR' hn n
    obtain ⟨m, o, hm, rfl, rfl, hI, hB⟩ := hrel
    have hol : (ba o).size ≤ 20 := by
      have := hlen'.out
      rw [← hI.out, List.length_append] at this
      rw [ba_size]
      omega
    by_cases hlt : m < b
    · have hI2 := hI.out
      rw [digL_lt hlt] at hI2
      have hI3 := Lib.hid hI2
      clear hI hI2
      go_wp2
      go_ret
      exact ⟨by rw [show (m + 1) = m + 1 from rfl]; rw [← hI3.out, ← ba_append, ← sig_at (by omega)]; rfl, hB⟩
    · have hI2 := hI.out
      rw [digL_ge (by omega) hlt, List.append_assoc] at hI2
      have hI3 := Lib.hid hI2
      clear hI hI2
      have hmod : m % b < b := Nat.mod_lt _ (by omega)
      have hdiv : m / b < m := Nat.div_lt_self (by omega) (by omega)
      go_wp2
      have f1 : (0 : Int) ≤ (m : Int) % (b : Int) := by omega
      have f2 : (m : Int) % (b : Int) < 16 := by have := Int.emod_lt_of_pos (m : Int) (show (0 : Int) < b by omega); omega
      have f3 : IntKind.u64.wrap ((m : Int) / (b : Int)) = ((m / b : Nat) : Int) := u64_div hm
      go_quiet (fail)
      go_wp2
      go_roundw
      case rel => exact ⟨m / b, sg (m % b) :: o, Nat.le_trans (Nat.le_of_lt hdiv) hm, rfl, by rw [sig_at (by omega), ba_append]; rfl, hI3.out, Below_drewN hB _⟩
      case measure => simp [intOf]; exact hdiv
def abutmentref02_Digits.f (a0 a1 : Int) : Option ByteArray := if (a1 = 10 ∨ a1 = 16) ∧ 0 ≤ a0 ∧ a0 ≤ 9223372036854775808 then some (ba (digL a1.toNat a0.toNat)) else none
theorem abutmentref02_Digits.calls (a0 a1 : Int) (r : ByteArray) (w : World) (h : abutmentref02_Digits.f a0 a1 = some r) :
    Calls Tryd.prog 66 #[.int .u64 a0, .int .u64 a1] w fun e w' => e = .returned (.string r) ∧ Below w.heap.size w w' := by
  unfold abutmentref02_Digits.f at h
  by_cases hc : (a1 = 10 ∨ a1 = 16) ∧ 0 ≤ a0 ∧ a0 ≤ 9223372036854775808
  · rw [if_pos hc] at h
    obtain rfl := Option.some.inj h
    have c := refDigits_calls a0.toNat a1.toNat w (by omega) (by omega)
    rw [Int.toNat_of_nonneg hc.2.1, Int.toNat_of_nonneg (by omega)] at c
    exact c
  · rw [if_neg hc] at h
    cases h
end Go.Proofs.YtdbokcgjdkbknaaDoor.Hand
