/- Plain: numbers read from digits: the plain part. -/
import Derived.Test.YtdbokcgjdkbknaaDoorWMore
import Derived.Test.YtdbokcgjdkbknaaDoorDigF
import Derived.IntWalk
import Derived.Lib.IndexBytes
namespace Go.Proofs.YtdbokcgjdkbknaaDoor.PNum
open Go.RowKit Go.Proofs.YtdbokcgjdkbknaaDoor.Hand Go.Proofs.YtdbokcgjdkbknaaDoorW.PrintWords
set_option linter.unusedVariables false
set_option linter.unusedSimpArgs false
def val (c : UInt8) : Int := if 48 ≤ c.toNat ∧ c.toNat ≤ 57 then c.toNat - 48 else if 65 ≤ c.toNat ∧ c.toNat ≤ 70 then c.toNat - 55 else if 97 ≤ c.toNat ∧ c.toNat ≤ 102 then c.toNat - 87 else 99
theorem val_range (c : UInt8) : 0 ≤ val c ∧ val c ≤ 99 := by
  unfold val
  repeat' split
  all_goals omega
/-- The value of digits, from a number on. -/
def numv (base : Int) (l : List UInt8) (n : Int) : Int := l.foldl (fun n c => n * base + val c) n
def badd (base : Int) (l : List UInt8) : Bool := l.any fun c => decide (base ≤ val c)
def numSpec (base most : Int) (l : List UInt8) : Int × Int :=
  if l = [] then (0, 2) else if badd base l = true then (0, 3) else if most < numv base l 0 then (0, 5) else (numv base l 0, 0)
theorem val_dig (c : UInt8) : val c = if dig c.toNat < 0 then 99 else dig c.toNat := by
  unfold val dig
  repeat' split
  all_goals omega
theorem val_bad {c : UInt8} {base : Int} (hb : base = 10 ∨ base = 16) : (dig c.toNat < 0 ∨ base ≤ dig c.toNat) ↔ base ≤ val c := by
  have := dig_lt c.toNat
  rw [val_dig]
  split <;> omega
theorem val_good {c : UInt8} {base : Int} (hb : base = 10 ∨ base = 16) (h : ¬ (dig c.toNat < 0 ∨ base ≤ dig c.toNat)) : val c = dig c.toNat := by
  rw [val_dig, if_neg (fun h' => h (.inl h'))]
theorem numv_ge {base : Int} (hb : 1 ≤ base) : ∀ (l : List UInt8) (n : Int), 0 ≤ n → n ≤ numv base l n
  | [], n, h => Int.le_refl _
  | c :: l, n, h => by
    have h1 := val_range c
    have h2 : n ≤ n * base := by have := Int.mul_le_mul_of_nonneg_left hb h; omega
    have := numv_ge hb l (n * base + val c) (by omega)
    show n ≤ numv base l (n * base + val c)
    omega
theorem numL_bad {base most : Int} (hb : base = 10 ∨ base = 16) : ∀ (l : List UInt8) (n : Int) (o : Bool), badd base l = true → numL base most l n o = (0, 3)
  | [], _, _, h => absurd h (by simp [badd])
  | c :: l, n, o, h => by
    by_cases hc : dig c.toNat < 0 ∨ base ≤ dig c.toNat
    · exact num_bad hc
    · have hl : badd base l = true := by
        have h1 : ¬ base ≤ val c := fun h' => hc ((val_bad hb).2 h')
        simpa [badd, h1] using h
      by_cases ho : o = true ∨ most < dig c.toNat ∨ (most - dig c.toNat) / base < n
      · rw [num_over hc ho]; exact numL_bad hb l _ _ hl
      · rw [num_ok hc ho]; exact numL_bad hb l _ _ hl
theorem numL_over {base most : Int} (hb : base = 10 ∨ base = 16) : ∀ (l : List UInt8) (n : Int), badd base l = false → numL base most l n true = (0, 5)
  | [], _, _ => rfl
  | c :: l, n, h => by
    have h1 : ¬ (dig c.toNat < 0 ∨ base ≤ dig c.toNat) := by
      intro h'
      have := (val_bad hb).1 h'
      simp [badd, this] at h
    rw [num_over h1 (.inl rfl)]
    exact numL_over hb l n (by simp [badd] at h ⊢; exact h.2)
theorem numL_ok {base most : Int} (hb : base = 10 ∨ base = 16) (hm : 0 ≤ most) : ∀ (l : List UInt8) (n : Int), 0 ≤ n → n ≤ most → badd base l = false →
    numL base most l n false = if most < numv base l n then (0, 5) else (numv base l n, 0)
  | [], n, _, h, _ => by
    show (n, 0) = if most < n then _ else _
    rw [if_neg (by omega)]
    rfl
  | c :: l, n, h0, hn, h => by
    have h1 : ¬ (dig c.toNat < 0 ∨ base ≤ dig c.toNat) := by
      intro h'
      have := (val_bad hb).1 h'
      simp [badd, this] at h
    have h2 : badd base l = false := by simp [badd] at h ⊢; exact h.2
    have hv := val_good hb h1
    have hd := dig_lt c.toNat
    show _ = if most < numv base l (n * base + val c) then (0, 5) else (numv base l (n * base + val c), 0)
    by_cases ho : most < dig c.toNat ∨ (most - dig c.toNat) / base < n
    · rw [num_over h1 (.inr ho), numL_over hb l n h2]
      have h3 : most < n * base + val c := by rcases hb with rfl | rfl <;> omega
      have h4 := numv_ge (base := base) (by omega) l (n * base + val c) (by omega)
      rw [if_pos (by omega)]
    · rw [num_ok h1 (by simp; omega), hv]
      have h3 : 0 ≤ n * base + dig c.toNat ∧ n * base + dig c.toNat ≤ most := by rcases hb with rfl | rfl <;> omega
      exact numL_ok hb hm l _ h3.1 h3.2 h2
theorem numS_spec {base most : Int} (hb : base = 10 ∨ base = 16) (hm : 0 ≤ most) (s : ByteArray) : numS base most s = numSpec base most s.data.toList := by
  unfold numS numSpec
  split
  · rfl
  · cases h : badd base s.data.toList
    · rw [numL_ok hb hm _ 0 (by omega) hm h]
      simp
    · rw [numL_bad hb _ _ _ h]
      simp

/-! the reference's Number -/
theorem bt_nat (s : ByteArray) (i : Nat) (h : i < s.size) : bt s (i : Int) = ((s[i]'h).toNat : Int) := by
  unfold bt
  simp [h]
theorem w64 {n : Int} (h0 : -9223372036854775808 ≤ n) (h1 : n ≤ 9223372036854775807) : wrap64 n = n := IntWalk.wrap64_in n ⟨h0, h1⟩
end Go.Proofs.YtdbokcgjdkbknaaDoor.PNum
