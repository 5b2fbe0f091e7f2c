/- Plain: what a response's first line is. -/
import Derived.Test.YtdbokcgjdkbknaaDoorPureStart
import Derived.Test.YtdbokcgjdkbknaaDoorPureNumD
namespace Go.Proofs.YtdbokcgjdkbknaaDoor.PSa
open Go.RowKit Go.Proofs.YtdbokcgjdkbknaaDoor.Hand Go.Proofs.YtdbokcgjdkbknaaDoorW.PrintWords
set_option linter.unusedVariables false
set_option linter.unusedSimpArgs false
def okS (s : ByteArray) : Bool := decide (12 ≤ s.size) && (formedB (s.extract 0 8) && (decide (bt s 8 = 32) && (dgt (bt s 9) && (dgt (bt s 10) && (dgt (bt s 11) && (decide (s.size = 12) || decide (bt s 12 = 32)))))))
def num3 (s : ByteArray) : Int := (bt s 9 - 48) * 100 + (bt s 10 - 48) * 10 + (bt s 11 - 48)
def statS (s : ByteArray) : HeadR :=
  if okS s = true then
    if (minorB (s.extract 0 8)).2 = 0 then
      if num3 s < 100 ∨ 599 < num3 s then badR 12
      else if Oct.valueS (s.extract 13 s.size) = true then (⟨#[]⟩, ⟨#[]⟩, (minorB (s.extract 0 8)).1, num3 s, s.extract 13 s.size, [], 0) else badR 7
    else badR (minorB (s.extract 0 8)).2
  else badR 3
theorem number3 (s : ByteArray) (h12 : 12 ≤ s.size) (d9 : dgt (bt s 9) = true) (d10 : dgt (bt s 10) = true) (d11 : dgt (bt s 11) = true) : PNum.numSpec 10 999 (s.extract 9 12).data.toList = (num3 s, 0) := by
  have e9 : bt s 9 = ((s[9]'(by omega)).toNat : Int) := bt_nat s 9 (by omega)
  have e10 : bt s 10 = ((s[10]'(by omega)).toNat : Int) := bt_nat s 10 (by omega)
  have e11 : bt s 11 = ((s[11]'(by omega)).toNat : Int) := bt_nat s 11 (by omega)
  have hl : (s.extract 9 12).data.toList = [s[9]'(by omega), s[10]'(by omega), s[11]'(by omega)] := by
    rw [Lib.extract_data, drop_cons s 9 (by omega), drop_cons s 10 (by omega), drop_cons s 11 (by omega)]
    rfl
  unfold num3
  rw [hl]
  rw [e9] at d9 ⊢
  rw [e10] at d10 ⊢
  rw [e11] at d11 ⊢
  have hv : ∀ c : UInt8, dgt (c.toNat : Int) = true → PNum.val c = (c.toNat : Int) - 48 ∧ 0 ≤ PNum.val c ∧ PNum.val c ≤ 9 := by
    intro c hc
    unfold dgt at hc
    simp only [Bool.and_eq_true, decide_eq_true_eq] at hc
    unfold PNum.val
    rw [if_pos (by omega)]
    omega
  obtain ⟨v9, l9, u9⟩ := hv _ d9
  obtain ⟨v10, l10, u10⟩ := hv _ d10
  obtain ⟨v11, l11, u11⟩ := hv _ d11
  rw [← v9, ← v10, ← v11]
  generalize s[9]'(by omega) = a at *
  generalize s[10]'(by omega) = b at *
  generalize s[11]'(by omega) = c at *
  have hn : PNum.numv 10 [a, b, c] 0 = PNum.val a * 100 + PNum.val b * 10 + PNum.val c := by
    show ((0 * 10 + PNum.val a) * 10 + PNum.val b) * 10 + PNum.val c = _
    omega
  have hb : PNum.badd 10 [a, b, c] = false := by
    unfold PNum.badd
    simp
    omega
  unfold PNum.numSpec
  rw [if_neg (by simp), hb, if_neg (by simp), hn, if_neg (by omega)]
end Go.Proofs.YtdbokcgjdkbknaaDoor.PSa
