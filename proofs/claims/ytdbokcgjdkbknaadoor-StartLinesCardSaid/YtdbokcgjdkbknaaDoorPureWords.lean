/- Plain: first lines: words, versions, requests: the program's and the reference's answers are one. -/
import Derived.Test.YtdbokcgjdkbknaaDoorPSax3
import Derived.Test.YtdbokcgjdkbknaaDoorDigT
import Derived.Lib.IndexBytes
import Derived.IntWalk
namespace Go.Proofs.YtdbokcgjdkbknaaDoor.PSa
open Go.RowKit Go.Proofs.YtdbokcgjdkbknaaDoor.Hand Go.Proofs.YtdbokcgjdkbknaaDoorW.PrintWords
set_option linter.unusedVariables false
set_option linter.unusedSimpArgs false
/-! words -/
theorem ba_self (s : ByteArray) : ba s.data.toList = s := rfl
theorem ba_data (l : List UInt8) : (ba l).data.toList = l := by unfold ba; simp
theorem ba_extract (l : List UInt8) (i j : Nat) : (ba l).extract i j = ba ((l.take j).drop i) := by
  apply ByteArray.ext
  apply Array.ext'
  rw [Lib.extract_data, ba_data, ba_data, List.take_drop]
  by_cases h : i ≤ j
  · rw [show i + (j - i) = j by omega]
  · rw [List.drop_eq_nil_of_le (by simp; omega), List.drop_eq_nil_of_le (by simp; omega)]
theorem indexByte_no {c : UInt8} : ∀ {l : List UInt8}, c ∉ l → Lib.indexByte l c = -1
  | [], _ => rfl
  | b :: l, h => by
    have hb : (b == c) = false := by rw [beq_eq_false_iff_ne]; exact fun e => h (by simp [e])
    have ih := indexByte_no (l := l) (c := c) (fun h' => h (by simp [h']))
    unfold Lib.indexByte
    rw [hb, ih]
    rfl
theorem indexByte_at {c : UInt8} (r : List UInt8) : ∀ {l : List UInt8}, c ∉ l → Lib.indexByte (l ++ c :: r) c = l.length
  | [], _ => by simp [Lib.indexByte]
  | b :: l, h => by
    have hb : (b == c) = false := by rw [beq_eq_false_iff_ne]; exact fun e => h (by simp [e])
    have ih := indexByte_at r (l := l) (c := c) (fun h' => h (by simp [h']))
    rw [List.cons_append]
    unfold Lib.indexByte
    rw [hb, ih]
    have : (((l.length : Nat) : Int) == -1) = false := by rw [beq_eq_false_iff_ne]; omega
    rw [this]
    simp
theorem indexB_one (l : List UInt8) (c : UInt8) : Lib.indexB (ba l) ⟨#[c]⟩ = Lib.indexByte l c := by
  show Lib.index (ba l).data.toList [c] = _
  rw [ba_data, Lib.index_one]
theorem words_none {l : List UInt8} (h : (32 : UInt8) ∉ l) : wordsS (ba l) = [ba l] := by
  unfold wordsS
  exact Lib.splitB_miss _ _ _ _ (by rw [indexB_one, indexByte_no h])
theorem words_some {a : List UInt8} (b : List UInt8) (h : (32 : UInt8) ∉ a) : wordsS (ba (a ++ 32 :: b)) = ba a :: wordsS (ba b) := by
  have hi : Lib.indexB (ba (a ++ 32 :: b)) ⟨#[32]⟩ = (a.length : Nat) := by rw [indexB_one, indexByte_at b h]
  have he : (ba (a ++ 32 :: b)).extract (a.length + (⟨#[32]⟩ : ByteArray).size) (ba (a ++ 32 :: b)).size = ba b := by
    rw [ba_extract, ba_size, List.take_length]
    congr 1
    rw [show a ++ 32 :: b = (a ++ [32]) ++ b by simp, show a.length + (⟨#[32]⟩ : ByteArray).size = (a ++ [32]).length by simp; rfl, List.drop_left]
  unfold wordsS
  have h1 : 1 ≤ (⟨#[32]⟩ : ByteArray).size := Nat.le_refl 1
  rw [Lib.countB_hit _ _ _ h1 hi, he, Nat.add_comm 1, Lib.splitB_hit _ _ _ _ _ hi, he]
  congr 1
  rw [ba_extract]
  congr 1
  simp
theorem has_split : ∀ {l : List UInt8}, (32 : UInt8) ∈ l → ∃ a b, l = a ++ 32 :: b ∧ (32 : UInt8) ∉ a
  | x :: l, h => by
    by_cases hx : x = 32
    · exact ⟨[], l, by simp [hx], by simp⟩
    · obtain ⟨a, b, e, ha⟩ := has_split (l := l) (by simpa [show ¬ (32 : UInt8) = x from fun e => hx e.symm] using h)
      exact ⟨x :: a, b, by simp [e], by simp [show ¬ (32 : UInt8) = x from fun e => hx e.symm, ha]⟩
/-! bytes -/
theorem bt_nat (s : ByteArray) (i : Nat) (h : i < s.size) : bt s (i : Int) = ((s[i]'h).toNat : Int) := by
  unfold bt
  simp [h]
theorem w64 {n : Int} (h0 : -9223372036854775808 ≤ n) (h1 : n ≤ 9223372036854775807) : wrap64 n = n := IntWalk.wrap64_in n ⟨h0, h1⟩
theorem bt_range (s : ByteArray) (i : Int) : 0 ≤ bt s i ∧ bt s i ≤ 255 := by
  unfold bt
  split
  · rename_i h
    have := UInt8.toNat_lt (s[i.toNat]'h)
    omega
  · omega
end Go.Proofs.YtdbokcgjdkbknaaDoor.PSa
