/- Hand walk: digits.Text. -/
import Derived.Test.YtdbokcgjdkbknaaDoorDigF
import Derived.Laws.Concat
import Derived.BigQuiet
import Derived.Deep.QuietTactic
namespace Go.Proofs.YtdbokcgjdkbknaaDoor.Hand
open Go.RowKit Go.Proofs.YtdbokcgjdkbknaaDoorW.PrintWords
set_option linter.unusedVariables false
set_option linter.unusedSimpArgs false
def ba (l : List UInt8) : ByteArray := ⟨l.toArray⟩
theorem ba_size (l : List UInt8) : (ba l).size = l.length := by show l.toArray.size = _; simp
theorem ba_append (x y : List UInt8) : ba x ++ ba y = ba (x ++ y) := by unfold ba; rw [ByteArray.mk_append_mk]
def textL (n : Int) : List UInt8 := if n < 0 then 45 :: digL 10 n.natAbs else digL 10 n.natAbs
theorem digL_le : ∀ (k b n : Nat), 10 ≤ b → n < 10 ^ k → 1 ≤ k → (digL b n).length ≤ k
  | 0, _, _, _, _, h => absurd h (by omega)
  | k + 1, b, n, hb, hn, _ => by
    rw [digL]
    split
    · simp
    · rw [List.length_append]
      have h1 : n / b < 10 ^ k := by
        have : n / b ≤ n / 10 := Nat.div_le_div_left hb (by omega)
        rw [Nat.pow_succ] at hn
        omega
      cases k with
      | zero => simp at h1; omega
      | succ k =>
        have := digL_le (k + 1) b (n / b) hb h1 (by omega)
        simp
        omega
theorem digL_len {b : Nat} {n : Int} (hb : 10 ≤ b) (h0 : -9223372036854775808 ≤ n) (h1 : n ≤ 9223372036854775807) : (digL b n.natAbs).length ≤ 20 := digL_le 20 b _ hb (by omega) (by omega)
set_option maxHeartbeats 400000 in
theorem Text_calls (n : Int) (w : World) (h0 : -9223372036854775808 ≤ n) (h1 : n ≤ 9223372036854775807) :
    Calls Tryd.prog 38 #[.int .i64 n] w fun e w' => e = .returned (.string (ba (textL n))) ∧ Below w.heap.size w w' := by
  have hl := digL_len (b := 10) (by omega) h0 h1
  by_cases hn : n < 0
  · have e : ba (textL n) = ⟨#[45]⟩ ++ ba (digL 10 n.natAbs) := by unfold textL; rw [if_pos hn]; rfl
    rw [e]
    clear e
    obtain ⟨t, ht⟩ : ∃ t, ba (digL 10 n.natAbs) = t := ⟨_, rfl⟩
    have hts : t.size ≤ 20 := by rw [← ht, ba_size]; exact hl
    have H := Lib.hid ht
    rw [ht]
    clear ht hl
    go_enter Tryd.func38, Tryd.ntmps38
    go_wp2_with (go_at_call 65; refine (figures_calls _ _ _ (.inl rfl) h0 h1).mono ?_; rw [show (⟨(digL (Int.toNat 10) n.natAbs).toArray⟩ : ByteArray) = t from H.out]; rintro e w' ⟨rfl, hb⟩)
    go_ret
    exact ⟨rfl, hb⟩
  · have e : ba (textL n) = ba (digL 10 n.natAbs) := by unfold textL; rw [if_neg hn]
    rw [e]
    clear e
    obtain ⟨t, ht⟩ : ∃ t, ba (digL 10 n.natAbs) = t := ⟨_, rfl⟩
    have H := Lib.hid ht
    rw [ht]
    clear ht hl
    go_enter Tryd.func38, Tryd.ntmps38
    go_wp2_with (go_at_call 65; refine (figures_calls _ _ _ (.inl rfl) h0 h1).mono ?_; rw [show (⟨(digL (Int.toNat 10) n.natAbs).toArray⟩ : ByteArray) = t from H.out]; rintro e w' ⟨rfl, hb⟩)
    go_ret
    exact ⟨rfl, hb⟩
theorem textL_len {n : Int} (h0 : -9223372036854775808 ≤ n) (h1 : n ≤ 9223372036854775807) : (textL n).length ≤ 21 := by
  have := digL_len (b := 10) (by omega) h0 h1
  unfold textL
  split <;> simp <;> omega
def digits_Text.f (a0 : Int) : Option ByteArray := if -9223372036854775808 ≤ a0 ∧ a0 ≤ 9223372036854775807 then some (ba (textL a0)) else none
theorem digits_Text.calls (a0 : Int) (r : ByteArray) (w : World) (h : digits_Text.f a0 = some r) :
    Calls Tryd.prog 38 #[.int .i64 a0] w fun e w' => e = .returned (.string r) ∧ Below w.heap.size w w' := by
  unfold digits_Text.f at h
  split at h
  · rename_i hc
    obtain rfl := Option.some.inj h
    exact Text_calls a0 w hc.1 hc.2
  · exact absurd h (by simp)
end Go.Proofs.YtdbokcgjdkbknaaDoor.Hand
