/- Hand walk: digits.Pad at a width of three. -/
import Derived.Test.YtdbokcgjdkbknaaDoorDigT
import Derived.Test.YtdbokcgjdkbknaaDoorRepeatF
namespace Go.Proofs.YtdbokcgjdkbknaaDoor.Hand
open Go.RowKit Go.Proofs.YtdbokcgjdkbknaaDoorW.PrintWords Go.Proofs.YtdbokcgjdkbknaaDoorW.PrintLast Go.Proofs.YtdbokcgjdkbknaaDoorW.PrintMore
set_option linter.unusedVariables false
set_option linter.unusedSimpArgs false
attribute [local go_sem] max2_int min2_int
def padL (n : Int) (w : Nat) : List UInt8 := if n < 0 then textL n else List.replicate (w - (textL n).length) 48 ++ textL n
theorem repeat0 (m : Nat) : (Lib.repeatL [48] m) = List.replicate m (48 : UInt8) := by
  induction m with
  | zero => rfl
  | succ m ih => simp [Lib.repeatL, List.replicate_succ] at ih ⊢; exact ih
set_option maxHeartbeats 1000000 in
theorem Pad3_calls (n : Int) (w : World) (h0 : -9223372036854775808 ≤ n) (h1 : n ≤ 9223372036854775807) :
    Calls Tryd.prog 53 #[.int .i64 n, .int .i64 3] w fun e w' => e = .returned (.string (ba (padL n 3))) ∧ Below w.heap.size w w' := by
  have hl := textL_len h0 h1
  have cT := fun W => Text_calls n W h0 h1
  unfold padL
  generalize textL n = l at hl cT ⊢
  by_cases hn : n < 0
  · rw [if_pos hn]
    clear h0 h1
    go_enter Tryd.func53, Tryd.ntmps53
    go_wp2_with (go_at_call 38; refine (cT _).mono ?_; rintro e w1 ⟨rfl, hb⟩)
    go_ret
    exact ⟨rfl, hb⟩
  · rw [if_neg hn]
    have hz : (ba l).size = l.length := ba_size l
    have hz2 : (ba l).size ≤ 21 := by omega
    have cR := fun W => strings_Repeat.calls ⟨#[48]⟩ ((3 - (ba l).size : Nat) : Int) (ba (List.replicate (3 - (ba l).size) 48)) W (by
      unfold strings_Repeat.f
      rw [if_pos ⟨by omega, by omega, by rw [Int.toNat_natCast]; have : (⟨#[48]⟩ : ByteArray).size = 1 := rfl; rw [this]; omega⟩, Int.toNat_natCast]
      show some (⟨(Lib.repeatL [48] _).toArray⟩ : ByteArray) = _
      rw [repeat0]
      rfl)
    have e : ba (List.replicate (3 - l.length) 48 ++ l) = ba (List.replicate (3 - (ba l).size) 48) ++ ba l := by rw [ba_append, hz]
    rw [e]
    have hs : (ba (List.replicate (3 - (ba l).size) (48 : UInt8))).size ≤ 3 := by rw [ba_size, List.length_replicate]; omega
    clear e hz hl h0 h1
    generalize ba (List.replicate (3 - (ba l).size) 48) = r at cR hs ⊢
    generalize ba l = t at cT cR hz2 ⊢
    have hm : max 0 (min (max 3 0) 20 - (t.size : Int)) = ((3 - t.size : Nat) : Int) := by omega
    go_enter Tryd.func53, Tryd.ntmps53
    go_wp2_with (go_at_call 38; refine (cT _).mono ?_; rintro e w1 ⟨rfl, hb⟩)
    go_wp2_with (go_at_call 75; refine (cR _).mono ?_; rintro e w2 ⟨rfl, hb2⟩)
    go_ret
    exact ⟨rfl, hb.trans (hb2.mono hb.size)⟩
def digits_Pad.f (a0 a1 : Int) : Option ByteArray := if a1 = 3 ∧ -9223372036854775808 ≤ a0 ∧ a0 ≤ 9223372036854775807 then some (ba (padL a0 3)) else none
theorem digits_Pad.calls (a0 : Int) (a1 : Int) (r : ByteArray) (w : World) (h : digits_Pad.f a0 a1 = some r) :
    Calls Tryd.prog 53 #[.int .i64 a0, .int .i64 a1] w fun e w' => e = .returned (.string r) ∧ Below w.heap.size w w' := by
  unfold digits_Pad.f at h
  by_cases hc : a1 = 3 ∧ -9223372036854775808 ≤ a0 ∧ a0 ≤ 9223372036854775807
  · rw [if_pos hc] at h
    obtain rfl := Option.some.inj h
    obtain ⟨rfl, h0, h1⟩ := hc
    exact Pad3_calls a0 w h0 h1
  · rw [if_neg hc] at h
    cases h
end Go.Proofs.YtdbokcgjdkbknaaDoor.Hand
