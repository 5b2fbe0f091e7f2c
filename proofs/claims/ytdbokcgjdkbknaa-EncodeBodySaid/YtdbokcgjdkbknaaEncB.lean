/- Hand walks: encode.cuts, and what it hands back as an iterator. -/
import Derived.Test.YtdbokcgjdkbknaaKinds
import Derived.RangeFuncNested
import Derived.RangeFuncBound
import Derived.RangeFuncCalls
import Derived.RangeFuncLeaves
import Derived.RangeFuncFrom
import Derived.Shelf.Abstract
import Derived.Shelf.RegionOpen
import Derived.WalkKit
import Derived.OwnWalkIn
import Derived.TacticsInMore
import Derived.LoopNIn
import Derived.LoopIn
import Derived.Lib.Hide
namespace Go.Proofs.Ytdbokcgjdkbknaa.Hand
open Go.RowKit Go.Shelf Go.Proofs.YtdbokcgjdkbknaaW.PrintWords Go.Proofs.YtdbokcgjdkbknaaW.PrintLast Go.Proofs.YtdbokcgjdkbknaaW.PrintMore
set_option linter.unusedVariables false
set_option linter.unusedSimpArgs false
def cutL : List Int → Int → Option Int
  | [], left => some left
  | n :: l, left => if n < 1 ∨ left < n then none else cutL l (left - n)
theorem cutL_bad {n : Int} {l : List Int} {left : Int} (h : n < 1 ∨ left < n) : cutL (n :: l) left = none := by rw [cutL, if_pos h]
theorem cutL_ok {n : Int} {l : List Int} {left : Int} (h : ¬ (n < 1 ∨ left < n)) : cutL (n :: l) left = cutL l (left - n) := by rw [cutL, if_neg h]
theorem int_at {w W : World} {A : Option Addr} {xs : List Int} (h : Kd.C (Kd.int .i64) w A xs.length xs) (hb : Below w.heap.size w W) (k : Nat) (hk : k < xs.length) :
    ∃ ad, A = some ad ∧ W.cell? (ad.add k) = some (.int .i64 (xs[k]'hk)) := by
  obtain ⟨ad, c, e, hc, hK, hc0⟩ := Kd.C_get h (0 : Int) (k : Int) (by omega) (by omega)
  refine ⟨ad, e, ?_⟩
  have hK' : c = [.int .i64 (xs.getD (k : Int).toNat 0)] := by first | exact hK | exact hK.1
  subst hK'
  have := hc0 0 _ rfl
  have h2 : w.cell? (ad.add k) = some (.int .i64 (xs.getD k 0)) := by simpa [Kd.int, Kd.scalar] using this
  rw [pw_cell_below hb h2]
  simp [List.getD_eq_getElem?_getD, hk]
def cutsEnd (b : Nat) : Option Int → Ending
  | none => .returned (.tuple #[.nilFunc, .bool false])
  | some left => .returned (.tuple #[.func (.func 68) #[] #[.pointer (some ⟨b, 0, none⟩), .pointer (some ⟨b + 1, 0, none⟩)], .bool (left == 0)])
set_option maxHeartbeats 1000000 in
theorem cuts_calls (s : ByteArray) (A : Option Addr) (c : Nat) (l : List Int) (w : World) (hr : Kd.C (Kd.int .i64) w A l.length l) (hc : l.length ≤ c) (hlen : l.length ≤ 140737488355328) (hs : s.size ≤ 140737488355328) :
    Calls Try.prog 38 #[.string s, .slice A l.length c] w fun e w' =>
      e = cutsEnd w.heap.size (cutL l s.size) ∧
        w' = (w.alloc (.cells #[.string s] 9)).alloc (.cells #[.slice A l.length c] 24) := by
  obtain ⟨R, hR⟩ : ∃ R, cutL l s.size = R := ⟨_, rfl⟩
  rw [hR]
  have hR' := Lib.hid hR
  have hr' := Lib.hid hr
  clear hR hr
  go_enter Try.func38, Try.ntmps38
  go_wp2
  go_loop [6, 13] (fun vl vi => ∃ (k : Nat) (j : Int), k ≤ l.length ∧ vi = .int .i64 k ∧ vl = .int .i64 j ∧ 0 ≤ j ∧ j ≤ 140737488355328 ∧ Hid (cutL (l.drop k) j = R)) (fun _ vi => l.length - (intOf vi).toNat)
  case atStart => exact ⟨0, _, by omega, rfl, rfl, by omega, by omega, hR'⟩
  case round =>
    clear hR'
    obtain ⟨k, j, hk, rfl, rfl, hj0, hj1, hI⟩ := hrel
    by_cases hlt : k < l.length
    · have hI2 := hI.out
      rw [List.drop_eq_getElem_cons hlt] at hI2
      clear hI
      obtain ⟨ad, rfl, hcell⟩ := int_at hr'.out (((Below.refl _ w).alloc (Nat.le_refl _) (.cells #[.string s] 9)).alloc (by simp) (.cells #[.slice A l.length c] 24)) k hlt
      generalize l[k]'hlt = n at hI2 hcell
      by_cases hbad : n < 1 ∨ j < n
      · rw [cutL_bad hbad] at hI2
        have hI3 := Lib.hid hI2
        clear hI2
        rcases hbad with hb | hb
        · go_wp2
          go_ret2
          exact ⟨by rw [← hI3.out]; rfl, rfl⟩
        · go_wp2
          all_goals
            go_ret2
            exact ⟨by rw [← hI3.out]; rfl, rfl⟩
      · rw [cutL_ok hbad] at hI2
        have hI3 := Lib.hid hI2
        clear hI2
        have h1 : ¬ n < 1 := fun h => hbad (.inl h)
        have h2 : ¬ j < n := fun h => hbad (.inr h)
        have h3 : 1 ≤ n := by omega
        have h4 : n ≤ j := by omega
        clear hbad
        go_wp2
        go_round
        case rel => exact ⟨k + 1, j - n, by omega, by go_num, rfl, by omega, by omega, hI3⟩
        case measure => simp [intOf]; omega
    · have hI2 := hI.out
      rw [List.drop_of_length_le (by omega)] at hI2
      have hI3 := Lib.hid hI2
      clear hI hI2
      go_wp2
      go_ret2
      exact ⟨by rw [← hI3.out]; rfl, rfl⟩
/-- What the iterator gives: the pieces. -/
def pieces : List Int → ByteArray → List ByteArray
  | [], _ => []
  | n :: l, s => s.extract 0 n.toNat :: pieces l (s.extract n.toNat s.size)
/-- What is left of a text when k pieces have come. -/
def restP : List Int → ByteArray → Nat → ByteArray
  | _, s, 0 => s
  | [], s, _ + 1 => s
  | n :: l, s, k + 1 => restP l (s.extract n.toNat s.size) k
end Go.Proofs.Ytdbokcgjdkbknaa.Hand
