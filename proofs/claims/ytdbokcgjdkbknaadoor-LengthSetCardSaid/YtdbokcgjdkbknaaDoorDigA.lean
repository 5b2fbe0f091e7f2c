/- Hand walks: digits.digit, digits.number. -/
import Derived.Test.YtdbokcgjdkbknaaDoorProg
import Derived.WalkKit
import Derived.Below
import Derived.Lib.Hide
import Derived.Lib.Bytealg
import Derived.Laws.RangeAny
import Derived.Deep.LoopGhost
import Derived.Outline
import Derived.WalkSpells
import Derived.Lib.Walk
import Derived.Lib.Strings
import Derived.BigCall
namespace Go.Proofs.YtdbokcgjdkbknaaDoor.Hand
open Go.RowKit
set_option linter.unusedVariables false
set_option linter.unusedSimpArgs false

theorem toList_eq (s : ByteArray) : s.toList = s.data.toList := Lib.toList_data s
theorem empty_yes {s : ByteArray} (h : s.data.toList = []) : s.toList.isEmpty = true := by rw [toList_eq, h]; rfl
theorem empty_no {s : ByteArray} (h : ¬ s.data.toList = []) : s.toList.isEmpty = false := by
  rw [toList_eq]; cases e : s.data.toList with
  | nil => exact absurd e h
  | cons a l => rfl
theorem drop_cons (s : ByteArray) (k : Nat) (h : k < s.size) : s.data.toList.drop k = s[k] :: s.data.toList.drop (k + 1) := by
  rw [List.drop_eq_getElem_cons (by simpa using h)]; rfl
theorem Below.iter (w : World) (s : ByteArray) (p : Nat) : Below w.heap.size w (w.iter s p) := (Below.refl _ _).alloc (Nat.le_refl _) _

/-! digits.digit -/
def dig (c : Int) : Int := if 48 ≤ c ∧ c ≤ 57 then c - 48 else if 97 ≤ c ∧ c ≤ 102 then c - 97 + 10 else if 65 ≤ c ∧ c ≤ 70 then c - 65 + 10 else -1
theorem dig_lt (c : Int) : -1 ≤ dig c ∧ dig c ≤ 15 := by unfold dig; repeat' split <;> omega
theorem dig_hi (c : Int) (h : 128 ≤ c) : dig c = -1 := by unfold dig; repeat' split <;> omega
set_option maxHeartbeats 400000 in
theorem digit_calls (r : Int) (w : World) (h0 : 0 ≤ r) (h1 : r ≤ 2147483647) :
    Calls Tryd.prog 82 #[.int .i32 r] w fun e w' => e = .returned (.int .i64 (dig r)) ∧ w = w' := by
  by_cases a : 48 ≤ r ∧ r ≤ 57
  · have hd : dig r = r - 48 := by unfold dig; simp [a]
    rw [hd]; clear hd
    obtain ⟨a1, a2⟩ := a
    go_enter Tryd.func82, Tryd.ntmps82
    go_wp2
    go_ret
    simp
  by_cases b : 97 ≤ r ∧ r ≤ 102
  · have hd : dig r = r - 97 + 10 := by unfold dig; simp [a, b]
    rw [hd]; clear hd
    obtain ⟨a1, a2⟩ := b
    go_enter Tryd.func82, Tryd.ntmps82
    go_wp2 <;> go_ret <;> simp
  by_cases c : 65 ≤ r ∧ r ≤ 70
  · have hd : dig r = r - 65 + 10 := by unfold dig; simp [a, b, c]
    rw [hd]; clear hd
    obtain ⟨a1, a2⟩ := c
    go_enter Tryd.func82, Tryd.ntmps82
    go_wp2 <;> go_ret <;> simp
  · have hd : dig r = -1 := by unfold dig; simp [a, b, c]
    rw [hd]; clear hd
    go_enter Tryd.func82, Tryd.ntmps82
    go_wp2 <;> first | (go_ret; simp; done) | omega

/-! digits.number -/
def numL (base most : Int) : List UInt8 → Int → Bool → Int × Int
  | [], n, over => if over then (0, 5) else (n, 0)
  | c :: l, n, over =>
    if dig c.toNat < 0 ∨ base ≤ dig c.toNat then (0, 3)
    else if over = true ∨ most < dig c.toNat ∨ (most - dig c.toNat) / base < n then numL base most l n true
    else numL base most l (n * base + dig c.toNat) false

theorem num_bad {base most n : Int} {over : Bool} {c : UInt8} {l : List UInt8} (h : dig c.toNat < 0 ∨ base ≤ dig c.toNat) : numL base most (c :: l) n over = (0, 3) := by simp only [numL]; rw [if_pos h]
theorem num_over {base most n : Int} {over : Bool} {c : UInt8} {l : List UInt8} (h : ¬ (dig c.toNat < 0 ∨ base ≤ dig c.toNat)) (h2 : over = true ∨ most < dig c.toNat ∨ (most - dig c.toNat) / base < n) : numL base most (c :: l) n over = numL base most l n true := by rw [numL, if_neg h, if_pos h2]
theorem num_ok {base most n : Int} {over : Bool} {c : UInt8} {l : List UInt8} (h : ¬ (dig c.toNat < 0 ∨ base ≤ dig c.toNat)) (h2 : ¬ (over = true ∨ most < dig c.toNat ∨ (most - dig c.toNat) / base < n)) : numL base most (c :: l) n over = numL base most l (n * base + dig c.toNat) false := by rw [numL, if_neg h, if_neg h2]
theorem num_bd {base most n d : Int} (hb : base = 10 ∨ base = 16) (hn0 : 0 ≤ n) (h0 : ¬ d < 0) (h1 : ¬ base ≤ d) (h2 : ¬ most < d) (h3 : ¬ (most - d) / base < n) (hm1 : most ≤ 4611686018427387904) : 0 ≤ n * base ∧ 0 ≤ n * base + d ∧ n * base + d ≤ most := by
  rcases hb with rfl | rfl <;> omega

set_option maxHeartbeats 400000 in
theorem number_calls (s : ByteArray) (base most : Int) (w : World) (hs : s.size ≤ maxLen) (hb : base = 10 ∨ base = 16) (hm0 : 0 ≤ most) (hm1 : most ≤ 4611686018427387904) :
    Calls Tryd.prog 59 #[.string s, .int .i64 base, .int .i64 most] w fun e w' =>
      e = .returned (.tuple #[.int .i64 (if s.data.toList = [] then (0, 2) else numL base most s.data.toList 0 false).1, .int .i64 (if s.data.toList = [] then (0, 2) else numL base most s.data.toList 0 false).2]) ∧ Below w.heap.size w w' := by
  unfold maxLen at hs
  by_cases hz : s.data.toList = []
  · rw [if_pos hz]
    have hz0 := empty_yes hz
    clear hz
    go_enter Tryd.func59, Tryd.ntmps59
    go_wp2
    go_ret2
    exact ⟨rfl, Below.refl _ _⟩
  · rw [if_neg hz]
    obtain ⟨R, hR⟩ : ∃ R, numL base most s.data.toList 0 false = R := ⟨_, rfl⟩
    rw [hR]
    have hR' := Lib.hid hR
    clear hR
    have hz0 := empty_no hz
    clear hz
    go_enter Tryd.func59, Tryd.ntmps59
    go_wp2
    go_loopw [8, 9] (fun vn vo w' => ∃ (pos : Nat) (n : Int) (over : Bool), pos ≤ s.size ∧ w' = w.iter s pos ∧ vn = .int .i64 n ∧ vo = .bool over ∧ 0 ≤ n ∧ n ≤ most ∧ Hid (numL base most (s.data.toList.drop pos) n over = R)) (fun _ _ w' => s.size - w'.iterPos w.heap.size)
    case atStart => exact ⟨0, 0, false, Nat.zero_le _, rfl, rfl, rfl, Int.le_refl _, hm0, hR'⟩
    case round =>
      clear hR'
      obtain ⟨pos, n, over, hpos, rfl, rfl, rfl, hn0, hn1, hR⟩ := hrel
      by_cases hp : pos < s.size
      · by_cases ha : (s[pos]'hp).toNat < 128
        · have hnx : ∀ ty, (Instr.next (.pointer (some ⟨w.heap.size, 0, none⟩)) true ty).run Tryd.prog (w.iter s pos) = _ := fun ty => run_next_ascii w s pos ty hp ha
          have hx := dig_lt (s[pos]'hp).toNat
          have hR2 := hR.out
          rw [drop_cons s pos hp] at hR2
          clear hR
          by_cases hg : dig (s[pos]'hp).toNat < 0 ∨ base ≤ dig (s[pos]'hp).toNat
          · have hR3 := Lib.hid ((num_bad hg).symm.trans hR2)
            clear hR2
            by_cases hg0 : dig (s[pos]'hp).toNat < 0
            · clear hg
              go_wp2_with (go_at_call 82; refine (digit_calls _ _ (by omega) (by omega)).mono ?_; rintro e w' ⟨rfl, rfl⟩)
              go_ret2
              exact ⟨by rw [← hR3.out]; rfl, Below.iter _ _ _⟩
            · have hg1 : base ≤ dig (s[pos]'hp).toNat := hg.resolve_left hg0
              clear hg
              go_wp2_with (go_at_call 82; refine (digit_calls _ _ (by omega) (by omega)).mono ?_; rintro e w' ⟨rfl, rfl⟩)
              go_ret2
              exact ⟨by rw [← hR3.out]; rfl, Below.iter _ _ _⟩
          · have hg0 : ¬ dig (s[pos]'hp).toNat < 0 := fun h => hg (.inl h)
            have hg1 : ¬ base ≤ dig (s[pos]'hp).toNat := fun h => hg (.inr h)
            by_cases hv : over = true ∨ most < dig (s[pos]'hp).toNat ∨ (most - dig (s[pos]'hp).toNat) / base < n
            · have hR3 := Lib.hid ((num_over hg hv).symm.trans hR2)
              clear hR2 hg
              by_cases hv0 : over = true
              · subst hv0
                clear hv
                go_wp2_with (go_at_call 82; refine (digit_calls _ _ (by omega) (by omega)).mono ?_; rintro e w' ⟨rfl, rfl⟩)
                go_roundw
                case rel => exact ⟨pos + 1, n, true, by omega, rfl, rfl, rfl, hn0, hn1, hR3⟩
                case measure => simp; omega
              have hv0 : over = false := by cases over <;> simp_all
              subst hv0
              by_cases hv1 : most < dig (s[pos]'hp).toNat
              · clear hv
                go_wp2_with (go_at_call 82; refine (digit_calls _ _ (by omega) (by omega)).mono ?_; rintro e w' ⟨rfl, rfl⟩)
                go_roundw
                case rel => exact ⟨pos + 1, n, true, by omega, rfl, rfl, rfl, hn0, hn1, hR3⟩
                case measure => simp; omega
              · have hv2 : (most - dig (s[pos]'hp).toNat) / base < n := by rcases hv with h | h | h; exact absurd h (by decide); exact absurd h hv1; exact h
                have hv3 : decide (most < dig (s[pos]'hp).toNat) = false := decide_eq_false hv1
                have hv4 : decide ((most - dig (s[pos]'hp).toNat) / base < n) = true := decide_eq_true hv2
                clear hv
                go_wp2_with (go_at_call 82; refine (digit_calls _ _ (by omega) (by omega)).mono ?_; rintro e w' ⟨rfl, rfl⟩)
                go_roundw
                case rel => exact ⟨pos + 1, n, true, by omega, rfl, rfl, rfl, hn0, hn1, hR3⟩
                case measure => simp; omega
            · have hv0 : over = false := by cases over <;> simp_all
              subst hv0
              have hv1 : ¬ most < dig (s[pos]'hp).toNat := fun h => hv (.inr (.inl h))
              have hv2 : ¬ (most - dig (s[pos]'hp).toNat) / base < n := fun h => hv (.inr (.inr h))
              have hR3 := Lib.hid ((num_ok hg hv).symm.trans hR2)
              have hbd := num_bd hb hn0 hg0 hg1 hv1 hv2 hm1
              have hv3 : decide (most < dig (s[pos]'hp).toNat) = false := decide_eq_false hv1
              have hv4 : decide ((most - dig (s[pos]'hp).toNat) / base < n) = false := decide_eq_false hv2
              clear hR2 hg hv
              go_wp2_with (go_at_call 82; refine (digit_calls _ _ (by omega) (by omega)).mono ?_; rintro e w' ⟨rfl, rfl⟩)
              go_roundw
              case rel => exact ⟨pos + 1, _, false, by omega, rfl, rfl, rfl, hbd.2.1, hbd.2.2, hR3⟩
              case measure => simp; omega
        · have hnx : ∀ ty, (Instr.next (.pointer (some ⟨w.heap.size, 0, none⟩)) true ty).run Tryd.prog (w.iter s pos) = _ := fun ty => run_next_any w s pos ty hp
          have hh := decode_high s pos hp (by omega)
          have hl := decode_le s pos
          have hR2 := hR.out
          rw [drop_cons s pos hp] at hR2
          clear hR
          have hg : dig (s[pos]'hp).toNat < 0 ∨ base ≤ dig (s[pos]'hp).toNat := .inl (by rw [dig_hi _ (by omega)]; omega)
          have hR3 := Lib.hid ((num_bad hg).symm.trans hR2)
          have hdg := dig_hi (Utf8.decode s pos).1 (by omega)
          clear hR2 hg
          go_wp2_with (go_at_call 82; refine (digit_calls _ _ (by omega) (by omega)).mono ?_; rintro e w' ⟨rfl, rfl⟩)
          all_goals go_ret2
          all_goals exact ⟨by rw [← hR3.out]; rfl, Below.iter _ _ _⟩
      · have hnx : ∀ ty, (Instr.next (.pointer (some ⟨w.heap.size, 0, none⟩)) true ty).run Tryd.prog (w.iter s pos) = _ := fun ty => run_next_end w s pos ty hp
        have hR2 := hR.out
        rw [List.drop_of_length_le (by simp; omega)] at hR2
        clear hR
        have hR3 := Lib.hid hR2
        clear hR2
        cases over
        all_goals
          go_wp2
          go_ret2
          exact ⟨by rw [← hR3.out]; rfl, Below.iter _ _ _⟩

/-- The result of digits.number. -/
def numS (base most : Int) (s : ByteArray) : Int × Int := if s.data.toList = [] then (0, 2) else numL base most s.data.toList 0 false

end Go.Proofs.YtdbokcgjdkbknaaDoor.Hand
