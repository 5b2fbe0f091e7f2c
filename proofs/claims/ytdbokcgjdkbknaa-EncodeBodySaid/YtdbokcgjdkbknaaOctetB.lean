/- Hand walks: octet.tchar, Token, Value, Visible. -/
import Derived.Test.YtdbokcgjdkbknaaOctet
import Derived.Deep.QuietTactic
import Derived.BigQuiet
namespace Go.Proofs.Ytdbokcgjdkbknaa.Hand
open Go.RowKit Go.Proofs.YtdbokcgjdkbknaaW.PrintWords
set_option linter.unusedVariables false
set_option linter.unusedSimpArgs false
namespace Oct
def marks : List UInt8 := [33, 35, 36, 37, 38, 39, 42, 43, 45, 46, 94, 95, 96, 124, 126]
def tcharI (r : Int) : Bool := decide ((97 ≤ r ∧ r ≤ 122) ∨ (65 ≤ r ∧ r ≤ 90) ∨ (48 ≤ r ∧ r ≤ 57)) || marks.any fun m => (m.toNat : Int) == r
def valueI (r : Int) : Bool := r == 9 || (decide (32 ≤ r) && r != 127)
def visibleI (r : Int) : Bool := decide (32 < r) && decide (r < 127)
theorem tcharI_hi (r : Int) (h : 128 ≤ r) : tcharI r = false := by
  unfold tcharI
  have : decide ((97 ≤ r ∧ r ≤ 122) ∨ (65 ≤ r ∧ r ≤ 90) ∨ (48 ≤ r ∧ r ≤ 57)) = false := by simp only [decide_eq_false_iff_not]; omega
  rw [this, Bool.false_or]
  simp [marks]
  omega
theorem valueI_hi (r : Int) (h : 128 ≤ r) : valueI r = true := by unfold valueI; simp; omega
theorem visibleI_hi (r : Int) (h : 128 ≤ r) : visibleI r = false := by unfold visibleI; simp; omega
theorem mark_low (i : Nat) (h : i < 15) : (((⟨#[33, 35, 36, 37, 38, 39, 42, 43, 45, 46, 94, 95, 96, 124, 126]⟩ : ByteArray)[i]'h).toNat) < 128 := by
  have : ∀ i : Fin 15, (((⟨#[33, 35, 36, 37, 38, 39, 42, 43, 45, 46, 94, 95, 96, 124, 126]⟩ : ByteArray)[i.val]'i.isLt).toNat) < 128 := by decide
  exact this ⟨i, h⟩
theorem mark_drop (i : Nat) (h : i < 15) (r : Int) : ((marks.drop i).any fun m => (m.toNat : Int) == r) = ((((⟨#[33, 35, 36, 37, 38, 39, 42, 43, 45, 46, 94, 95, 96, 124, 126]⟩ : ByteArray)[i]'h).toNat : Int) == r || ((marks.drop (i + 1)).any fun m => (m.toNat : Int) == r)) := by
  rw [List.drop_eq_getElem_cons (by exact h), List.any_cons]
  rfl
set_option maxHeartbeats 1000000 in
set_option maxRecDepth 100000 in
theorem tchar_calls (r : Int) (w : World) (h0 : 0 ≤ r) (h1 : r ≤ 2147483647) :
    Calls Try.prog 98 #[.int .i32 r] w fun e w' => e = .returned (.bool (tcharI r)) ∧ Below w.heap.size w w' := by
  by_cases hal : (97 ≤ r ∧ r ≤ 122) ∨ (65 ≤ r ∧ r ≤ 90) ∨ (48 ≤ r ∧ r ≤ 57)
  · have e : tcharI r = true := by unfold tcharI; rw [decide_eq_true hal]; rfl
    rw [e]
    clear e
    rcases hal with h | h | h
    all_goals
      obtain ⟨g1, g2⟩ := h
      go_enter Try.func98, Try.ntmps98
      go_wp2 <;> (go_ret; exact ⟨by first | rfl | (simp; done) | (simp; omega), Below.refl _ _⟩)
  · have e : tcharI r = marks.any fun m => (m.toNat : Int) == r := by unfold tcharI; rw [decide_eq_false hal]; rfl
    rw [e]
    clear e
    obtain ⟨R, hR⟩ : ∃ R, (marks.any fun m => (m.toNat : Int) == r) = R := ⟨_, rfl⟩
    rw [hR]
    have hR' := Lib.hid hR
    have n1 : ¬ (97 ≤ r ∧ r ≤ 122) := fun h => hal (.inl h)
    have n2 : ¬ (65 ≤ r ∧ r ≤ 90) := fun h => hal (.inr (.inl h))
    have n3 : ¬ (48 ≤ r ∧ r ≤ 57) := fun h => hal (.inr (.inr h))
    clear hR hal
    go_enter Try.func98, Try.ntmps98
    go_wp2
    all_goals
      go_loopw [] (fun w' => ∃ pos : Nat, pos ≤ 15 ∧ w' = w.iter ⟨#[33, 35, 36, 37, 38, 39, 42, 43, 45, 46, 94, 95, 96, 124, 126]⟩ pos ∧ Hid (((marks.drop pos).any fun m => (m.toNat : Int) == r) = R)) (fun w' => 15 - w'.iterPos w.heap.size)
      case atStart => exact ⟨0, by omega, rfl, hR'⟩
      case round =>
        clear hR'
        obtain ⟨pos, hpos, rfl, hR⟩ := hrel
        by_cases hp : pos < 15
        · have hnx : ∀ ty, (Instr.next (.pointer (some ⟨w.heap.size, 0, none⟩)) true ty).run Try.prog (w.iter ⟨#[33, 35, 36, 37, 38, 39, 42, 43, 45, 46, 94, 95, 96, 124, 126]⟩ pos) = _ := fun ty => run_next_ascii w ⟨#[33, 35, 36, 37, 38, 39, 42, 43, 45, 46, 94, 95, 96, 124, 126]⟩ pos ty hp (mark_low pos hp)
          have hR2 := hR.out
          rw [mark_drop pos hp] at hR2
          clear hR
          cases hx : ((((⟨#[33, 35, 36, 37, 38, 39, 42, 43, 45, 46, 94, 95, 96, 124, 126]⟩ : ByteArray)[pos]'hp).toNat : Int) == r)
          · rw [hx, Bool.false_or] at hR2
            have hR3 := Lib.hid hR2
            clear hR2
            go_wp2
            go_roundw
            case rel => exact ⟨pos + 1, by omega, rfl, hR3⟩
            case measure => simp; omega
          · rw [hx, Bool.true_or] at hR2
            have hR3 := Lib.hid hR2
            clear hR2
            go_wp2
            go_ret
            exact ⟨by rw [← hR3.out]; simp, Below.iter _ _ _⟩
        · obtain rfl : pos = 15 := by omega
          have hnx : ∀ ty, (Instr.next (.pointer (some ⟨w.heap.size, 0, none⟩)) true ty).run Try.prog (w.iter ⟨#[33, 35, 36, 37, 38, 39, 42, 43, 45, 46, 94, 95, 96, 124, 126]⟩ 15) = _ := fun ty => run_next_end w ⟨#[33, 35, 36, 37, 38, 39, 42, 43, 45, 46, 94, 95, 96, 124, 126]⟩ 15 ty hp
          have hR3 : Hid (R = false) := hR.out.symm
          clear hR
          go_wp2
          go_ret
          exact ⟨by rw [hR3.out]; simp, Below.iter _ _ _⟩
set_option maxHeartbeats 400000 in
theorem value1_calls (r : Int) (w : World) (h0 : 0 ≤ r) (h1 : r ≤ 2147483647) :
    Calls Try.prog 99 #[.int .i32 r] w fun e w' => e = .returned (.bool (valueI r)) ∧ Below w.heap.size w w' := by
  cases a : (r == 9)
  · by_cases b : 32 ≤ r
    · have e : valueI r = (r != 127) := by unfold valueI; rw [a, decide_eq_true b]; rfl
      rw [e]
      cases c : (r != 127)
      all_goals
        go_enter Try.func99, Try.ntmps99
        go_wp2
        go_ret
        exact ⟨rfl, Below.refl _ _⟩
    · have e : valueI r = false := by unfold valueI; rw [a, decide_eq_false b]; rfl
      rw [e]
      go_enter Try.func99, Try.ntmps99
      go_wp2
      go_ret
      exact ⟨rfl, Below.refl _ _⟩
  · have e : valueI r = true := by unfold valueI; rw [a]; rfl
    rw [e]
    go_enter Try.func99, Try.ntmps99
    go_wp2
    go_ret
    exact ⟨rfl, Below.refl _ _⟩
def tokenS (s : ByteArray) : Bool := !s.toList.isEmpty && s.data.toList.all fun c => tcharI c.toNat
def valueS (s : ByteArray) : Bool := s.data.toList.all fun c => valueI c.toNat
set_option maxHeartbeats 400000 in
theorem Token_calls (s : ByteArray) (w : World) :
    Calls Try.prog 69 #[.string s] w fun e w' => e = .returned (.bool (tokenS s)) ∧ Below w.heap.size w w' := by
  have c := all_calls s 98 #[] tcharI false w (fun W r h0 h1 => tchar_calls r W h0 h1) tcharI_hi (enters_of Try.func98 (by kernel_rfl) rfl)
  unfold tokenS
  by_cases he : s.toList = []
  · have he' : s.toList.isEmpty = true := by rw [he]; rfl
    rw [he']
    clear c he
    go_enter Try.func69, Try.ntmps69
    go_wp2
    go_ret
    exact ⟨rfl, Below.refl _ _⟩
  · have he' : s.toList.isEmpty = false := by cases h : s.toList <;> simp_all
    rw [he']
    obtain ⟨R, hR⟩ : ∃ R, (s.data.toList.all fun c => tcharI c.toNat) = R := ⟨_, rfl⟩
    rw [hR] at c ⊢
    clear he hR
    go_enter Try.func69, Try.ntmps69
    go_wp2_with (go_at_call 97; refine c.mono ?_; rintro e w' ⟨rfl, hb⟩)
    go_ret
    exact ⟨by first | rfl | simp, hb⟩
set_option maxHeartbeats 400000 in
theorem Value_calls (s : ByteArray) (w : World) :
    Calls Try.prog 70 #[.string s] w fun e w' => e = .returned (.bool (valueS s)) ∧ Below w.heap.size w w' := by
  have c := all_calls s 99 #[] valueI true w (fun W r h0 h1 => value1_calls r W h0 h1) valueI_hi (enters_of Try.func99 (by kernel_rfl) rfl)
  unfold valueS
  obtain ⟨R, hR⟩ : ∃ R, (s.data.toList.all fun c => valueI c.toNat) = R := ⟨_, rfl⟩
  rw [hR] at c ⊢
  clear hR
  go_enter Try.func70, Try.ntmps70
  go_wp2_with (go_at_call 97; refine c.mono ?_; rintro e w' ⟨rfl, hb⟩)
  go_ret
  exact ⟨rfl, hb⟩
end Oct
def octet_Token.f (a0 : ByteArray) : Option Bool := some (Oct.tokenS a0)
theorem octet_Token.calls (a0 : ByteArray) (r : Bool) (w : World) (h : octet_Token.f a0 = some r) :
    Calls Try.prog 69 #[.string a0] w fun e w' => e = .returned (.bool r) ∧ Below w.heap.size w w' := by
  obtain rfl := Option.some.inj h
  exact Oct.Token_calls a0 w
def octet_Value.f (a0 : ByteArray) : Option Bool := some (Oct.valueS a0)
theorem octet_Value.calls (a0 : ByteArray) (r : Bool) (w : World) (h : octet_Value.f a0 = some r) :
    Calls Try.prog 70 #[.string a0] w fun e w' => e = .returned (.bool r) ∧ Below w.heap.size w w' := by
  obtain rfl := Option.some.inj h
  exact Oct.Value_calls a0 w
end Go.Proofs.Ytdbokcgjdkbknaa.Hand
