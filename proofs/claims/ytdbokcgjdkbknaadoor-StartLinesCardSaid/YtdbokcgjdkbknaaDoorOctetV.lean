/- Hand walk: octet.Visible. -/
import Derived.Test.YtdbokcgjdkbknaaDoorOctetB
namespace Go.Proofs.YtdbokcgjdkbknaaDoor.Hand
open Go.RowKit Go.Proofs.YtdbokcgjdkbknaaDoorW.PrintWords
set_option linter.unusedVariables false
set_option linter.unusedSimpArgs false
namespace Oct
set_option maxHeartbeats 400000 in
theorem visible1_calls (r : Int) (w : World) (h0 : 0 ≤ r) (h1 : r ≤ 2147483647) :
    Calls Tryd.prog 70 #[.int .i32 r] w fun e w' => e = .returned (.bool (visibleI r)) ∧ Below w.heap.size w w' := by
  by_cases a : 32 < r
  · have e : visibleI r = decide (r < 127) := by unfold visibleI; rw [decide_eq_true a]; rfl
    rw [e]
    go_enter Tryd.func70, Tryd.ntmps70
    go_wp2
    go_ret
    exact ⟨rfl, Below.refl _ _⟩
  · have e : visibleI r = false := by unfold visibleI; rw [decide_eq_false a]; rfl
    rw [e]
    go_enter Tryd.func70, Tryd.ntmps70
    go_wp2
    go_ret
    exact ⟨rfl, Below.refl _ _⟩
def visibleS (s : ByteArray) : Bool := !s.toList.isEmpty && s.data.toList.all fun c => visibleI c.toNat
set_option maxHeartbeats 400000 in
theorem Visible_calls (s : ByteArray) (w : World) :
    Calls Tryd.prog 45 #[.string s] w fun e w' => e = .returned (.bool (visibleS s)) ∧ Below w.heap.size w w' := by
  have c := all_calls s 70 #[] visibleI false w (fun W r h0 h1 => visible1_calls r W h0 h1) visibleI_hi (enters_of Tryd.func70 (by kernel_rfl) rfl)
  unfold visibleS
  by_cases he : s.toList = []
  · have he' : s.toList.isEmpty = true := by rw [he]; rfl
    rw [he']
    clear c he
    go_enter Tryd.func45, Tryd.ntmps45
    go_wp2
    go_ret
    exact ⟨rfl, Below.refl _ _⟩
  · have he' : s.toList.isEmpty = false := by cases h : s.toList <;> simp_all
    rw [he']
    obtain ⟨R, hR⟩ : ∃ R, (s.data.toList.all fun c => visibleI c.toNat) = R := ⟨_, rfl⟩
    rw [hR] at c ⊢
    clear he hR
    go_enter Tryd.func45, Tryd.ntmps45
    go_wp2_with (go_at_call 68; refine c.mono ?_; rintro e w' ⟨rfl, hb⟩)
    go_ret
    exact ⟨by first | rfl | simp, hb⟩
end Oct
def octet_Visible.f (a0 : ByteArray) : Option Bool := some (Oct.visibleS a0)
theorem octet_Visible.calls (a0 : ByteArray) (r : Bool) (w : World) (h : octet_Visible.f a0 = some r) :
    Calls Tryd.prog 45 #[.string a0] w fun e w' => e = .returned (.bool r) ∧ Below w.heap.size w w' := by
  obtain rfl := Option.some.inj h
  exact Oct.Visible_calls a0 w
end Go.Proofs.YtdbokcgjdkbknaaDoor.Hand
