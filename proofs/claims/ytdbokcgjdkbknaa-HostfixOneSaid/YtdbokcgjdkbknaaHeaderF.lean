/- The hand walks of package header, in the printer's form. -/
import Derived.Test.YtdbokcgjdkbknaaHeaderG
namespace Go.Proofs.Ytdbokcgjdkbknaa.Hand
open Go.RowKit Go.Proofs.YtdbokcgjdkbknaaW.PrintWords Go.Proofs.YtdbokcgjdkbknaaW.PrintLast Go.Proofs.YtdbokcgjdkbknaaW.PrintMore
set_option linter.unusedVariables false
set_option linter.unusedSimpArgs false
def smallB (l : List S61) : Bool := l.all fun x => decide (x.f0.size ≤ 140737488355328)
theorem small_of {l : List S61} (h : smallB l = true) : small l := fun x hm => of_decide_eq_true (List.all_eq_true.1 h x hm)
def shortB (l : List ByteArray) : Bool := l.all fun x => decide (x.size ≤ 140737488355328)
theorem short_of {l : List ByteArray} (h : shortB l = true) : ∀ n ∈ l, n.size ≤ 140737488355328 := fun x hm => of_decide_eq_true (List.all_eq_true.1 h x hm)

def header_Get.f (l0 : List S61) (a1 : ByteArray) : Option (ByteArray × Bool) := if l0.length ≤ 4398046511000 ∧ a1.size ≤ 140737488355328 ∧ smallB l0 = true then some (getS l0 a1) else none
theorem header_Get.calls (A0 : Option Addr) (c0 : Nat) (l0 : List (S61)) (a1 : ByteArray) (r1 : ByteArray) (r2 : Bool) (w : World) (hr0 : Kd.C k61 w A0 l0.length l0) (hc0 : l0.length ≤ c0) (h : header_Get.f l0 a1 = some (r1, r2)) :
    Calls Try.prog 33 #[.slice A0 l0.length c0, .string a1] w fun e w' => e = .returned (.tuple #[.string r1, .bool r2]) ∧ Below w.heap.size w w' := by
  unfold header_Get.f at h
  split at h
  · rename_i hc
    have h2 := Option.some.inj h
    have c := Get_calls A0 c0 l0 a1 w hr0 hc0 (by omega) hc.2.1 (small_of hc.2.2)
    rw [h2] at c
    exact c
  · exact absurd h (by simp)

def header_All.f (l0 : List S61) (a1 : ByteArray) : Option (List ByteArray) := if l0.length ≤ 4398046511000 ∧ a1.size ≤ 140737488355328 ∧ smallB l0 = true then some (allS l0 a1) else none
theorem header_All.calls (A0 : Option Addr) (c0 : Nat) (l0 : List (S61)) (a1 : ByteArray) (r : List ByteArray) (w : World) (hr0 : Kd.C k61 w A0 l0.length l0) (hc0 : l0.length ≤ c0) (h : header_All.f l0 a1 = some r) :
    Calls Try.prog 65 #[.slice A0 l0.length c0, .string a1] w fun e w' => ∃ v0_ : Value, e = .returned (v0_) ∧ Kd.R Kd.string 9 w' w.heap.size (fun _ => True) v0_ r ∧ Below w.heap.size w w' := by
  unfold header_All.f at h
  split at h
  · rename_i hc
    obtain rfl := Option.some.inj h
    exact All_calls A0 c0 l0 a1 w hr0 hc0 (by omega) hc.2.1 (small_of hc.2.2)
  · exact absurd h (by simp)

def header_With.f (l0 : List S61) (a1 a2 : ByteArray) : Option (List S61) := if l0.length ≤ 4398046511000 then some (l0 ++ [⟨a1, a2⟩]) else none
theorem header_With.calls (A0 : Option Addr) (c0 : Nat) (l0 : List (S61)) (a1 : ByteArray) (a2 : ByteArray) (r : List S61) (w : World) (hr0 : Kd.C k61 w A0 l0.length l0) (hc0 : l0.length ≤ c0) (h : header_With.f l0 a1 a2 = some r) :
    Calls Try.prog 90 #[.slice A0 l0.length c0, .string a1, .string a2] w fun e w' => ∃ v0_ : Value, e = .returned (v0_) ∧ Kd.R k61 61 w' w.heap.size (fun _ => True) v0_ r ∧ Below w.heap.size w w' := by
  unfold header_With.f at h
  split at h
  · rename_i hc
    obtain rfl := Option.some.inj h
    exact With_calls A0 c0 l0 a1 a2 w hr0 (by omega)
  · exact absurd h (by simp)

def header_Without.f (l0 : List S61) (l1 : List ByteArray) : Option (List S61) := if l0.length ≤ 4398046511000 ∧ l1.length ≤ 140737488355328 ∧ shortB l1 = true ∧ smallB l0 = true then some (l0.filter fun x => !isNamed l1 x) else none
theorem header_Without.calls (A0 : Option Addr) (c0 : Nat) (l0 : List (S61)) (A1 : Option Addr) (c1 : Nat) (l1 : List ByteArray) (r : List S61) (w : World) (hr0 : Kd.C k61 w A0 l0.length l0) (hc0 : l0.length ≤ c0) (hr1 : Kd.C Kd.string w A1 l1.length l1) (hc1 : l1.length ≤ c1) (h : header_Without.f l0 l1 = some r) :
    Calls Try.prog 35 #[.slice A0 l0.length c0, .slice A1 l1.length c1] w fun e w' => ∃ v0_ : Value, e = .returned (v0_) ∧ Kd.R k61 61 w' w.heap.size (fun _ => True) v0_ r ∧ Below w.heap.size w w' := by
  unfold header_Without.f at h
  split at h
  · rename_i hc
    obtain rfl := Option.some.inj h
    exact Without_calls A0 c0 l0 A1 c1 l1 w hr0 hr1 (by omega) hc1 hc.2.1 (short_of hc.2.2.1) (small_of hc.2.2.2)
  · exact absurd h (by simp)

def header_Set.f (l0 : List S61) (a1 a2 : ByteArray) : Option (List S61) := if l0.length ≤ 4398046511000 ∧ a1.size ≤ 140737488355328 ∧ smallB l0 = true then some (setS l0 a1 a2) else none
theorem header_Set.calls (A0 : Option Addr) (c0 : Nat) (l0 : List (S61)) (a1 : ByteArray) (a2 : ByteArray) (r : List S61) (w : World) (hr0 : Kd.C k61 w A0 l0.length l0) (hc0 : l0.length ≤ c0) (h : header_Set.f l0 a1 a2 = some r) :
    Calls Try.prog 58 #[.slice A0 l0.length c0, .string a1, .string a2] w fun e w' => ∃ v0_ : Value, e = .returned (v0_) ∧ Kd.R k61 61 w' w.heap.size (fun _ => True) v0_ r ∧ Below w.heap.size w w' := by
  unfold header_Set.f at h
  split at h
  · rename_i hc
    obtain rfl := Option.some.inj h
    exact Set_calls A0 c0 l0 a1 a2 w hr0 hc0 (by omega) hc.2.1 (small_of hc.2.2)
  · exact absurd h (by simp)
end Go.Proofs.Ytdbokcgjdkbknaa.Hand
