/- Hand walks: slices.ContainsFunc at fields, encode.Body$1. -/
import Derived.Test.YtdbokcgjdkbknaaKinds
import Derived.Test.YtdbokcgjdkbknaaPE1x2
import Derived.BigCall
import Derived.BigGuard
import Derived.Shelf.Abstract
import Derived.Lib.Hide
namespace Go.Proofs.Ytdbokcgjdkbknaa.Hand
open Go.RowKit Go.Proofs.Ytdbokcgjdkbknaa.PE1 Go.Proofs.YtdbokcgjdkbknaaW.PrintWords Go.Proofs.YtdbokcgjdkbknaaW.PrintLast Go.Proofs.YtdbokcgjdkbknaaW.PrintMore
set_option linter.unusedVariables false
set_option linter.unusedSimpArgs false
namespace Fp
/-! function values over names and fields -/
def idxFrom {α : Type} (p : α → Bool) : List α → Nat → Int
  | [], _ => -1
  | x :: l, k => if p x = true then k else idxFrom p l (k + 1)
theorem idxFrom_yes {α : Type} {p : α → Bool} {x : α} {l : List α} {k : Nat} (h : p x = true) : idxFrom p (x :: l) k = k := by rw [idxFrom, if_pos h]
theorem idxFrom_no {α : Type} {p : α → Bool} {x : α} {l : List α} {k : Nat} (h : p x = false) : idxFrom p (x :: l) k = idxFrom p l (k + 1) := by rw [idxFrom, if_neg (by simp [h])]
theorem idxFrom_any {α : Type} (p : α → Bool) : ∀ (l : List α) (k : Nat), decide (0 ≤ idxFrom p l k) = l.any p
  | [], _ => rfl
  | x :: l, k => by
    cases h : p x
    · rw [idxFrom_no h, idxFrom_any p l (k + 1), List.any_cons, h, Bool.false_or]
    · rw [idxFrom_yes h, List.any_cons, h, Bool.true_or]
      simp
def FieldPred (P : Program) (g : Nat) (lb : Array Value) (xs : List S61) (p : S61 → Bool) (w : World) : Prop :=
  ∀ (W : World) (x : S61), x ∈ xs → Below w.heap.size w W → Calls P g (#[.agg #[.string x.f0, .string x.f1]] ++ lb) W fun e w' => e = .returned (.bool (p x)) ∧ Below W.heap.size W w'
theorem field_at {w W : World} {A : Option Addr} {xs : List S61} (h : Kd.C k61 w A xs.length xs) (hb : Below w.heap.size w W) (k : Nat) (hk : k < xs.length) :
    ∃ ad, A = some ad ∧ W.cell? (ad.add (k * 2)) = some (.string (xs[k]'hk).f0) ∧ W.cell? ⟨(ad.add (k * 2)).block, (ad.add (k * 2)).off + 1, none⟩ = some (.string (xs[k]'hk).f1) := by
  obtain ⟨ad, e, h0, h1⟩ := at_T61 h (k : Int) (by omega) (by omega)
  have e2 : rd_T61 xs (k : Int) = xs[k]'hk := by
    unfold rd_T61
    simp [List.getD_eq_getElem?_getD, hk]
  rw [e2] at h0 h1
  exact ⟨ad, e, pw_cell_below hb h0, pw_cell_below hb h1⟩
set_option maxHeartbeats 1000000 in
theorem fieldIndexFunc_calls (A : Option Addr) (c : Nat) (xs : List S61) (g : Nat) (lb : Array Value) (p : S61 → Bool) (w : World) (hr : Kd.C k61 w A xs.length xs) (hc : xs.length ≤ c) (hlen : xs.length ≤ 140737488355328)
    (hp : FieldPred Try.prog g lb xs p w) (eg : ∀ args w, (callFunc g args).run Try.prog w = .ok (.enter g args) w) :
    Calls Try.prog 63 #[.slice A xs.length c, .func (.func g) #[] lb] w fun e w' => e = .returned (.int .i64 (idxFrom p xs 0)) ∧ Below w.heap.size w w' := by
  obtain ⟨R, hR⟩ : ∃ R, idxFrom p xs 0 = R := ⟨_, rfl⟩
  rw [hR]
  have hR' := Lib.hid hR
  have hr' := Lib.hid hr
  have hp' := Lib.hid hp
  have hu := Try.underlying61
  clear hR hr hp
  go_enter Try.func63, Try.ntmps63
  go_wp2
  go_loopw [8] (fun vi wr => ∃ k : Nat, k ≤ xs.length ∧ vi = .int .i64 k ∧ Below w.heap.size w wr ∧ Hid (idxFrom p (xs.drop k) k = R)) (fun vi _ => xs.length - (intOf vi).toNat)
  case atStart => exact ⟨0, by omega, rfl, Below.refl _ _, hR'⟩
  case round =>
    clear hR'
    obtain ⟨k, hk, rfl, hB, hI⟩ := hrel
    by_cases hlt : k < xs.length
    · have hI2 := hI.out
      rw [List.drop_eq_getElem_cons hlt] at hI2
      clear hI
      obtain ⟨ad, rfl, hcell0, hcell1⟩ := field_at hr'.out hB k hlt
      have cS := hp'.out wr (xs[k]'hlt) (List.getElem_mem _) hB
      generalize xs[k]'hlt = x at hI2 hcell0 hcell1 cS
      cases hpx : p x
      · rw [idxFrom_no hpx] at hI2
        rw [hpx] at cS
        have hI3 := Lib.hid hI2
        clear hI2 hpx
        go_wp2_with (go_at_fn g; refine cS.mono ?_; rintro e W' ⟨rfl, hbc⟩)

        go_roundw
        case rel => exact ⟨k + 1, by omega, by go_num, hB.trans (hbc.mono hB.size), hI3⟩
        case measure => simp [intOf]; omega
      · rw [idxFrom_yes hpx] at hI2
        rw [hpx] at cS
        have hI3 := Lib.hid hI2
        clear hI2 hpx
        go_wp2_with (go_at_fn g; refine cS.mono ?_; rintro e W' ⟨rfl, hbc⟩)
        go_ret
        exact ⟨by rw [← hI3.out]; rfl, hB.trans (hbc.mono hB.size)⟩
    · have hI2 := hI.out
      rw [List.drop_of_length_le (by omega)] at hI2
      have hI3 := Lib.hid hI2
      clear hI hI2
      go_wp2
      go_ret
      exact ⟨by rw [← hI3.out]; rfl, hB⟩
theorem fieldContainsFunc_calls (A : Option Addr) (c : Nat) (xs : List S61) (g : Nat) (lb : Array Value) (p : S61 → Bool) (w : World) (hr : Kd.C k61 w A xs.length xs) (hc : xs.length ≤ c) (hlen : xs.length ≤ 140737488355328)
    (hp : FieldPred Try.prog g lb xs p w) (eg : ∀ args w, (callFunc g args).run Try.prog w = .ok (.enter g args) w) :
    Calls Try.prog 39 #[.slice A xs.length c, .func (.func g) #[] lb] w fun e w' => e = .returned (.bool (xs.any p)) ∧ Below w.heap.size w w' := by
  have cI := fieldIndexFunc_calls A c xs g lb p w hr hc hlen hp eg
  rw [← idxFrom_any p xs 0]
  generalize idxFrom p xs 0 = i at cI ⊢
  clear hp hr
  go_enter Try.func39, Try.ntmps39
  go_wp2_with (go_at_call 63; refine cI.mono ?_; rintro e w' ⟨rfl, hb⟩)
  go_ret
  exact ⟨rfl, hb⟩
theorem wrong_calls (k : Nat) (x : S61) (b : Bool) (w : World) (h : field_Right.f k x.f0 x.f1 = some b) :
    Calls Try.prog 40 #[.agg #[.string x.f0, .string x.f1]] w fun e w' => e = .returned (.bool (!b)) ∧ Below w.heap.size w w' := by
  have c := fun W => field_Right.calls k x.f0 x.f1 b W h
  have hu := Try.underlying61
  clear h
  go_enter Try.func40, Try.ntmps40
  go_wp2_with (go_at_call 41; refine (c _).mono ?_; rintro e w' ⟨rfl, hb⟩)
  go_ret
  exact ⟨rfl, ((Below.refl _ _).alloc (Nat.le_refl _) _).trans (hb.mono (by simp))⟩
/-- Is one of some fields wrong? (All are looked at.) -/
def anyW (k : Nat) : List S61 → Option Bool
  | [] => some false
  | x :: l => (field_Right.f k x.f0 x.f1).bind fun b => (anyW k l).bind fun r => some (!b || r)
theorem anyW_mono (l : List S61) (k : Nat) : LeO (anyW k l) (anyW (k + 1) l) := by
  induction l with
  | nil => exact LeO.refl _
  | cons x l ih => exact LeO.bind (field_Right.mono _ _ k) (fun _ => LeO.bind ih (fun _ => LeO.refl _))
def rightP (k : Nat) (x : S61) : Bool := !(field_Right.f k x.f0 x.f1).getD true
theorem anyW_any {k : Nat} : ∀ {l : List S61} {r : Bool}, anyW k l = some r → r = l.any (rightP k) ∧ ∀ x ∈ l, ∃ b, field_Right.f k x.f0 x.f1 = some b ∧ rightP k x = !b
  | [], r, h => ⟨(Option.some.inj h).symm, fun x hx => by cases hx⟩
  | x :: l, r, h => by
    obtain ⟨b, hb, h1⟩ := Option.bind_eq_some_iff.1 h
    obtain ⟨r', hr, h2⟩ := Option.bind_eq_some_iff.1 h1
    obtain ⟨e, hall⟩ := anyW_any hr
    have hx : rightP k x = !b := by unfold rightP; rw [hb]; rfl
    refine ⟨?_, fun y hy => ?_⟩
    · rw [← Option.some.inj h2, e, List.any_cons, hx]
    · rcases List.mem_cons.1 hy with rfl | hy
      · exact ⟨b, hb, hx⟩
      · exact hall y hy
theorem anyWrong_calls (k : Nat) (A : Option Addr) (c : Nat) (xs : List S61) (r : Bool) (w : World) (hr : Kd.C k61 w A xs.length xs) (hc : xs.length ≤ c) (hlen : xs.length ≤ 140737488355328) (h : anyW k xs = some r) :
    Calls Try.prog 39 #[.slice A xs.length c, .func (.func 40) #[] #[]] w fun e w' => e = .returned (.bool r) ∧ Below w.heap.size w w' := by
  obtain ⟨e, hall⟩ := anyW_any h
  rw [e]
  refine fieldContainsFunc_calls A c xs 40 #[] (rightP k) w hr hc hlen ?_ (enters_of Try.func40 (by kernel_rfl) rfl)
  intro W x hx hb
  obtain ⟨b, hb1, hb2⟩ := hall x hx
  rw [hb2]
  exact wrong_calls k x b W hb1
end Fp
end Go.Proofs.Ytdbokcgjdkbknaa.Hand
