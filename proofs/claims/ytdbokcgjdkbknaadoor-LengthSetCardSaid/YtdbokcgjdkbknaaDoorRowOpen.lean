/- Rows: a list of fields as an argument. -/
import Derived.Test.YtdbokcgjdkbknaaDoorKinds
import Derived.Deep.SlicePairs
import Derived.Lib.SmallJoins
import Derived.ChangeArms
import Derived.WalkKit
import Derived.ProofKit
import Derived.OpenShut
import Derived.ShutString
import Derived.ChangeOld
import Derived.Below
import Derived.SizedLaws
import Derived.Carry
namespace Go.Proofs.YtdbokcgjdkbknaaDoor.Hand
open Go.ChangeShapes Go.WideShapes Go.ChangeAt Go.RowKit Go.Deep
open Go.Proofs.YtdbokcgjdkbknaaDoorW.PrintWords Go.Proofs.YtdbokcgjdkbknaaDoorW.PrintLast Go.Proofs.YtdbokcgjdkbknaaDoorW.PrintMore
set_option linter.unusedVariables false
set_option linter.unusedSimpArgs false
set_option maxRecDepth 100000 in
theorem fields_of {H : Type} {enc : TypeId × Value → H} {W : World} {base : Nat} {spare : Nat → Bool} {held : Bool} {r : Reach} {b0 : Nat} {v : Value} {d : DataW H} {p : List MemPlace}
    (hv : Value.okWide Tryd.prog W r b0 22 v) (h : DataW.Trod enc Tryd.prog W base spare held 22 v d p) :
    ∃ (A : Option Addr) (c : Nat) (l : List S45), v = .slice A l.length c ∧ Kd.C k45 W A l.length l ∧ l.length ≤ c := by
  obtain ⟨A, n, c, rfl⟩ := okWide_slice Tryd.underlying22 hv
  obtain ⟨fuel, hf⟩ := h
  rcases open_slice_pairs Tryd.underlying22 Tryd.underlying45 (by kernel_rfl) rfl rfl (by kernel_rfl) (by kernel_rfl) hf with ⟨hcs, _⟩ | ⟨a, len, cap, m, q, V0, V1, D0, D1, P0, P1, hcs, _, hlc, hcm, hm, _, hc⟩
  · simp [Value.cells] at hcs
    obtain ⟨rfl, rfl, rfl⟩ := hcs
    exact ⟨none, 0, [], rfl, Kd.C_nil _ _, Nat.le_refl _⟩
  · simp [Value.cells] at hcs
    obtain ⟨rfl, rfl, rfl⟩ := hcs
    have hlm : n ≤ m := by rw [hm]; split <;> omega
    have each : ∀ i, i < n → ∃ x : S45, W.cell? (a.add (i * 2)) = some (.string x.f0) ∧ W.cell? (a.add (i * 2 + 1)) = some (.string x.f1) := by
      intro i hi
      obtain ⟨c0, c1, t0, t1⟩ := hc i (by omega)
      obtain ⟨s0, e0, _, _⟩ := DataW.trod_string Tryd.underlying9 t0
      obtain ⟨s1, e1, _, _⟩ := DataW.trod_string Tryd.underlying9 t1
      rw [List.cons.injEq] at e0 e1
      exact ⟨⟨s0, s1⟩, by rw [c0, e0.1], by rw [c1, e1.1]⟩
    have : ∀ i, ∃ x : S45, i < n → W.cell? (a.add (i * 2)) = some (.string x.f0) ∧ W.cell? (a.add (i * 2 + 1)) = some (.string x.f1) := by
      intro i
      by_cases hi : i < n
      · obtain ⟨x, hx⟩ := each i hi
        exact ⟨x, fun _ => hx⟩
      · exact ⟨⟨⟨#[]⟩, ⟨#[]⟩⟩, fun h => absurd h hi⟩
    have hq : ∀ i, i < n → W.cell? (a.add (i * 2)) = some (.string (Classical.choose (this i)).f0) ∧ W.cell? (a.add (i * 2 + 1)) = some (.string (Classical.choose (this i)).f1) := fun i => Classical.choose_spec (this i)
    refine ⟨some a, c, (List.range n).map (fun i => Classical.choose (this i)), by simp, ⟨rfl, ?_, fun _ => ⟨a, rfl, fun j x hj => ⟨[.string x.f0, .string x.f1], rfl, k45_mk W x, fun i u hu => ?_⟩⟩⟩, by simpa using hlc⟩
    · simp only [List.length_map, List.length_range]
      have : maxLen ≤ 9223372036854775807 := by unfold maxLen; omega
      omega
    · have hjl : j < n := by
        rcases Nat.lt_or_ge j n with h | h
        · exact h
        · rw [List.getElem?_eq_none (by simpa using h)] at hj; cases hj
      rw [List.getElem?_map, List.getElem?_range hjl] at hj
      obtain rfl : Classical.choose (this j) = x := by simpa using hj
      obtain ⟨h0, h1⟩ := hq j hjl
      match i, hu with
      | 0, hu => obtain rfl := Option.some.inj hu; exact h0
      | 1, hu => obtain rfl := Option.some.inj hu; exact h1
      | i + 2, hu => simp at hu
end Go.Proofs.YtdbokcgjdkbknaaDoor.Hand
