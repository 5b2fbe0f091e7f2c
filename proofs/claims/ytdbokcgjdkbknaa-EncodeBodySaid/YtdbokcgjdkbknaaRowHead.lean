/- Rows: a head as an argument. -/
import Derived.Test.YtdbokcgjdkbknaaRowOpen
import Derived.Deep.Slices
import Derived.Deep.Fields
namespace Go.Proofs.Ytdbokcgjdkbknaa.Hand
open Go.ChangeShapes Go.WideShapes Go.ChangeAt Go.RowKit Go.Deep
open Go.Proofs.YtdbokcgjdkbknaaW.PrintWords Go.Proofs.YtdbokcgjdkbknaaW.PrintLast Go.Proofs.YtdbokcgjdkbknaaW.PrintMore
set_option linter.unusedVariables false
set_option linter.unusedSimpArgs false
set_option maxRecDepth 100000 in
theorem fields_at {H : Type} {enc : TypeId × Value → H} {W : World} {base fuel : Nat} {spare : Nat → Bool} {held : Bool} {v : Value} {x : DataW H × List MemPlace}
    (hf : DataW.trod enc Try.prog W base spare held fuel 25 [v] = some x) :
    ∃ (A : Option Addr) (c : Nat) (l : List S61), v = .slice A l.length c ∧ Kd.C k61 W A l.length l ∧ l.length ≤ c := by
  rcases open_slice_pairs Try.underlying25 Try.underlying61 (by kernel_rfl) rfl rfl (by kernel_rfl) (by kernel_rfl) hf with ⟨hcs, _⟩ | ⟨a, n, c, m, q, V0, V1, D0, D1, P0, P1, hcs, _, hlc, hcm, hm, _, hc⟩
  · rw [List.cons.injEq] at hcs
    obtain ⟨rfl, _⟩ := hcs
    exact ⟨none, 0, [], rfl, Kd.C_nil _ _, Nat.le_refl _⟩
  · rw [List.cons.injEq] at hcs
    obtain ⟨rfl, _⟩ := hcs
    have hlm : n ≤ m := by rw [hm]; split <;> omega
    have each : ∀ i, i < n → ∃ x : S61, W.cell? (a.add (i * 2)) = some (.string x.f0) ∧ W.cell? (a.add (i * 2 + 1)) = some (.string x.f1) := by
      intro i hi
      obtain ⟨c0, c1, t0, t1⟩ := hc i (by omega)
      obtain ⟨s0, e0, _, _⟩ := DataW.trod_string Try.underlying9 t0
      obtain ⟨s1, e1, _, _⟩ := DataW.trod_string Try.underlying9 t1
      rw [List.cons.injEq] at e0 e1
      exact ⟨⟨s0, s1⟩, by rw [c0, e0.1], by rw [c1, e1.1]⟩
    have : ∀ i, ∃ x : S61, i < n → W.cell? (a.add (i * 2)) = some (.string x.f0) ∧ W.cell? (a.add (i * 2 + 1)) = some (.string x.f1) := by
      intro i
      by_cases hi : i < n
      · obtain ⟨x, hx⟩ := each i hi
        exact ⟨x, fun _ => hx⟩
      · exact ⟨⟨⟨#[]⟩, ⟨#[]⟩⟩, fun h => absurd h hi⟩
    have hq : ∀ i, i < n → W.cell? (a.add (i * 2)) = some (.string (Classical.choose (this i)).f0) ∧ W.cell? (a.add (i * 2 + 1)) = some (.string (Classical.choose (this i)).f1) := fun i => Classical.choose_spec (this i)
    refine ⟨some a, c, (List.range n).map (fun i => Classical.choose (this i)), by simp, ⟨rfl, ?_, fun _ => ⟨a, rfl, fun j x hj => ⟨[.string x.f0, .string x.f1], rfl, k61_mk W x, fun i u hu => ?_⟩⟩⟩, by simpa using hlc⟩
    · simp only [List.length_map, List.length_range]
      have : maxLen ≤ 9223372036854775807 := by unfold maxLen; omega
      omega
    · have hjl : j < n := by
        rcases Nat.lt_or_ge j n with h | h
        · exact h
        · rw [List.getElem?_eq_none (by simpa using h)] at hj; cases hj
      rw [List.getElem?_map, List.getElem?_range hjl] at hj
      obtain rfl : Classical.choose (this j) = x := by simpa using hj
      obtain ⟨h0, h1⟩ := hq j hjl
      match i, hu with
      | 0, hu => obtain rfl := Option.some.inj hu; exact h0
      | 1, hu => obtain rfl := Option.some.inj hu; exact h1
      | i + 2, hu => simp at hu
set_option maxRecDepth 100000 in
theorem head_of {H : Type} {enc : TypeId × Value → H} {W : World} {base : Nat} {spare : Nat → Bool} {held : Bool} {r : Reach} {b0 : Nat} {v : Value} {d : DataW H} {p : List MemPlace}
    (hv : Value.okWide Try.prog W r b0 27 v) (h : DataW.Trod enc Try.prog W base spare held 27 v d p) :
    ∃ (m t : ByteArray) (n st : Int) (rs : ByteArray) (A : Option Addr) (c : Nat) (l : List S61), v = .agg #[.string m, .string t, .int .i64 n, .int .i64 st, .string rs, .slice A l.length c] ∧ Kd.C k61 W A l.length l ∧ l.length ≤ c ∧
      (Lit.int .i64 n).wf = true ∧ (Lit.int .i64 st).wf = true := by
  obtain ⟨cs, rfl, hsz⟩ := okWide_struct Try.underlying27 hv
  have hC : Try.prog.cellsOf 27 = 6 := by kernel_rfl
  obtain ⟨L⟩ := cs
  match L, hsz.trans hC with
  | [c0, c1, c2, c3, c4, c5], _ =>
    obtain ⟨fuel, hf⟩ := h
    obtain ⟨xs, n, _, hx, _, hlen, hg⟩ := DataW.trod_struct Try.underlying27 hf
    have k9 : Try.prog.cellsOf 9 = 1 := by kernel_rfl
    have k3 : Try.prog.cellsOf 3 = 1 := by kernel_rfl
    have k22 : Try.prog.cellsOf 25 = 1 := by kernel_rfl
    match xs, hlen with
    | [y0, y1, y2, y3, y4, y5], _ =>
      have g0 : DataW.trod enc Try.prog W base spare held n 9 [c0] = some y0 := by simpa [Value.cells, k9] using hg 0 _ rfl
      have g1 : DataW.trod enc Try.prog W base spare held n 9 [c1] = some y1 := by simpa [Value.cells, k9] using hg 1 _ rfl
      have g2 : DataW.trod enc Try.prog W base spare held n 3 [c2] = some y2 := by simpa [Value.cells, k3] using hg 2 _ rfl
      have g3 : DataW.trod enc Try.prog W base spare held n 3 [c3] = some y3 := by simpa [Value.cells, k3] using hg 3 _ rfl
      have g4 : DataW.trod enc Try.prog W base spare held n 9 [c4] = some y4 := by simpa [Value.cells, k9] using hg 4 _ rfl
      have g5 : DataW.trod enc Try.prog W base spare held n 25 [c5] = some y5 := by simpa [Value.cells, k22] using hg 5 _ rfl
      obtain ⟨s0, e0, _, _⟩ := DataW.trod_string Try.underlying9 g0
      obtain ⟨s1, e1, _, _⟩ := DataW.trod_string Try.underlying9 g1
      obtain ⟨n2, e2, _, w2⟩ := DataW.trod_int Try.underlying3 g2
      obtain ⟨n3, e3, _, w3⟩ := DataW.trod_int Try.underlying3 g3
      obtain ⟨s4, e4, _, _⟩ := DataW.trod_string Try.underlying9 g4
      obtain ⟨A, c, l, e5, hK, hc⟩ := fields_at g5
      rw [List.cons.injEq] at e0 e1 e2 e3 e4
      obtain rfl := e0.1
      obtain rfl := e1.1
      obtain rfl := e2.1
      obtain rfl := e3.1
      obtain rfl := e4.1
      subst e5
      exact ⟨s0, s1, n2, n3, s4, A, c, l, rfl, hK, hc, w2, w3⟩
end Go.Proofs.Ytdbokcgjdkbknaa.Hand
