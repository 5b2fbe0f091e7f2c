/- Rows: a frame, a list of numbers, a message as arguments. -/
import Derived.Test.YtdbokcgjdkbknaaRowHead
import Derived.ChangeSlices
namespace Go.Proofs.Ytdbokcgjdkbknaa.Hand
open Go.ChangeShapes Go.WideShapes Go.ChangeAt Go.RowKit Go.Deep
open Go.Proofs.YtdbokcgjdkbknaaW.PrintWords Go.Proofs.YtdbokcgjdkbknaaW.PrintLast Go.Proofs.YtdbokcgjdkbknaaW.PrintMore
set_option linter.unusedVariables false
set_option linter.unusedSimpArgs false
set_option maxRecDepth 100000 in
theorem ints_at {H : Type} {enc : TypeId × Value → H} {W : World} {base fuel : Nat} {spare : Nat → Bool} {held : Bool} {v : Value} {x : DataW H × List MemPlace}
    (hf : DataW.trod enc Try.prog W base spare held fuel 24 [v] = some x) :
    ∃ (A : Option Addr) (c : Nat) (l : List Int), v = .slice A l.length c ∧ Kd.C (Kd.int .i64) W A l.length l ∧ l.length ≤ c := by
  rcases open_ints Try.underlying24 Try.underlying3 (by kernel_rfl) hf with ⟨hcs, _⟩ | ⟨a, len, cap, zs, hcs, _, hlc, hcm, hm, _, hc, _⟩
  · rw [List.cons.injEq] at hcs
    obtain ⟨rfl, _⟩ := hcs
    exact ⟨none, 0, [], rfl, Kd.C_nil _ _, Nat.le_refl _⟩
  · rw [List.cons.injEq] at hcs
    obtain ⟨rfl, _⟩ := hcs
    have hlm : len ≤ zs.length := by rw [hm]; split <;> omega
    have hl : (zs.take len).length = len := by simp; omega
    refine ⟨some a, cap, zs.take len, by rw [hl], ⟨rfl, ?_, fun _ => ⟨a, rfl, fun j x hj => ⟨[.int .i64 x], rfl, by first | exact rfl | exact ⟨rfl, trivial⟩, fun i u hu => ?_⟩⟩⟩, by omega⟩
    · rw [hl]
      have : maxLen ≤ 9223372036854775807 := by unfold maxLen; omega
      first | omega | (simp; omega)
    · have hjl : j < len := by
        rcases Nat.lt_or_ge j len with h | h
        · exact h
        · rw [List.getElem?_eq_none (by omega)] at hj; cases hj
      have h1 := hc j (by omega)
      rw [List.getElem?_take_of_lt hjl] at hj
      have h2 : zs.getD j 0 = x := by rw [List.getD_eq_getElem?_getD, hj]; rfl
      rw [h2] at h1
      match i, hu with
      | 0, hu =>
        obtain rfl := Option.some.inj hu
        have h3 : (Kd.int .i64).sz = 1 := rfl
        first | exact h1 | (rw [h3, Nat.mul_one]; exact h1) | (simpa using h1)
      | i + 1, hu => simp at hu
set_option maxRecDepth 100000 in
theorem ints_of {H : Type} {enc : TypeId × Value → H} {W : World} {base : Nat} {spare : Nat → Bool} {held : Bool} {r : Reach} {b0 : Nat} {v : Value} {d : DataW H} {p : List MemPlace}
    (hv : Value.okWide Try.prog W r b0 24 v) (h : DataW.Trod enc Try.prog W base spare held 24 v d p) :
    ∃ (A : Option Addr) (c : Nat) (l : List Int), v = .slice A l.length c ∧ Kd.C (Kd.int .i64) W A l.length l ∧ l.length ≤ c := by
  obtain ⟨A, n, c, rfl⟩ := okWide_slice Try.underlying24 hv
  obtain ⟨fuel, hf⟩ := h
  exact ints_at (by simpa [Value.cells] using hf)
set_option maxRecDepth 100000 in
theorem head_at {H : Type} {enc : TypeId × Value → H} {W : World} {base fuel : Nat} {spare : Nat → Bool} {held : Bool} {c0 c1 c2 c3 c4 c5 : Value} {x : DataW H × List MemPlace}
    (hf : DataW.trod enc Try.prog W base spare held fuel 27 [c0, c1, c2, c3, c4, c5] = some x) :
    ∃ (m t : ByteArray) (n st : Int) (rs : ByteArray) (A : Option Addr) (c : Nat) (l : List S61), c0 = .string m ∧ c1 = .string t ∧ c2 = .int .i64 n ∧ c3 = .int .i64 st ∧ c4 = .string rs ∧ c5 = .slice A l.length c ∧ Kd.C k61 W A l.length l ∧ l.length ≤ c := by
  obtain ⟨xs, n, _, hx, _, hlen, hg⟩ := DataW.trod_struct Try.underlying27 hf
  have k9 : Try.prog.cellsOf 9 = 1 := by kernel_rfl
  have k3 : Try.prog.cellsOf 3 = 1 := by kernel_rfl
  have k22 : Try.prog.cellsOf 25 = 1 := by kernel_rfl
  match xs, hlen with
  | [y0, y1, y2, y3, y4, y5], _ =>
    have g0 : DataW.trod enc Try.prog W base spare held n 9 [c0] = some y0 := by simpa [Value.cells, k9] using hg 0 _ rfl
    have g1 : DataW.trod enc Try.prog W base spare held n 9 [c1] = some y1 := by simpa [Value.cells, k9] using hg 1 _ rfl
    have g2 : DataW.trod enc Try.prog W base spare held n 3 [c2] = some y2 := by simpa [Value.cells, k3] using hg 2 _ rfl
    have g3 : DataW.trod enc Try.prog W base spare held n 3 [c3] = some y3 := by simpa [Value.cells, k3] using hg 3 _ rfl
    have g4 : DataW.trod enc Try.prog W base spare held n 9 [c4] = some y4 := by simpa [Value.cells, k9] using hg 4 _ rfl
    have g5 : DataW.trod enc Try.prog W base spare held n 25 [c5] = some y5 := by simpa [Value.cells, k22] using hg 5 _ rfl
    obtain ⟨s0, e0, _, _⟩ := DataW.trod_string Try.underlying9 g0
    obtain ⟨s1, e1, _, _⟩ := DataW.trod_string Try.underlying9 g1
    obtain ⟨n2, e2, _, w2⟩ := DataW.trod_int Try.underlying3 g2
    obtain ⟨n3, e3, _, w3⟩ := DataW.trod_int Try.underlying3 g3
    obtain ⟨s4, e4, _, _⟩ := DataW.trod_string Try.underlying9 g4
    obtain ⟨A, c, l, e5, hK, hc⟩ := fields_at g5
    rw [List.cons.injEq] at e0 e1 e2 e3 e4
    exact ⟨s0, s1, n2, n3, s4, A, c, l, e0.1, e1.1, e2.1, e3.1, e4.1, e5, hK, hc⟩
set_option maxRecDepth 100000 in
theorem frame_at {H : Type} {enc : TypeId × Value → H} {W : World} {base fuel : Nat} {spare : Nat → Bool} {held : Bool} {c0 c1 : Value} {x : DataW H × List MemPlace}
    (hf : DataW.trod enc Try.prog W base spare held fuel 23 [c0, c1] = some x) :
    ∃ (n m : Int), c0 = .int .i64 n ∧ c1 = .int .i64 m ∧ (Lit.int .i64 n).wf = true ∧ (Lit.int .i64 m).wf = true := by
  obtain ⟨xs, n, _, hx, _, hlen, hg⟩ := DataW.trod_struct Try.underlying23 hf
  have k3 : Try.prog.cellsOf 3 = 1 := by kernel_rfl
  have kk : Try.prog.cellsOf 3 = 1 := by kernel_rfl
  match xs, hlen with
  | [y0, y1], _ =>
    have g0 : DataW.trod enc Try.prog W base spare held n 3 [c0] = some y0 := by simpa [Value.cells, kk] using hg 0 _ rfl
    have g1 : DataW.trod enc Try.prog W base spare held n 3 [c1] = some y1 := by simpa [Value.cells, k3] using hg 1 _ rfl
    obtain ⟨n0, e0, _, w0⟩ := DataW.trod_int Try.underlying3 g0
    obtain ⟨n1, e1, _, w1⟩ := DataW.trod_int Try.underlying3 g1
    rw [List.cons.injEq] at e0 e1
    exact ⟨n0, n1, e0.1, e1.1, w0, w1⟩
set_option maxRecDepth 100000 in
theorem frame_of {H : Type} {enc : TypeId × Value → H} {W : World} {base : Nat} {spare : Nat → Bool} {held : Bool} {r : Reach} {b0 : Nat} {v : Value} {d : DataW H} {p : List MemPlace}
    (hv : Value.okWide Try.prog W r b0 23 v) (h : DataW.Trod enc Try.prog W base spare held 23 v d p) :
    ∃ (n m : Int), v = .agg #[.int .i64 n, .int .i64 m] ∧ (Lit.int .i64 n).wf = true ∧ (Lit.int .i64 m).wf = true := by
  obtain ⟨cs, rfl, hsz⟩ := okWide_struct Try.underlying23 hv
  have hC : Try.prog.cellsOf 23 = 2 := by kernel_rfl
  obtain ⟨L⟩ := cs
  match L, hsz.trans hC with
  | [c0, c1], _ =>
    obtain ⟨fuel, hf⟩ := h
    obtain ⟨n, m, rfl, rfl, w0, w1⟩ := frame_at hf
    exact ⟨n, m, rfl, w0, w1⟩
set_option maxRecDepth 100000 in
theorem message_of {H : Type} {enc : TypeId × Value → H} {W : World} {base : Nat} {spare : Nat → Bool} {held : Bool} {r : Reach} {b0 : Nat} {v : Value} {d : DataW H} {p : List MemPlace}
    (hv : Value.okWide Try.prog W r b0 29 v) (h : DataW.Trod enc Try.prog W base spare held 29 v d p) :
    ∃ (a0 a1 : ByteArray) (a2 a3 : Int) (a4 : ByteArray) (A5 : Option Addr) (c5 : Nat) (l5 : List S61) (a6 a7 : Int) (a8 : ByteArray) (A9 : Option Addr) (c9 : Nat) (l9 : List Int) (A10 : Option Addr) (c10 : Nat) (l10 : List S61),
      v = .agg #[.string a0, .string a1, .int .i64 a2, .int .i64 a3, .string a4, .slice A5 l5.length c5, .int .i64 a6, .int .i64 a7, .string a8, .slice A9 l9.length c9, .slice A10 l10.length c10] ∧
      Kd.C k61 W A5 l5.length l5 ∧ l5.length ≤ c5 ∧ Kd.C (Kd.int .i64) W A9 l9.length l9 ∧ l9.length ≤ c9 ∧ Kd.C k61 W A10 l10.length l10 ∧ l10.length ≤ c10 := by
  obtain ⟨cs, rfl, hsz⟩ := okWide_struct Try.underlying29 hv
  have hC : Try.prog.cellsOf 29 = 11 := by kernel_rfl
  obtain ⟨L⟩ := cs
  match L, hsz.trans hC with
  | [c0, c1, c2, c3, c4, c5, c6, c7, c8, c9, c10], _ =>
    obtain ⟨fuel, hf⟩ := h
    obtain ⟨xs, n, _, hx, _, hlen, hg⟩ := DataW.trod_struct Try.underlying29 hf
    have kh : Try.prog.cellsOf 27 = 6 := by kernel_rfl
    have kf : Try.prog.cellsOf 23 = 2 := by kernel_rfl
    have k9 : Try.prog.cellsOf 9 = 1 := by kernel_rfl
    have ki : Try.prog.cellsOf 24 = 1 := by kernel_rfl
    have k22 : Try.prog.cellsOf 25 = 1 := by kernel_rfl
    match xs, hlen with
    | [y0, y1, y2, y3, y4], _ =>
      have g0 : DataW.trod enc Try.prog W base spare held n 27 [c0, c1, c2, c3, c4, c5] = some y0 := by simpa [Value.cells, kh] using hg 0 _ rfl
      have g1 : DataW.trod enc Try.prog W base spare held n 23 [c6, c7] = some y1 := by simpa [Value.cells, kf] using hg 1 _ rfl
      have g2 : DataW.trod enc Try.prog W base spare held n 9 [c8] = some y2 := by simpa [Value.cells, k9] using hg 2 _ rfl
      have g3 : DataW.trod enc Try.prog W base spare held n 24 [c9] = some y3 := by simpa [Value.cells, ki] using hg 3 _ rfl
      have g4 : DataW.trod enc Try.prog W base spare held n 25 [c10] = some y4 := by simpa [Value.cells, k22] using hg 4 _ rfl
      obtain ⟨a0, a1, a2, a3, a4, A5, c5', l5, rfl, rfl, rfl, rfl, rfl, rfl, hK5, hc5⟩ := head_at g0
      obtain ⟨a6, a7, rfl, rfl, _, _⟩ := frame_at g1
      obtain ⟨a8, e8, _, _⟩ := DataW.trod_string Try.underlying9 g2
      obtain ⟨A9, c9', l9, rfl, hK9, hc9⟩ := ints_at g3
      obtain ⟨A10, c10', l10, rfl, hK10, hc10⟩ := fields_at g4
      rw [List.cons.injEq] at e8
      obtain rfl := e8.1
      exact ⟨a0, a1, a2, a3, a4, A5, c5', l5, a6, a7, a8, A9, c9', l9, A10, c10', l10, rfl, hK5, hc5, hK9, hc9, hK10, hc10⟩
end Go.Proofs.Ytdbokcgjdkbknaa.Hand

