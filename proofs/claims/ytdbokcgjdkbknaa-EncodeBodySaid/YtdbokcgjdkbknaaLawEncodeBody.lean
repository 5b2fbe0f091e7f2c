/- encode.Body, Begin and Last return what the reference returns, and the document's example holds. For every input. -/
import Derived.Test.YtdbokcgjdkbknaaRows
import Derived.Test.YtdbokcgjdkbknaaRowMsg
import Derived.Test.YtdbokcgjdkbknaaPureEncB
namespace Go.Proofs.Ytdbokcgjdkbknaa.encodeBody
open Go.ChangeShapes Go.WideShapes Go.ChangeAt Go.RowKit
open Go.ChangeMaps (open_string shut_string)
set_option linter.unusedVariables false
theorem own : ownKnob Try.prog.godebug = none := by kernel_rfl
theorem laidOut : laidOutB Try.prog = true := by kernel_rfl
set_option maxRecDepth 100000 in
theorem lifted (os : Os) (started : os.Started) (H : Type) (enc : TypeId × Value → H) :
    ReturnsInHanded {} Try.checked os 3 .any (Rows.encodeBodySpec.pre6 enc Try.prog Try.f3 Rows.encodeBodyRow.domain false) (Rows.encodeBodySpec.post enc Try.prog Try.f3 false true false false) := by
  refine returnsInHanded_of_change_sized (C := Try.checked) own started (by kernel_rfl) Try.func3
    (ChangeSpec.witness6 (enc := enc) (C := Try.checked) false ⟨#[], #[.agg #[.int .i64 0, .int .i64 0], .slice none 0 0, .agg #[.string ByteArray.empty, .string ByteArray.empty, .int .i64 0, .int .i64 0, .string ByteArray.empty, .slice none 0 0, .int .i64 0, .int .i64 0, .string ByteArray.empty, .slice none 0 0, .slice none 0 0]], []⟩ 8 (by kernel_rfl) (by kernel_rfl) (by kernel_rfl) (by kernel_rfl)) ?_
  intro W base args ds gs before hval0 hW hcnd hsz0 _
  have hval : ∀ (j : Nat) t v, Try.f3.params[j]? = some t → args[j]? = some v → Value.okWide Try.prog W .any base t v := hval0
  have hW' := hW
  obtain ⟨p, q, hA0, hV, rfl, hfz, hnd⟩ := hW
  have hA : DataW.TrodAll enc Try.prog W 0 (fun _ => true) true Try.f3.params.toList args.toList ds p := hA0
  rw [Try.params3] at hA hval
  obtain ⟨v0, vs0, d0, ds0, p0, q0, hargs, rfl, rfl, h0, r0⟩ := trodAll_cons hA
  obtain ⟨v1, vs1, d1, ds1, p1, q1, rfl, rfl, rfl, h1, r1⟩ := trodAll_cons r0
  obtain ⟨v2, vs2, d2, ds2, p2, q2, rfl, rfl, rfl, h2, r2⟩ := trodAll_cons r1
  obtain ⟨rfl, rfl, rfl⟩ := trodAll_nil r2
  obtain rfl : args = #[v0, v1, v2] := by cases args; simp_all
  obtain ⟨rfl, rfl⟩ := trodVars_none hV
  have lt0 : ∀ x ∈ p0, x.block < W.heap.size := by obtain ⟨m, hm⟩ := h0; exact DataW.trod_lt m _ _ _ hm
  have lt1 : ∀ x ∈ p1, x.block < W.heap.size := by obtain ⟨m, hm⟩ := h1; exact DataW.trod_lt m _ _ _ hm
  have lt2 : ∀ x ∈ p2, x.block < W.heap.size := by obtain ⟨m, hm⟩ := h2; exact DataW.trod_lt m _ _ _ hm
  obtain ⟨f0, f1, e0, _, w1⟩ := Hand.frame_of (hval 0 23 v0 rfl rfl) h0
  obtain ⟨A1, c1, l1, e1, hK1, hc1⟩ := Hand.ints_of (hval 1 24 v1 rfl rfl) h1
  obtain ⟨a0, a1, a2, a3, a4, A5, c5, l5, a6, a7, a8, A9, c9, l9, A10, c10, l10, e2, hK5, hc5, hK9, hc9, hK10, hc10⟩ := Hand.message_of (hval 2 29 v2 rfl rfl) h2
  have i0 := h0
  have i1 := h1
  have i2 := h2
  subst e0; subst e1; subst e2
  have b1 := bounds_i64 w1
  obtain ⟨k, hk⟩ := PE0.law_Body f0 f1 l1 a0 a1 a2 a3 a4 l5 a6 a7 a8 l9 l10 b1.2
  clear hA0 hval0 hsz0 hval hcnd
  refine (PE2.abutmentlaw25_EncodeBody.calls k f0 f1 A1 c1 l1 a0 a1 a2 a3 a4 A5 c5 l5 a6 a7 a8 A9 c9 l9 A10 c10 l10 true W hK1 hc1 hK5 hc5 hK9 hc9 hK10 hc10 hk).mono fun e W' ⟨he, bel⟩ => ?_
  subst he
  exact ⟨_, rfl, _, _, _, [], _, [], hW', trodAll_mk1 (shut_bool Try.underlying4 _), (trodAll_cons_mk (Below.trod laidOut (by kernel_rfl) (of_decide_eq_true (by kernel_rfl)) i0 bel lt0) (trodAll_cons_mk (Below.trod laidOut (by kernel_rfl) (of_decide_eq_true (by kernel_rfl)) i1 bel lt1) (trodAll_cons_mk (Below.trod laidOut (by kernel_rfl) (of_decide_eq_true (by kernel_rfl)) i2 bel lt2) trodAll_mk0))), rfl, bel.frame _, fun h => by cases h⟩
theorem over : Rows.encodeBodyRow.holds Try.pinned (OpenSpec.ofChange Rows.encodeBodySpec) :=
  OpenClaim.holds_of_wide 3 Try.f3 rfl rfl rfl rfl rfl rfl rfl ⟨rfl, rfl, rfl, rfl, rfl⟩ rfl rfl rfl rfl rfl (by kernel_rfl) Try.func3 (by kernel_rfl)
    (of_decide_eq_true (by kernel_rfl)) (by unfold Func.isWrapper; first | (rw [if_pos (by decide +kernel)]; kernel_rfl) | (rw [if_neg (by decide +kernel)]; exact ⟨rfl, rfl⟩))
    (fun os started H enc _ => lifted os started H enc)
theorem proved : Rows.EncodeBodySaid := over
end Go.Proofs.Ytdbokcgjdkbknaa.encodeBody
namespace Go.Proofs.Ytdbokcgjdkbknaa
/-- The row, under a short name, for the claim. -/
theorem encodeBody_holds : Rows.EncodeBodySaid := encodeBody.proved
#print axioms encodeBody_holds
end Go.Proofs.Ytdbokcgjdkbknaa

