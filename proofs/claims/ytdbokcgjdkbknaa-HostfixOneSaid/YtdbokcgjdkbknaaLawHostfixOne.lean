/- To a version above HTTP/1.0 just one host goes, it can be read, and its key is where the request goes; the other fields stay. For every input. -/
import Derived.Test.YtdbokcgjdkbknaaRows
import Derived.Test.YtdbokcgjdkbknaaRowOpen
import Derived.Test.YtdbokcgjdkbknaaPureFixOne
namespace Go.Proofs.Ytdbokcgjdkbknaa.hostfixOne
open Go.ChangeShapes Go.WideShapes Go.ChangeAt Go.RowKit
open Go.ChangeMaps (open_string shut_string)
set_option linter.unusedVariables false
theorem own : ownKnob Try.prog.godebug = none := by kernel_rfl
theorem laidOut : laidOutB Try.prog = true := by kernel_rfl
set_option maxRecDepth 100000 in
theorem lifted (os : Os) (started : os.Started) (H : Type) (enc : TypeId × Value → H) :
    ReturnsInHanded {} Try.checked os 8 .any (Rows.hostfixOneSpec.pre6 enc Try.prog Try.f8 Rows.hostfixOneRow.domain false) (Rows.hostfixOneSpec.post enc Try.prog Try.f8 false true false false) := by
  refine returnsInHanded_of_change_sized (C := Try.checked) own started (by kernel_rfl) Try.func8
    (ChangeSpec.witness6 (enc := enc) (C := Try.checked) false ⟨#[], #[.slice none 0 0, .agg #[.int .i64 0, .string ByteArray.empty, .string ByteArray.empty], .agg #[.string ByteArray.empty, .int .i64 0]], []⟩ 8 (by kernel_rfl) (by kernel_rfl) (by kernel_rfl) (by kernel_rfl)) ?_
  intro W base args ds gs before hval0 hW hcnd hsz0 _
  have hval : ∀ (j : Nat) t v, Try.f8.params[j]? = some t → args[j]? = some v → Value.okWide Try.prog W .any base t v := hval0
  have hW' := hW
  obtain ⟨p, q, hA0, hV, rfl, hfz, hnd⟩ := hW
  have hA : DataW.TrodAll enc Try.prog W 0 (fun _ => true) true Try.f8.params.toList args.toList ds p := hA0
  rw [Try.params8] at hA hval
  obtain ⟨v0, vs0, d0, ds0, p0, q0, hargs, rfl, rfl, h0, r0⟩ := trodAll_cons hA
  obtain ⟨v1, vs1, d1, ds1, p1, q1, rfl, rfl, rfl, h1, r1⟩ := trodAll_cons r0
  obtain ⟨v2, vs2, d2, ds2, p2, q2, rfl, rfl, rfl, h2, r2⟩ := trodAll_cons r1
  obtain ⟨rfl, rfl, rfl⟩ := trodAll_nil r2
  obtain rfl : args = #[v0, v1, v2] := by cases args; simp_all
  obtain ⟨rfl, rfl⟩ := trodVars_none hV
  have lt0 : ∀ x ∈ p0, x.block < W.heap.size := by obtain ⟨m, hm⟩ := h0; exact DataW.trod_lt m _ _ _ hm
  have lt1 : ∀ x ∈ p1, x.block < W.heap.size := by obtain ⟨m, hm⟩ := h1; exact DataW.trod_lt m _ _ _ hm
  have lt2 : ∀ x ∈ p2, x.block < W.heap.size := by obtain ⟨m, hm⟩ := h2; exact DataW.trod_lt m _ _ _ hm
  obtain ⟨A, c, l, e0, hC, hc⟩ := Hand.fields_of (hval 0 25 v0 rfl rfl) h0
  obtain ⟨b0, b1, b2, y0, y1, y2, n, e1, _, _, t0, t1, t2⟩ := Joins.open_agg3 Try.underlying49 (by kernel_rfl) (by kernel_rfl) (hval 1 49 v1 rfl rfl) h1
  obtain ⟨g0, g1, z0, z1, m, e2, _, _, s0, s1⟩ := Joins.open_agg2 Try.underlying51 (by kernel_rfl) (by kernel_rfl) (hval 2 51 v2 rfl rfl) h2
  obtain ⟨a0, f0, _, _⟩ := DataW.trod_int Try.underlying3 t0
  obtain ⟨a1, f1, _, _⟩ := DataW.trod_string Try.underlying9 t1
  obtain ⟨a2, f2, _, _⟩ := DataW.trod_string Try.underlying9 t2
  obtain ⟨a3, f3, _, _⟩ := DataW.trod_string Try.underlying9 s0
  obtain ⟨a4, f4, _, _⟩ := DataW.trod_int Try.underlying3 s1
  rw [List.cons.injEq] at f0 f1 f2 f3 f4
  obtain rfl := f0.1
  obtain rfl := f1.1
  obtain rfl := f2.1
  obtain rfl := f3.1
  obtain rfl := f4.1
  have i0 := h0
  have i1 := h1
  have i2 := h2
  subst e0; subst e1; subst e2
  obtain ⟨k, hk⟩ := PFix.law_One l a0 a1 a2 a3 a4
  clear hA0 hval0 hsz0 hval hcnd
  refine (PFix.abutmentlaw32_HostfixOne.calls k A c l a0 a1 a2 a3 a4 true W hC hc hk).mono fun e W' ⟨he, bel⟩ => ?_
  subst he
  exact ⟨_, rfl, _, _, _, [], _, [], hW', trodAll_mk1 (shut_bool Try.underlying4 _), (trodAll_cons_mk (Below.trod laidOut (by kernel_rfl) (of_decide_eq_true (by kernel_rfl)) i0 bel lt0) (trodAll_cons_mk (Below.trod laidOut (by kernel_rfl) (of_decide_eq_true (by kernel_rfl)) i1 bel lt1) (trodAll_cons_mk (Below.trod laidOut (by kernel_rfl) (of_decide_eq_true (by kernel_rfl)) i2 bel lt2) trodAll_mk0))), rfl, bel.frame _, fun h => by cases h⟩
theorem over : Rows.hostfixOneRow.holds Try.pinned (OpenSpec.ofChange Rows.hostfixOneSpec) :=
  OpenClaim.holds_of_wide 8 Try.f8 rfl rfl rfl rfl rfl rfl rfl ⟨rfl, rfl, rfl, rfl, rfl⟩ rfl rfl rfl rfl rfl (by kernel_rfl) Try.func8 (by kernel_rfl)
    (of_decide_eq_true (by kernel_rfl)) (by unfold Func.isWrapper; first | (rw [if_pos (by decide +kernel)]; kernel_rfl) | (rw [if_neg (by decide +kernel)]; exact ⟨rfl, rfl⟩))
    (fun os started H enc _ => lifted os started H enc)
theorem proved : Rows.HostfixOneSaid := over
end Go.Proofs.Ytdbokcgjdkbknaa.hostfixOne
namespace Go.Proofs.Ytdbokcgjdkbknaa
/-- The row, under a short name, for the claim. -/
theorem hostfixOne_holds : Rows.HostfixOneSaid := hostfixOne.proved
#print axioms hostfixOne_holds
end Go.Proofs.Ytdbokcgjdkbknaa
