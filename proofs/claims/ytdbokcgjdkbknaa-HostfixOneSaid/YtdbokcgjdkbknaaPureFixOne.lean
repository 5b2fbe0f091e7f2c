/- Plain: just one host goes: the law of one. -/
import Derived.Test.YtdbokcgjdkbknaaPFixx6
import Derived.Test.YtdbokcgjdkbknaaPureFix
namespace Go.Proofs.Ytdbokcgjdkbknaa.PFix
open Go.RowKit Go.Proofs.Ytdbokcgjdkbknaa.Hand Go.Proofs.Ytdbokcgjdkbknaa.PHost Go.Proofs.YtdbokcgjdkbknaaW.PrintWords Go.Proofs.YtdbokcgjdkbknaaW.PrintLast Go.Proofs.YtdbokcgjdkbknaaW.PrintMore
set_option linter.unusedVariables false
set_option linter.unusedSimpArgs false
def hostb : ByteArray := ⟨#[104, 111, 115, 116]⟩
theorem named_host : isNamed [hostb] = isNamed [hostB] := by
  funext x
  rw [isNamed_one, isNamed_one]
  unfold foldS
  rw [show lowL hostb.data.toList = lowL hostB.data.toList by decide]
theorem named_name (n a b c : ByteArray) : isNamed [n] ⟨a, b⟩ = isNamed [n] ⟨a, c⟩ := by rw [isNamed_one, isNamed_one]
theorem setAt_filter (n vl : ByteArray) : ∀ (l r : List S61), setAt (isNamed [n]) vl l = some r →
    (∃ m, r.filter (isNamed [n]) = [⟨m, vl⟩]) ∧ woS r n = woS l n ∧ ∀ x ∈ r, ∃ y ∈ l, x.f0 = y.f0
  | [], r, h => by cases h
  | x :: l, r, h => by
    cases hp : isNamed [n] x
    · rw [setAt_no hp] at h
      obtain ⟨q, hq, rfl⟩ := Option.map_eq_some_iff.1 h
      obtain ⟨⟨m, h1⟩, h2, h3⟩ := setAt_filter n vl l q hq
      refine ⟨⟨m, by rw [List.filter_cons, hp]; simpa using h1⟩, by rw [woS_no hp, woS_no hp, h2], fun y hy => ?_⟩
      rcases List.mem_cons.1 hy with rfl | hy
      · exact ⟨y, List.mem_cons_self, rfl⟩
      · obtain ⟨z, hz, e⟩ := h3 y hy
        exact ⟨z, List.mem_cons_of_mem _ hz, e⟩
    · rw [setAt_yes hp] at h
      obtain rfl := Option.some.inj h
      have hp2 : isNamed [n] ⟨x.f0, vl⟩ = true := by rw [named_name n x.f0 vl x.f1]; exact hp
      have h0 : (l.filter fun y => !isNamed [n] y).filter (isNamed [n]) = [] := by
        rw [List.filter_filter]
        simp
      refine ⟨⟨x.f0, by rw [List.filter_cons, hp2, h0]; rfl⟩, ?_, fun y hy => ?_⟩
      · rw [woS_yes hp2, woS_yes hp]
        unfold woS
        rw [List.filter_filter]
        simp
      · rcases List.mem_cons.1 hy with rfl | hy
        · exact ⟨x, List.mem_cons_self, rfl⟩
        · exact ⟨y, List.mem_cons_of_mem _ (List.mem_filter.1 hy).1, rfl⟩
theorem setAt_none (n vl : ByteArray) : ∀ (l : List S61), setAt (isNamed [n]) vl l = none → l.filter (isNamed [n]) = []
  | [], h => rfl
  | x :: l, h => by
    cases hp : isNamed [n] x
    · rw [setAt_no hp, Option.map_eq_none_iff] at h
      rw [List.filter_cons, hp]
      exact setAt_none n vl l h
    · rw [setAt_yes hp] at h
      cases h
theorem setS_filter (l : List S61) (vl : ByteArray) : (∃ m, (setS l hostB vl).filter (isNamed [hostB]) = [⟨m, vl⟩]) ∧ woS (setS l hostB vl) hostB = woS l hostB ∧ ∀ x ∈ setS l hostB vl, x.f0 = hostB ∨ ∃ y ∈ l, x.f0 = y.f0 := by
  unfold setS
  cases h : setAt (isNamed [hostB]) vl l with
  | some r =>
    obtain ⟨h1, h2, h3⟩ := setAt_filter hostB vl l r h
    exact ⟨h1, h2, fun x hx => .inr (h3 x hx)⟩
  | none =>
    have h0 := setAt_none hostB vl l h
    have hp : isNamed [hostB] ⟨hostB, vl⟩ = true := by rw [isNamed_one]; exact (show foldS hostB hostB = true by decide)
    refine ⟨⟨hostB, ?_⟩, ?_, fun x hx => ?_⟩
    · show (l ++ [(⟨hostB, vl⟩ : S61)]).filter _ = _
      rw [List.filter_append, h0, List.filter_cons, hp]
      rfl
    · show woS (l ++ [(⟨hostB, vl⟩ : S61)]) hostB = _
      unfold woS
      rw [List.filter_append, List.filter_cons, hp]
      simp
    · rcases List.mem_append.1 hx with hx | hx
      · exact .inr ⟨x, hx, rfl⟩
      · rw [List.mem_singleton.1 hx]
        exact .inl rfl
theorem parse_empty {s : ByteArray} (h : s.toList = []) : ¬ (parseS s).2.2 = 0 := by
  rw [data_nil] at h
  unfold parseS
  rw [if_pos h]
  decide
theorem law_One (l0 : List S61) (a1_0 : Int) (a1_1 a1_2 a2_0 : ByteArray) (a2_1 : Int) : ∃ k, abutmentlaw32_HostfixOne.f k l0 a1_0 a1_1 a1_2 a2_0 a2_1 = some true := by
  apply Ev.rounds
  unfold abutmentlaw32_HostfixOne.f
  refine Ev.bind (Few_ev l0) ?_
  have hlive : Ev (fun k => abutmentlaw32_HostfixOne.j0 k l0 true a1_0 a1_1 a1_2 a2_0 a2_1) true := by
    refine Ev.step (fun k => by rw [abutmentlaw32_HostfixOne.j0]) ?_
    exact Ev.ite_pos rfl (Ev.bind lives_ev (Ev.now _))
  cases hf : fewS l0
  · exact Ev.ite_neg (by decide) hlive
  · have hw := few_of hf
    refine Ev.ite_pos rfl ?_
    by_cases h1 : (a1_1.size : Int) > 300
    · exact Ev.ite_pos h1 hlive
    refine Ev.ite_neg h1 ?_
    by_cases h2 : (a1_2.size : Int) > 300
    · exact Ev.ite_pos h2 hlive
    refine Ev.ite_neg h2 ?_
    by_cases h3 : (a2_0.size : Int) > 300
    · rw [decide_eq_true h3]; exact hlive
    rw [decide_eq_false h3]
    have hsm := hw.small
    have hll := hw.len
    have hps : (placeS l0 a1_0 a1_1 a2_0).size ≤ 300 := place_size hw (by omega) (by omega)
    have hK := FKey_ev l0 a1_0 a1_1 a1_2 a2_0 (by omega) hsm (by omega)
    refine Ev.step (fun k => by rw [abutmentlaw32_HostfixOne.j0]) ?_
    refine Ev.ite_neg (by decide) (Ev.bind (Fix_ev l0 a1_0 a1_1 a1_2 a2_0 1 (by omega) hsm (by omega)) ?_)
    generalize placeS l0 a1_0 a1_1 a2_0 = s at hps hK
    by_cases hp : (parseS s).2.2 = 0
    · have he : fixS l0 s 1 = (setS l0 hostB s, 0) := by
        unfold fixS
        rw [if_neg (fun h => h.2 hp), if_neg (fun h => parse_empty h hp)]
      rw [he]
      obtain ⟨⟨m, hm⟩, hwo, hnm⟩ := setS_filter l0 s
      have hlen := @set_len l0 hostB s
      generalize setS l0 hostB s = M at hm hwo hnm hlen
      have hMs : smallB M = true := smallB_of fun x hx => by
        rcases hnm x hx with h | ⟨y, hy, h⟩
        · rw [h]; decide
        · rw [h]; have := hw.f0 y hy; omega
      have hG : header_Get.f M ⟨#[104, 111, 115, 116]⟩ = some (s, true) := by
        unfold header_Get.f
        rw [if_pos ⟨by omega, by decide, hMs⟩]
        unfold getS
        rw [show (⟨#[104, 111, 115, 116]⟩ : ByteArray) = hostb from rfl, named_host, ← List.head?_filter, hm]
        rfl
      have hA : header_Count.f M ⟨#[72, 111, 115, 116]⟩ = some 1 := by
        unfold header_Count.f header_All.f
        rw [if_pos ⟨by omega, by decide, hMs⟩]
        unfold allS
        rw [show (⟨#[72, 111, 115, 116]⟩ : ByteArray) = hostB from rfl, hm]
        rfl
      have hWo : ∀ L : List S61, L.length ≤ 41 → smallB L = true → header_Without.f L [⟨#[104, 111, 115, 116]⟩] = some (woS L hostB) := by
        intro L h1 h2
        unfold header_Without.f
        rw [if_pos ⟨by omega, by decide, by decide, h2⟩, show (⟨#[104, 111, 115, 116]⟩ : ByteArray) = hostb from rfl, named_host]
        rfl
      rw [hG, hA, hWo M (by omega) hMs, hWo l0 (by omega) hsm]
      simp only [Option.bind_some]
      refine Ev.ite_pos trivial (Ev.bind (Key_ev s (by omega)) ?_)
      rw [keyS_0 hp] at hK ⊢
      refine Ev.ite_pos trivial (Ev.ite_pos rfl (Ev.bind hK (Ev.ite_pos rfl ?_)))
      rw [hwo]
      have hwl : (woS l0 hostB).length ≤ l0.length := List.length_filter_le _ _
      exact Ev.bind (Same_ev _ (by omega)) (Ev.ite_pos rfl (Ev.bind lives_ev (Ev.now _)))
    · have he : fixS l0 s 1 = ([], 13) := by
        unfold fixS
        rw [if_pos ⟨by decide, hp⟩]
      rw [he]
      rw [keyS_n hp] at hK
      refine Ev.ite_neg (by decide) (Ev.ite_pos rfl (Ev.bind hK (Ev.ite_pos (by decide +kernel) (Ev.bind lives_ev (Ev.now _)))))
end Go.Proofs.Ytdbokcgjdkbknaa.PFix
