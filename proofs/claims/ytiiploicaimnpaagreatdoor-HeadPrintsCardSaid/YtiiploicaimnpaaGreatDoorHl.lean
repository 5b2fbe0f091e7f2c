/- Rows: a list of fields as an argument. | Rows: a head as an argument. | HeadPrints: any head's text, and whether it is right, are as the document says. Conditions: none. -/
import Derived.Test.YtiiploicaimnpaaGreatDoorHa
import Derived.Deep.SlicePairs
import Derived.Lib.SmallJoins
import Derived.ChangeArms
import Derived.WalkKit
import Derived.ProofKit
import Derived.OpenShut
import Derived.ShutString
import Derived.ChangeOld
import Derived.Below
import Derived.SizedLaws
import Derived.Carry
import Derived.Deep.Slices
import Derived.Deep.Fields
import Derived.Test.YtiiploicaimnpaaGreatDoorRows
import Derived.Test.YtiiploicaimnpaaGreatDoorTie
import Derived.Test.YtiiploicaimnpaaGreatDoorCards
import Derived.Test.YtiiploicaimnpaaGreatDoorHk
import Derived.LaidMore
import Derived.Lay
import Derived.SevenTiedAt
import Derived.Stop.Joined
namespace Go.Proofs.YtiiploicaimnpaaGreatDoor.Hand
open Go.ChangeShapes Go.WideShapes Go.ChangeAt Go.RowKit Go.Deep
open Go.Proofs.YtiiploicaimnpaaGreatDoorW.PrintWords Go.Proofs.YtiiploicaimnpaaGreatDoorW.PrintLast Go.Proofs.YtiiploicaimnpaaGreatDoorW.PrintMore
set_option linter.unusedVariables false
set_option linter.unusedSimpArgs false
end Go.Proofs.YtiiploicaimnpaaGreatDoor.Hand
namespace Go.Proofs.YtiiploicaimnpaaGreatDoor.Hand
open Go.ChangeShapes Go.WideShapes Go.ChangeAt Go.RowKit Go.Deep
open Go.Proofs.YtiiploicaimnpaaGreatDoorW.PrintWords Go.Proofs.YtiiploicaimnpaaGreatDoorW.PrintLast Go.Proofs.YtiiploicaimnpaaGreatDoorW.PrintMore
set_option linter.unusedVariables false
set_option linter.unusedSimpArgs false
set_option maxRecDepth 100000 in
theorem fields_at {H : Type} {enc : TypeId × Value → H} {W : World} {base fuel : Nat} {spare : Nat → Bool} {held : Bool} {v : Value} {x : DataW H × List MemPlace}
    (hf : DataW.trod enc Tryz.prog W base spare held fuel 27 [v] = some x) :
    ∃ (A : Option Addr) (c : Nat) (l : List S85), v = .slice A l.length c ∧ Kd.C k85 W A l.length l ∧ l.length ≤ c := by
  rcases open_slice_pairs Tryz.underlying27 Tryz.underlying85 (by kernel_rfl) rfl rfl (by kernel_rfl) (by kernel_rfl) hf with ⟨hcs, _⟩ | ⟨a, n, c, m, q, V0, V1, D0, D1, P0, P1, hcs, _, hlc, hcm, hm, _, hc⟩
  · rw [List.cons.injEq] at hcs
    obtain ⟨rfl, _⟩ := hcs
    exact ⟨none, 0, [], rfl, Kd.C_nil _ _, Nat.le_refl _⟩
  · rw [List.cons.injEq] at hcs
    obtain ⟨rfl, _⟩ := hcs
    have hlm : n ≤ m := by rw [hm]; split <;> omega
    have each : ∀ i, i < n → ∃ x : S85, W.cell? (a.add (i * 2)) = some (.string x.f0) ∧ W.cell? (a.add (i * 2 + 1)) = some (.string x.f1) := by
      intro i hi
      obtain ⟨c0, c1, t0, t1⟩ := hc i (by omega)
      obtain ⟨s0, e0, _, _⟩ := DataW.trod_string Tryz.underlying9 t0
      obtain ⟨s1, e1, _, _⟩ := DataW.trod_string Tryz.underlying9 t1
      rw [List.cons.injEq] at e0 e1
      exact ⟨⟨s0, s1⟩, by rw [c0, e0.1], by rw [c1, e1.1]⟩
    have : ∀ i, ∃ x : S85, i < n → W.cell? (a.add (i * 2)) = some (.string x.f0) ∧ W.cell? (a.add (i * 2 + 1)) = some (.string x.f1) := by
      intro i
      by_cases hi : i < n
      · obtain ⟨x, hx⟩ := each i hi
        exact ⟨x, fun _ => hx⟩
      · exact ⟨⟨⟨#[]⟩, ⟨#[]⟩⟩, fun h => absurd h hi⟩
    have hq : ∀ i, i < n → W.cell? (a.add (i * 2)) = some (.string (Classical.choose (this i)).f0) ∧ W.cell? (a.add (i * 2 + 1)) = some (.string (Classical.choose (this i)).f1) := fun i => Classical.choose_spec (this i)
    refine ⟨some a, c, (List.range n).map (fun i => Classical.choose (this i)), by simp, ⟨rfl, ?_, fun _ => ⟨a, rfl, fun j x hj => ⟨[.string x.f0, .string x.f1], rfl, k85_mk W x, fun i u hu => ?_⟩⟩⟩, by simpa using hlc⟩
    · simp only [List.length_map, List.length_range]
      have : maxLen ≤ 9223372036854775807 := by unfold maxLen; omega
      omega
    · have hjl : j < n := by
        rcases Nat.lt_or_ge j n with h | h
        · exact h
        · rw [List.getElem?_eq_none (by simpa using h)] at hj; cases hj
      rw [List.getElem?_map, List.getElem?_range hjl] at hj
      obtain rfl : Classical.choose (this j) = x := by simpa using hj
      obtain ⟨h0, h1⟩ := hq j hjl
      match i, hu with
      | 0, hu => obtain rfl := Option.some.inj hu; exact h0
      | 1, hu => obtain rfl := Option.some.inj hu; exact h1
      | i + 2, hu => simp at hu
set_option maxRecDepth 100000 in
theorem head_of {H : Type} {enc : TypeId × Value → H} {W : World} {base : Nat} {spare : Nat → Bool} {held : Bool} {r : Reach} {b0 : Nat} {v : Value} {d : DataW H} {p : List MemPlace}
    (hv : Value.okWide Tryz.prog W r b0 29 v) (h : DataW.Trod enc Tryz.prog W base spare held 29 v d p) :
    ∃ (m t : ByteArray) (n st : Int) (rs : ByteArray) (A : Option Addr) (c : Nat) (l : List S85), v = .agg #[.string m, .string t, .int .i64 n, .int .i64 st, .string rs, .slice A l.length c] ∧ Kd.C k85 W A l.length l ∧ l.length ≤ c ∧
      (Lit.int .i64 n).wf = true ∧ (Lit.int .i64 st).wf = true := by
  obtain ⟨cs, rfl, hsz⟩ := okWide_struct Tryz.underlying29 hv
  have hC : Tryz.prog.cellsOf 29 = 6 := by kernel_rfl
  obtain ⟨L⟩ := cs
  match L, hsz.trans hC with
  | [c0, c1, c2, c3, c4, c5], _ =>
    obtain ⟨fuel, hf⟩ := h
    obtain ⟨xs, n, _, hx, _, hlen, hg⟩ := DataW.trod_struct Tryz.underlying29 hf
    have k9 : Tryz.prog.cellsOf 9 = 1 := by kernel_rfl
    have k3 : Tryz.prog.cellsOf 3 = 1 := by kernel_rfl
    have k22 : Tryz.prog.cellsOf 27 = 1 := by kernel_rfl
    match xs, hlen with
    | [y0, y1, y2, y3, y4, y5], _ =>
      have g0 : DataW.trod enc Tryz.prog W base spare held n 9 [c0] = some y0 := by simpa [Value.cells, k9] using hg 0 _ rfl
      have g1 : DataW.trod enc Tryz.prog W base spare held n 9 [c1] = some y1 := by simpa [Value.cells, k9] using hg 1 _ rfl
      have g2 : DataW.trod enc Tryz.prog W base spare held n 3 [c2] = some y2 := by simpa [Value.cells, k3] using hg 2 _ rfl
      have g3 : DataW.trod enc Tryz.prog W base spare held n 3 [c3] = some y3 := by simpa [Value.cells, k3] using hg 3 _ rfl
      have g4 : DataW.trod enc Tryz.prog W base spare held n 9 [c4] = some y4 := by simpa [Value.cells, k9] using hg 4 _ rfl
      have g5 : DataW.trod enc Tryz.prog W base spare held n 27 [c5] = some y5 := by simpa [Value.cells, k22] using hg 5 _ rfl
      obtain ⟨s0, e0, _, _⟩ := DataW.trod_string Tryz.underlying9 g0
      obtain ⟨s1, e1, _, _⟩ := DataW.trod_string Tryz.underlying9 g1
      obtain ⟨n2, e2, _, w2⟩ := DataW.trod_int Tryz.underlying3 g2
      obtain ⟨n3, e3, _, w3⟩ := DataW.trod_int Tryz.underlying3 g3
      obtain ⟨s4, e4, _, _⟩ := DataW.trod_string Tryz.underlying9 g4
      obtain ⟨A, c, l, e5, hK, hc⟩ := fields_at g5
      rw [List.cons.injEq] at e0 e1 e2 e3 e4
      obtain rfl := e0.1
      obtain rfl := e1.1
      obtain rfl := e2.1
      obtain rfl := e3.1
      obtain rfl := e4.1
      subst e5
      exact ⟨s0, s1, n2, n3, s4, A, c, l, rfl, hK, hc, w2, w3⟩
end Go.Proofs.YtiiploicaimnpaaGreatDoor.Hand
namespace Go.Proofs.YtiiploicaimnpaaGreatDoor.headPrints
open Go.ChangeShapes Go.WideShapes Go.ChangeAt Go.RowKit
open Go.ChangeMaps (open_string shut_string)
set_option linter.unusedVariables false
theorem own : ownKnob Tryz.prog.godebug = none := by kernel_rfl
theorem laidOut : laidOutB Tryz.prog = true := by kernel_rfl
set_option maxRecDepth 100000 in
theorem lifted (os : Os) (started : os.Started) (H : Type) (enc : TypeId × Value → H) :
    ReturnsInHanded {} Tryz.checked os 5 .any (fun w args => (Rows.headPrintsSpec.pre enc Tryz.prog Tryz.f5 Rows.headPrintsRow.domain false w args ∧ laidMetH Tryz.prog Rows.headPrintsRow.laid w) ∧ sizedMet enc Tryz.prog Tryz.f5 (OpenSpec.ofChange Rows.headPrintsSpec) false w args) (Rows.headPrintsSpec.post enc Tryz.prog Tryz.f5 false true false false) := by
  refine returnsInHanded_of_change_and (C := Tryz.checked) (X := fun w _ => laidMetH Tryz.prog Rows.headPrintsRow.laid w) (fun _ _ _ hh h => h.of_heap hh) own started (by kernel_rfl) Tryz.func5
    (ChangeSpec.witness_shaped (enc := enc) (C := Tryz.checked) (os := os) (X := fun w _ => laidMetH Tryz.prog Rows.headPrintsRow.laid w) false (World.laidAll Tryz.prog os Rows.headPrintsRow.laid) #[.agg #[.string ByteArray.empty, .string ByteArray.empty, .int .i64 0, .int .i64 0, .string ByteArray.empty, .slice none 0 0]] 8 (World.laidAll_os _ _ _)
      (World.shaped_of_ZipB (by kernel_rfl) (by kernel_rfl)) (by kernel_rfl) (by kernel_rfl) (by kernel_rfl)
      (by rw [MakeChecks.laidMetH_plain _ _ _ (by kernel_rfl)]; exact laidMet_laidAll _ (by kernel_rfl) (by kernel_rfl))) ?_
  intro W base args ds gs before hval0 hW hcnd hsz0 _ _
  have hval : ∀ (j : Nat) t v, Tryz.f5.params[j]? = some t → args[j]? = some v → Value.okWide Tryz.prog W .any base t v := hval0
  have hW' := hW
  obtain ⟨p, q, hA0, hV, rfl, hfz, hnd⟩ := hW
  have hA : DataW.TrodAll enc Tryz.prog W 0 (fun _ => true) true Tryz.f5.params.toList args.toList ds p := hA0
  rw [Tryz.params5] at hA hval
  obtain ⟨v0, vs0, d0, ds0, p0, q0, hargs, rfl, rfl, h0, r0⟩ := trodAll_cons hA
  obtain ⟨rfl, rfl, rfl⟩ := trodAll_nil r0
  obtain rfl : args = #[v0] := by cases args; simp_all
  obtain ⟨rfl, rfl⟩ := trodVars_none hV
  have lt0 : ∀ x ∈ p0, x.block < W.heap.size := by obtain ⟨m, hm⟩ := h0; exact DataW.trod_lt m _ _ _ hm
  obtain ⟨a0, a1, a2, a3, a4, A, c, l, e0, hC, hc, w2, w3⟩ := Hand.head_of (hval 0 29 v0 rfl rfl) h0
  have i0 := h0
  subst e0
  have b3 := bounds_i64 w3
  obtain ⟨k, hk⟩ := PHp.law_Prints a0 a1 a2 a3 a4 l b3.1 b3.2
  clear hA0 hval0 hsz0 hval hcnd
  refine (PHp.abutmentlaw22_HeadPrints.calls k a0 a1 a2 a3 a4 A c l true W hC hc hk).mono fun e W' ⟨he, bel⟩ => ?_
  subst he
  exact ⟨_, rfl, _, _, _, [], _, [], hW', trodAll_mk1 (shut_bool Tryz.underlying4 _), (trodAll_cons_mk (Below.trod laidOut (by kernel_rfl) (of_decide_eq_true (by kernel_rfl)) i0 bel lt0) trodAll_mk0), rfl, bel.frame _, fun h => by cases h⟩
theorem over : Rows.headPrintsRow.holds Tryz.pinned (OpenSpec.ofChange Rows.headPrintsSpec) :=
  OpenClaim.holds_of_wide 5 Tryz.f5 rfl rfl rfl rfl rfl rfl rfl ⟨rfl, rfl, rfl, rfl, rfl⟩ rfl rfl rfl rfl rfl (by kernel_rfl) Tryz.func5 (by kernel_rfl)
    (of_decide_eq_true (by kernel_rfl)) (by unfold Func.isWrapper; first | (rw [if_pos (by decide +kernel)]; kernel_rfl) | (rw [if_neg (by decide +kernel)]; exact ⟨rfl, rfl⟩))
    (fun os started H enc _ => lifted os started H enc)
theorem proved : Rows.HeadPrintsSaid := over
end Go.Proofs.YtiiploicaimnpaaGreatDoor.headPrints
namespace Go.Proofs.YtiiploicaimnpaaGreatDoor
open Go
theorem headPrints_card : Rows.HeadPrintsCardSaid :=
  Claim7.holds_tied_plain_at .later [] [.data, .pinned] true (true, "e1a6280afdfb84766e2685361d129a5553636da21883617c3053b39936af3821") true headPrints.proved (fun _ h => by cases h) (by kernel_rfl) (fun _ h => by cases h) headPrints_row_tie rfl ⟨rfl, rfl⟩ (by kernel_rfl) rfl
    (fun f fn hf hfn => by
      obtain rfl : f = 5 := Option.some.inj ((show Tryz.prog.funcNamed "abutment/abutmentlaw22.HeadPrints" = some 5 by kernel_rfl).symm.trans hf) |>.symm
      obtain rfl : fn = Tryz.f5 := (Option.some.inj (Tryz.func5.symm.trans hfn)).symm
      exact ⟨by kernel_rfl, fun j t ht => by
        rw [Tryz.params5] at ht
        have hm : t ∈ [29] := by simpa using Array.mem_of_getElem? ht
        have hall : ([29].all fun u => !Tryz.prog.wantsStandIn u) = true := by kernel_rfl
        exact (show Tryz.prog.wantsStandIn t = false by simpa using List.all_eq_true.1 hall t hm)⟩)
    (by kernel_rfl)
end Go.Proofs.YtiiploicaimnpaaGreatDoor
