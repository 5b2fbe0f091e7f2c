/- Plain: fields and hosts: the program's and the reference's answers are one. -/
import Derived.Test.YtdbokcgjdkbknaaPFixx3
import Derived.Test.YtdbokcgjdkbknaaPFixx4
import Derived.Test.YtdbokcgjdkbknaaPureParse
namespace Go.Proofs.Ytdbokcgjdkbknaa.PFix
open Go.RowKit Go.Proofs.Ytdbokcgjdkbknaa.Hand Go.Proofs.Ytdbokcgjdkbknaa.PHost Go.Proofs.YtdbokcgjdkbknaaW.PrintWords Go.Proofs.YtdbokcgjdkbknaaW.PrintLast Go.Proofs.YtdbokcgjdkbknaaW.PrintMore
set_option linter.unusedVariables false
set_option linter.unusedSectionVars false
set_option linter.unusedSimpArgs false
theorem rd_nat (l : List S61) (i : Nat) (h : i < l.length) : rd_T61 l (i : Int) = l[i]'h := by
  unfold rd_T61
  simp [List.getD_eq_getElem?_getD, h]
def okF (x : S61) : Bool := decide (x.f0.size ≤ 100) && decide (x.f1.size ≤ 300)
def fewS (l : List S61) : Bool := decide (l.length ≤ 40) && l.all okF
theorem okF_no0 {x : S61} (h : (x.f0.size : Int) > 100) : okF x = false := by unfold okF; rw [decide_eq_false (by omega)]; rfl
theorem okF_no1 {x : S61} (h : (x.f1.size : Int) > 300) : okF x = false := by unfold okF; rw [decide_eq_false (by omega : ¬ x.f1.size ≤ 300)]; simp
theorem okF_yes {x : S61} (h0 : ¬ (x.f0.size : Int) > 100) (h1 : ¬ (x.f1.size : Int) > 300) : okF x = true := by unfold okF; rw [decide_eq_true (by omega), decide_eq_true (by omega)]; rfl
theorem Few_l0 (l : List S61) (hl : l.length ≤ 40) : ∀ d i : Nat, i + d = l.length → Ev (fun k => abutmentlaw10_Few.l0 k l (l.length : Int) (i : Int)) ((l.drop i).all okF)
  | 0, i, hd => by
    refine Ev.step (fun k => by rw [abutmentlaw10_Few.l0]) ?_
    rw [List.drop_of_length_le (by omega)]
    exact Ev.ite_neg (by omega) (Ev.now _)
  | d + 1, i, hd => by
    have hi : i < l.length := by omega
    refine Ev.step (fun k => by rw [abutmentlaw10_Few.l0]) ?_
    rw [List.drop_eq_getElem_cons hi, List.all_cons, rd_nat l i hi]
    refine Ev.ite_pos (by omega) (Ev.ite_pos (by omega) (Ev.ite_pos (by omega) ?_))
    by_cases h0 : ((l[i]'hi).f0.size : Int) > 100
    · rw [okF_no0 h0, Bool.false_and]
      exact Ev.ite_pos h0 (Ev.now _)
    · refine Ev.ite_neg h0 ?_
      by_cases h1 : ((l[i]'hi).f1.size : Int) > 300
      · rw [okF_no1 h1, Bool.false_and]
        exact Ev.ite_pos h1 (Ev.now _)
      · rw [okF_yes h0 h1, Bool.true_and, w64 (by omega) (by omega)]
        exact Ev.ite_neg h1 (Few_l0 l hl d (i + 1) (by omega))
theorem Few_ev (l : List S61) : Ev (fun k => abutmentlaw10_Few.f k l) (fewS l) := by
  unfold abutmentlaw10_Few.f fewS
  by_cases h : (l.length : Int) > 40
  · rw [decide_eq_false (by omega), Bool.false_and]
    exact Ev.ite_pos h (Ev.now _)
  · rw [decide_eq_true (by omega), Bool.true_and]
    exact Ev.ite_neg h (Few_l0 l (by omega) l.length 0 (by omega))
structure Few (l : List S61) : Prop where
  len : l.length ≤ 40
  f0 : ∀ x ∈ l, x.f0.size ≤ 100
  f1 : ∀ x ∈ l, x.f1.size ≤ 300
theorem few_of {l : List S61} (h : fewS l = true) : Few l := by
  unfold fewS at h
  rw [Bool.and_eq_true] at h
  have h2 := List.all_eq_true.1 h.2
  refine ⟨of_decide_eq_true h.1, fun x hx => ?_, fun x hx => ?_⟩ <;>
  · have h3 := h2 x hx
    unfold okF at h3
    rw [Bool.and_eq_true] at h3
    first | exact of_decide_eq_true h3.1 | exact of_decide_eq_true h3.2
theorem smallB_of {l : List S61} (h : ∀ x ∈ l, x.f0.size ≤ 140737488355328) : smallB l = true := List.all_eq_true.2 fun x hx => decide_eq_true (h x hx)
theorem Few.small {l : List S61} (h : Few l) : smallB l = true := smallB_of fun x hx => by have := h.f0 x hx; omega
/-! the reference's Is, All, Place -/
theorem Is_eq (a b : ByteArray) (ha : a.size ≤ 140737488351232) (hb : b.size ≤ 140737488351232) : abutmentref10_Is.f a b = some (foldS b a) := by
  unfold abutmentref10_Is.f abutmentref01_Lower.f
  rw [if_pos ha, if_pos hb]
  simp only [Option.bind_some, ba_list, foldS]
  congr 1
  rw [Bool.eq_iff_iff]
  simp only [beq_iff_eq, decide_eq_true_eq]
  exact eq_comm
theorem isNamed_one (n : ByteArray) (x : S61) : isNamed [n] x = foldS n x.f0 := by simp [isNamed]
theorem refAll_l0 (l : List S61) (nm : ByteArray) (hl : l.length ≤ 1000000) (hx : ∀ x ∈ l, x.f0.size ≤ 140737488351232) (hn : nm.size ≤ 140737488351232) : ∀ (d i : Nat) (acc : List ByteArray), i + d = l.length → acc.length ≤ i →
    Ev (fun k => abutmentref10_All.l0 k l nm acc (i : Int)) (acc ++ allS (l.drop i) nm)
  | 0, i, acc, hd, ha => by
    refine Ev.step (fun k => by rw [abutmentref10_All.l0]) ?_
    rw [List.drop_of_length_le (by omega), show allS [] nm = [] from rfl, List.append_nil]
    exact Ev.ite_neg (by omega) (Ev.now _)
  | d + 1, i, acc, hd, ha => by
    have hi : i < l.length := by omega
    refine Ev.step (fun k => by rw [abutmentref10_All.l0]) ?_
    rw [List.drop_eq_getElem_cons hi, rd_nat l i hi, Is_eq _ _ (hx _ (List.getElem_mem hi)) hn, w64 (by omega) (by omega)]
    refine Ev.ite_pos (by omega) (Ev.ite_pos (by omega) ?_)
    simp only [Option.bind_some]
    cases h : foldS nm (l[i]'hi).f0
    · rw [allS_no (by rw [isNamed_one]; exact h)]
      exact Ev.ite_neg (by decide) (refAll_l0 l nm hl hx hn d (i + 1) acc (by omega) (by omega))
    · rw [allS_yes (by rw [isNamed_one]; exact h)]
      refine Ev.ite_pos rfl (Ev.ite_pos (by omega) ?_)
      have := refAll_l0 l nm hl hx hn d (i + 1) (acc ++ [(l[i]'hi).f1]) (by omega) (by simp; omega)
      rw [List.append_assoc] at this
      exact this
theorem refAll_ev (l : List S61) (nm : ByteArray) (hl : l.length ≤ 1000000) (hx : ∀ x ∈ l, x.f0.size ≤ 140737488351232) (hn : nm.size ≤ 140737488351232) : Ev (fun k => abutmentref10_All.f k l nm) (allS l nm) :=
  refAll_l0 l nm hl hx hn l.length 0 [] (by omega) (by simp)
theorem allS_get (l : List S61) (nm : ByteArray) : getS l nm = match allS l nm with | [] => (⟨#[]⟩, false) | s :: _ => (s, true) := by
  unfold getS allS
  rw [← List.head?_filter]
  cases l.filter (isNamed [nm]) <;> rfl
theorem refPlace_ev (l : List S61) (a0 : Int) (a1 a2 au : ByteArray) (hl : l.length ≤ 1000000) (hx : ∀ x ∈ l, x.f0.size ≤ 140737488351232) : Ev (fun k => abutmentref32_Place.f k l a0 a1 a2 au) (placeS l a0 a1 au) := by
  unfold abutmentref32_Place.f placeS
  by_cases h : a0 = 2
  · rw [if_pos (by simp [h])]
    exact Ev.ite_pos h (Ev.now _)
  · rw [if_neg (by simp [h])]
    refine Ev.ite_neg h (Ev.bind (refAll_ev l _ hl hx (by decide)) ?_)
    rw [allS_get, show hostB = ⟨#[72, 111, 115, 116]⟩ from rfl]
    cases allS l ⟨#[72, 111, 115, 116]⟩ with
    | nil =>
      rw [if_neg (by simp)]
      exact Ev.now _
    | cons s r =>
      rw [if_pos rfl]
      exact Ev.ite_pos (by simp) (Ev.ite_pos (by simp) (Ev.now _))
theorem Place_f (l : List S61) (a0 : Int) (a1 a2 au : ByteArray) (hl : l.length ≤ 1000000) (hx : smallB l = true) : hostfix_Place.f l a0 a1 a2 au = some (placeS l a0 a1 au) := if_pos ⟨by omega, hx⟩
/-! the reference's Without, With, Set, Same -/
def woS (l : List S61) (nm : ByteArray) : List S61 := l.filter fun x => !isNamed [nm] x
theorem woS_yes {x : S61} {l : List S61} {n : ByteArray} (h : isNamed [n] x = true) : woS (x :: l) n = woS l n := by simp [woS, h]
theorem woS_no {x : S61} {l : List S61} {n : ByteArray} (h : isNamed [n] x = false) : woS (x :: l) n = x :: woS l n := by simp [woS, h]
theorem refWo_l0 (l : List S61) (nm : ByteArray) (hl : l.length ≤ 1000000) (hx : ∀ x ∈ l, x.f0.size ≤ 140737488351232) (hn : nm.size ≤ 140737488351232) : ∀ (d i : Nat) (acc : List S61), i + d = l.length → acc.length ≤ i →
    Ev (fun k => abutmentref10_Without.l0 k l [nm] acc (i : Int)) (acc ++ woS (l.drop i) nm)
  | 0, i, acc, hd, ha => by
    refine Ev.step (fun k => by rw [abutmentref10_Without.l0]) ?_
    rw [List.drop_of_length_le (by omega), show woS [] nm = [] from rfl, List.append_nil]
    exact Ev.ite_neg (by omega) (Ev.now _)
  | d + 1, i, acc, hd, ha => by
    have hi : i < l.length := by omega
    refine Ev.step (fun k => by rw [abutmentref10_Without.l0]) ?_
    refine Ev.ite_pos (by omega) ?_
    refine Ev.step (fun k => by rw [abutmentref10_Without.l1]) ?_
    rw [List.drop_eq_getElem_cons hi, rd_nat l i hi, show rdOf ByteArray.empty [nm] 0 = nm from rfl, Is_eq _ _ (hx _ (List.getElem_mem hi)) hn, w64 (n := (0 : Int) + 1) (by omega) (by omega)]
    refine Ev.ite_pos (by simp) (Ev.ite_neg (by decide) (Ev.ite_pos (by omega) (Ev.ite_pos (by omega) (Ev.ite_pos (by decide) ?_))))
    simp only [Option.bind_some]
    refine Ev.step (fun k => by rw [abutmentref10_Without.l1]) ?_
    refine Ev.ite_neg (by simp) ?_
    rw [rd_nat l i hi, w64 (n := (i : Int) + 1) (by omega) (by omega)]
    cases h : foldS nm (l[i]'hi).f0
    · rw [woS_no (by rw [isNamed_one]; exact h)]
      refine Ev.ite_neg (by decide) (Ev.ite_pos (by omega) (Ev.ite_pos (by omega) (Ev.ite_pos (by omega) ?_)))
      have := refWo_l0 l nm hl hx hn d (i + 1) (acc ++ [l[i]'hi]) (by omega) (by simp; omega)
      rw [List.append_assoc] at this
      exact this
    · rw [woS_yes (by rw [isNamed_one]; exact h)]
      exact Ev.ite_pos rfl (refWo_l0 l nm hl hx hn d (i + 1) acc (by omega) (by omega))
theorem refWo_ev (l : List S61) (nm : ByteArray) (hl : l.length ≤ 1000000) (hx : ∀ x ∈ l, x.f0.size ≤ 140737488351232) (hn : nm.size ≤ 140737488351232) : Ev (fun k => abutmentref10_Without.f k l [nm]) (woS l nm) :=
  refWo_l0 l nm hl hx hn l.length 0 [] (by omega) (by simp)
theorem refWith_f (l : List S61) (a b : ByteArray) (hl : l.length ≤ 1000000) : abutmentref10_With.f l a b = some (l ++ [⟨a, b⟩]) := by
  unfold abutmentref10_With.f
  simp only [Option.bind_some, List.nil_append, List.length_nil]
  rw [if_pos (by omega), if_pos (by omega)]
theorem setAt_yes {p : S61 → Bool} {vl : ByteArray} {x : S61} {l : List S61} (h : p x = true) : setAt p vl (x :: l) = some (⟨x.f0, vl⟩ :: l.filter fun y => !p y) := by rw [setAt, if_pos h]
theorem setAt_no {p : S61 → Bool} {vl : ByteArray} {x : S61} {l : List S61} (h : p x = false) : setAt p vl (x :: l) = (setAt p vl l).map (x :: ·) := by rw [setAt, if_neg (by simp [h])]
theorem refSet_done (l : List S61) (nm vl : ByteArray) (hl : l.length ≤ 1000000) (hx : ∀ x ∈ l, x.f0.size ≤ 140737488351232) (hn : nm.size ≤ 140737488351232) : ∀ (d i : Nat) (acc : List S61), i + d = l.length → acc.length ≤ i →
    Ev (fun k => abutmentref10_Set.l0 k l nm vl acc true (i : Int)) (acc ++ woS (l.drop i) nm)
  | 0, i, acc, hd, ha => by
    refine Ev.step (fun k => by rw [abutmentref10_Set.l0]) ?_
    rw [List.drop_of_length_le (by omega), show woS [] nm = [] from rfl, List.append_nil]
    exact Ev.ite_neg (by omega) (Ev.ite_pos rfl (Ev.now _))
  | d + 1, i, acc, hd, ha => by
    have hi : i < l.length := by omega
    refine Ev.step (fun k => by rw [abutmentref10_Set.l0]) ?_
    rw [List.drop_eq_getElem_cons hi, rd_nat l i hi, Is_eq _ _ (hx _ (List.getElem_mem hi)) hn, w64 (n := (i : Int) + 1) (by omega) (by omega)]
    refine Ev.ite_pos (by omega) (Ev.ite_pos (by omega) ?_)
    simp only [Option.bind_some]
    cases h : foldS nm (l[i]'hi).f0
    · rw [woS_no (by rw [isNamed_one]; exact h)]
      refine Ev.ite_neg (by decide) (Ev.ite_pos (by omega) ?_)
      have := refSet_done l nm vl hl hx hn d (i + 1) (acc ++ [l[i]'hi]) (by omega) (by simp; omega)
      rw [List.append_assoc] at this
      exact this
    · rw [woS_yes (by rw [isNamed_one]; exact h)]
      exact Ev.ite_pos rfl (Ev.ite_pos trivial (refSet_done l nm vl hl hx hn d (i + 1) acc (by omega) (by omega)))
theorem refSet_l0 (l : List S61) (nm vl : ByteArray) (hl : l.length ≤ 1000000) (hx : ∀ x ∈ l, x.f0.size ≤ 140737488351232) (hn : nm.size ≤ 140737488351232) : ∀ (d i : Nat) (acc : List S61), i + d = l.length → acc.length ≤ i →
    Ev (fun k => abutmentref10_Set.l0 k l nm vl acc false (i : Int)) (((setAt (isNamed [nm]) vl (l.drop i)).map (acc ++ ·)).getD (l ++ [⟨nm, vl⟩]))
  | 0, i, acc, hd, ha => by
    refine Ev.step (fun k => by rw [abutmentref10_Set.l0]) ?_
    rw [List.drop_of_length_le (by omega), refWith_f l nm vl hl]
    exact Ev.ite_neg (by omega) (Ev.ite_neg (by decide) (Ev.now _))
  | d + 1, i, acc, hd, ha => by
    have hi : i < l.length := by omega
    refine Ev.step (fun k => by rw [abutmentref10_Set.l0]) ?_
    rw [List.drop_eq_getElem_cons hi, rd_nat l i hi, Is_eq _ _ (hx _ (List.getElem_mem hi)) hn, w64 (n := (i : Int) + 1) (by omega) (by omega)]
    refine Ev.ite_pos (by omega) (Ev.ite_pos (by omega) ?_)
    simp only [Option.bind_some]
    cases h : foldS nm (l[i]'hi).f0
    · rw [setAt_no (by rw [isNamed_one]; exact h)]
      refine Ev.ite_neg (by decide) (Ev.ite_pos (by omega) ?_)
      have := refSet_l0 l nm vl hl hx hn d (i + 1) (acc ++ [l[i]'hi]) (by omega) (by simp; omega)
      simp only [List.append_assoc, List.singleton_append] at this
      rw [Option.map_map]
      exact this
    · rw [setAt_yes (by rw [isNamed_one]; exact h)]
      refine Ev.ite_pos rfl (Ev.ite_neg (by decide) (Ev.ite_pos (by omega) ?_))
      have := refSet_done l nm vl hl hx hn d (i + 1) (acc ++ [⟨(l[i]'hi).f0, vl⟩]) (by omega) (by simp; omega)
      rw [List.append_assoc] at this
      exact this
theorem refSet_ev (l : List S61) (nm vl : ByteArray) (hl : l.length ≤ 1000000) (hx : ∀ x ∈ l, x.f0.size ≤ 140737488351232) (hn : nm.size ≤ 140737488351232) : Ev (fun k => abutmentref10_Set.f k l nm vl) (setS l nm vl) := by
  have := refSet_l0 l nm vl hl hx hn l.length 0 [] (by omega) (by simp)
  rw [List.drop_zero] at this
  unfold setS
  simp only [List.nil_append, Option.map_id'] at this
  exact this
theorem Same_l0 (l : List S61) (hl : l.length ≤ 10000000) : ∀ d i : Nat, i + d = l.length → Ev (fun k => abutmentref09_Same.l0 k l l (i : Int)) true
  | 0, i, hd => by
    refine Ev.step (fun k => by rw [abutmentref09_Same.l0]) ?_
    exact Ev.ite_neg (by omega) (Ev.now _)
  | d + 1, i, hd => by
    refine Ev.step (fun k => by rw [abutmentref09_Same.l0]) ?_
    rw [w64 (by omega) (by omega)]
    exact Ev.ite_pos (by omega) (Ev.ite_pos (by omega) (Ev.ite_pos (by omega) (Ev.ite_neg (by simp) (Same_l0 l hl d (i + 1) (by omega)))))
theorem Same_ev (l : List S61) (hl : l.length ≤ 10000000) : Ev (fun k => abutmentref09_Same.f k l l) true := by
  unfold abutmentref09_Same.f
  exact Ev.ite_pos rfl (Same_l0 l hl l.length 0 (by omega))
/-! Fix, Key -/
def fixS (l : List S61) (s : ByteArray) (tv : Int) : List S61 × Int :=
  if tv > 0 ∧ ¬ (parseS s).2.2 = 0 then ([], 13) else if s.toList = [] then (woS l hostB, 0) else (setS l hostB s, 0)
def fixT (l : List S61) (s : ByteArray) (b : Bool) : List S61 × Int :=
  if b = true then ([], 13) else if s.toList = [] then (woS l hostB, 0) else (setS l hostB s, 0)
theorem fixS_T (l : List S61) (s : ByteArray) (tv : Int) : fixS l s tv = fixT l s (if tv > 0 then (parseS s).2.2 != 0 else false) := by
  unfold fixS fixT
  by_cases h : tv > 0
  · rw [if_pos h]
    by_cases h2 : (parseS s).2.2 = 0
    · rw [if_neg (fun h3 : tv > 0 ∧ ¬ (parseS s).2.2 = 0 => h3.2 h2), h2]
      rfl
    · rw [if_pos (⟨h, h2⟩ : tv > 0 ∧ ¬ (parseS s).2.2 = 0), if_pos (by simp [h2])]
  · rw [if_neg h, if_neg (fun h3 : tv > 0 ∧ ¬ (parseS s).2.2 = 0 => h h3.1)]
    rfl
theorem wo_f (l : List S61) (hl : l.length ≤ 1000000) (hx : smallB l = true) : header_Without.f l [⟨#[72, 111, 115, 116]⟩] = some (woS l hostB) := if_pos ⟨by omega, by decide, by decide, hx⟩
theorem set_f (l : List S61) (s : ByteArray) (hl : l.length ≤ 1000000) (hx : smallB l = true) : header_Set.f l ⟨#[72, 111, 115, 116]⟩ s = some (setS l hostB s) := if_pos ⟨by omega, by decide, hx⟩
theorem Fix_j0 (l : List S61) (s : ByteArray) (b : Bool) (hl : l.length ≤ 1000000) (hx : smallB l = true) : Ev (fun k => hostfix_Fix.j0 k l s b) (fixT l s b) := by
  refine Ev.step (fun k => by rw [hostfix_Fix.j0]) ?_
  unfold fixT
  cases b
  · refine Ev.ite_neg (by decide) ?_
    rw [wo_f l hl hx, set_f l s hl hx]
    show Ev _ (if s.toList = [] then (woS l hostB, 0) else (setS l hostB s, 0))
    by_cases h : s.toList = []
    · rw [if_pos h, if_pos h]; exact Ev.now _
    · rw [if_neg h, if_neg h]; exact Ev.now _
  · exact Ev.ite_pos rfl (Ev.now _)
theorem refFix_j0 (l : List S61) (s : ByteArray) (b : Bool) (hl : l.length ≤ 1000000) (hx : ∀ x ∈ l, x.f0.size ≤ 140737488351232) : Ev (fun k => abutmentref32_Fix.j0 k l s b) (fixT l s b) := by
  refine Ev.step (fun k => by rw [abutmentref32_Fix.j0]) ?_
  unfold fixT
  cases b
  · refine Ev.ite_neg (by decide) ?_
    show Ev _ (if s.toList = [] then (woS l hostB, 0) else (setS l hostB s, 0))
    by_cases h : s.toList = []
    · rw [if_pos h]; exact Ev.ite_pos h (Ev.bind (refWo_ev l _ hl hx (by decide)) (Ev.now _))
    · rw [if_neg h]; exact Ev.ite_neg h (Ev.bind (refSet_ev l _ s hl hx (by decide)) (Ev.now _))
  · exact Ev.ite_pos rfl (Ev.now _)
section
variable (l : List S61) (a0 : Int) (a1 a2 au : ByteArray) (tv : Int) (hl : l.length ≤ 1000000) (hx : smallB l = true) (hx2 : ∀ x ∈ l, x.f0.size ≤ 140737488351232) (hs : (placeS l a0 a1 au).size ≤ 140737488351000)
include hl hx hs
theorem Fix_ev : Ev (fun k => hostfix_Fix.f k l a0 a1 a2 au tv) (fixS l (placeS l a0 a1 au) tv) := by
  unfold hostfix_Fix.f
  rw [Place_f l a0 a1 a2 au hl hx, fixS_T]
  simp only [Option.bind_some]
  refine Ev.bind (Parse_ev _ (by omega)) ?_
  by_cases h : tv > 0
  · rw [if_pos h]; exact Ev.ite_pos h (Fix_j0 l _ _ hl hx)
  · rw [if_neg h]; exact Ev.ite_neg h (Fix_j0 l _ _ hl hx)
theorem FKey_ev : Ev (fun k => hostfix_Key.f k l a0 a1 a2 au) (keyS (placeS l a0 a1 au)).1 := by
  unfold hostfix_Key.f
  rw [Place_f l a0 a1 a2 au hl hx]
  simp only [Option.bind_some]
  exact Ev.bind (Key_ev _ hs) (Ev.now _)
include hx2
theorem refFix_ev : Ev (fun k => abutmentref32_Fix.f k l a0 a1 a2 au tv) (fixS l (placeS l a0 a1 au) tv) := by
  unfold abutmentref32_Fix.f
  rw [fixS_T]
  refine Ev.bind (refPlace_ev l a0 a1 a2 au hl hx2) (Ev.bind (refParse_ev _ (by omega)) ?_)
  by_cases h : tv > 0
  · rw [if_pos h]; exact Ev.ite_pos h (refFix_j0 l _ _ hl hx2)
  · rw [if_neg h]; exact Ev.ite_neg h (refFix_j0 l _ _ hl hx2)
theorem refFKey_ev : Ev (fun k => abutmentref32_Key.f k l a0 a1 a2 au) (keyS (placeS l a0 a1 au)).1 := by
  unfold abutmentref32_Key.f
  exact Ev.bind (refPlace_ev l a0 a1 a2 au hl hx2) (Ev.bind (refKey_ev _ hs) (Ev.now _))
end
theorem place_size {l : List S61} {a0 : Int} {a1 au : ByteArray} (h : Few l) (h1 : a1.size ≤ 300) (h2 : au.size ≤ 300) : (placeS l a0 a1 au).size ≤ 300 := by
  unfold placeS getS
  split
  · exact h1
  · cases hf : l.find? (isNamed [hostB]) with
    | none => exact h2
    | some x => exact h.f1 x (List.mem_of_find?_eq_some hf)
theorem set_len {l : List S61} {a b : ByteArray} : (setS l a b).length ≤ l.length + 1 := by
  have key : ∀ (l : List S61) r, setAt (isNamed [a]) b l = some r → r.length ≤ l.length := by
    intro l
    induction l with
    | nil => intro r h; cases h
    | cons x l ih =>
      intro r h
      rw [setAt] at h
      split at h
      · obtain rfl := Option.some.inj h
        have := List.length_filter_le (fun y => !isNamed [a] y) l
        simp only [List.length_cons]
        omega
      · obtain ⟨q, hq, rfl⟩ := Option.map_eq_some_iff.1 h
        have := ih q hq
        simp only [List.length_cons]
        omega
  unfold setS
  cases h : setAt (isNamed [a]) b l with
  | none => simp
  | some r => have := key l r h; simp; omega
theorem fix_len {l : List S61} {s : ByteArray} {tv : Int} : (fixS l s tv).1.length ≤ l.length + 1 := by
  unfold fixS
  split
  · simp
  · split
    · have := List.length_filter_le (fun x => !isNamed [hostB] x) l
      show (woS l hostB).length ≤ _
      unfold woS
      omega
    · exact set_len
theorem lives_ev : Ev (fun k => abutmentlaw32_lives.f k) true := by
  unfold abutmentlaw32_lives.f
  have e1 : fixS [⟨⟨#[104, 111, 115, 116]⟩, ⟨#[99]⟩⟩] (placeS [⟨⟨#[104, 111, 115, 116]⟩, ⟨#[99]⟩⟩] 2 ⟨#[97, 46, 98]⟩ ⟨#[]⟩) 1 = ([⟨⟨#[104, 111, 115, 116]⟩, ⟨#[97, 46, 98]⟩⟩], 0) := by kernel_rfl
  have e2 : (keyS (placeS [] 1 ⟨#[]⟩ ⟨#[65, 58, 56, 48]⟩)).1 = ⟨#[97]⟩ := by kernel_rfl
  refine Ev.bind (Fix_ev _ _ _ _ _ _ (by decide) (by decide) (by decide +kernel)) ?_
  rw [e1]
  refine Ev.ite_pos rfl (Ev.ite_pos (by decide) (Ev.ite_pos (by decide +kernel) (Ev.ite_pos rfl (Ev.bind (FKey_ev _ _ _ _ _ (by decide) (by decide) (by decide +kernel)) ?_))))
  rw [e2]
  have e3 : ((⟨#[97]⟩ : ByteArray).toList == [97]) = true := by decide +kernel
  exact Ev.congr (fun k => by rw [e3]) (Ev.now true)
end Go.Proofs.Ytdbokcgjdkbknaa.PFix
