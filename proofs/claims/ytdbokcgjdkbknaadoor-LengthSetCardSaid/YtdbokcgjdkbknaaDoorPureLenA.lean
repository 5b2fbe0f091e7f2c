/- Plain: what was set is told. -/
import Derived.Test.YtdbokcgjdkbknaaDoorNumS
import Derived.Test.YtdbokcgjdkbknaaDoorPLsx1
namespace Go.Proofs.YtdbokcgjdkbknaaDoor.PLs
open Go.RowKit Go.Proofs.YtdbokcgjdkbknaaDoor.Hand Go.Proofs.YtdbokcgjdkbknaaDoor.PNum Go.Proofs.YtdbokcgjdkbknaaDoor.PTr Go.Proofs.YtdbokcgjdkbknaaDoorW.PrintWords Go.Proofs.YtdbokcgjdkbknaaDoorW.PrintLast Go.Proofs.YtdbokcgjdkbknaaDoorW.PrintMore
set_option linter.unusedVariables false
set_option linter.unusedSectionVars false
set_option linter.unusedSimpArgs false
theorem dlt {b n : Nat} (h : n < b) : digL b n = [sg n] := by rw [digL, dif_pos (.inr h)]
theorem dge {b n : Nat} (hb : 2 ≤ b) (h : ¬ n < b) : digL b n = digL b (n / b) ++ [sg (n % b)] := by rw [digL, dif_neg (by omega)]
theorem Ev.ite_pos {α : Type} {c : Prop} [Decidable c] {g f : Nat → Option α} {r : α} (h : c) (e : Ev g r) : Ev (fun k => if c then g k else f k) r := by
  simpa only [if_pos h] using e
theorem Ev.ite_neg {α : Type} {c : Prop} [Decidable c] {g f : Nat → Option α} {r : α} (h : ¬ c) (e : Ev f r) : Ev (fun k => if c then g k else f k) r := by
  simpa only [if_neg h] using e
theorem rd_nat (l : List S45) (i : Nat) (h : i < l.length) : rd_T45 l (i : Int) = l[i]'h := by
  unfold rd_T45
  simp [List.getD_eq_getElem?_getD, h]
def okF (x : S45) : Bool := decide (x.f0.size ≤ 100) && decide (x.f1.size ≤ 300)
def fewS (l : List S45) : Bool := decide (l.length ≤ 40) && l.all okF
theorem okF_no0 {x : S45} (h : (x.f0.size : Int) > 100) : okF x = false := by unfold okF; rw [decide_eq_false (by omega)]; rfl
theorem okF_no1 {x : S45} (h : (x.f1.size : Int) > 300) : okF x = false := by unfold okF; rw [decide_eq_false (by omega : ¬ x.f1.size ≤ 300)]; simp
theorem okF_yes {x : S45} (h0 : ¬ (x.f0.size : Int) > 100) (h1 : ¬ (x.f1.size : Int) > 300) : okF x = true := by unfold okF; rw [decide_eq_true (by omega), decide_eq_true (by omega)]; rfl
theorem Few_l0 (l : List S45) (hl : l.length ≤ 40) : ∀ d i : Nat, i + d = l.length → Ev (fun k => abutmentlaw10_Few.l0 k l (l.length : Int) (i : Int)) ((l.drop i).all okF)
  | 0, i, hd => by
    refine Ev.step (fun k => by rw [abutmentlaw10_Few.l0]) ?_
    rw [List.drop_of_length_le (by omega)]
    exact Ev.ite_neg (by omega) (Ev.now _)
  | d + 1, i, hd => by
    have hi : i < l.length := by omega
    refine Ev.step (fun k => by rw [abutmentlaw10_Few.l0]) ?_
    rw [List.drop_eq_getElem_cons hi, List.all_cons, rd_nat l i hi]
    refine Ev.ite_pos (by omega) (Ev.ite_pos (by omega) (Ev.ite_pos (by omega) ?_))
    by_cases h0 : ((l[i]'hi).f0.size : Int) > 100
    · rw [okF_no0 h0, Bool.false_and]
      exact Ev.ite_pos h0 (Ev.now _)
    · refine Ev.ite_neg h0 ?_
      by_cases h1 : ((l[i]'hi).f1.size : Int) > 300
      · rw [okF_no1 h1, Bool.false_and]
        exact Ev.ite_pos h1 (Ev.now _)
      · rw [okF_yes h0 h1, Bool.true_and, PNum.w64 (by omega) (by omega)]
        exact Ev.ite_neg h1 (Few_l0 l hl d (i + 1) (by omega))
theorem Few_ev (l : List S45) : Ev (fun k => abutmentlaw10_Few.f k l) (fewS l) := by
  unfold abutmentlaw10_Few.f fewS
  by_cases h : (l.length : Int) > 40
  · rw [decide_eq_false (by omega), Bool.false_and]
    exact Ev.ite_pos h (Ev.now _)
  · rw [decide_eq_true (by omega), Bool.true_and]
    exact Ev.ite_neg h (Few_l0 l (by omega) l.length 0 (by omega))
structure Few (l : List S45) : Prop where
  len : l.length ≤ 40
  f0 : ∀ x ∈ l, x.f0.size ≤ 100
  f1 : ∀ x ∈ l, x.f1.size ≤ 300
theorem few_of {l : List S45} (h : fewS l = true) : Few l := by
  unfold fewS at h
  rw [Bool.and_eq_true] at h
  have h2 := List.all_eq_true.1 h.2
  refine ⟨of_decide_eq_true h.1, fun x hx => ?_, fun x hx => ?_⟩ <;>
  · have h3 := h2 x hx
    unfold okF at h3
    rw [Bool.and_eq_true] at h3
    first | exact of_decide_eq_true h3.1 | exact of_decide_eq_true h3.2
theorem numv_snoc (l : List UInt8) (c : UInt8) (n : Int) : numv 10 (l ++ [c]) n = numv 10 l n * 10 + val c := by simp [numv, List.foldl_append]
theorem val_sg {d : Nat} (h : d < 10) : val (sg d) = d := by
  have : ∀ d : Fin 10, val (sg d.val) = d.val := by decide
  exact this ⟨d, h⟩
theorem numv_digL : ∀ (k n : Nat), n ≤ k → numv 10 (digL 10 n) 0 = n ∧ badd 10 (digL 10 n) = false ∧ digL 10 n ≠ []
  | k, n, hk => by
    by_cases h : n < 10
    · rw [dlt h]
      have := val_sg h
      refine ⟨by simp [numv, this], by simp [badd, this]; omega, by simp⟩
    · rw [dge (by omega) h]
      have hd : n / 10 < n := by omega
      cases k with
      | zero => omega
      | succ k =>
        obtain ⟨h1, h2, h3⟩ := numv_digL k (n / 10) (by omega)
        have h4 := val_sg (d := n % 10) (by omega)
        refine ⟨?_, ?_, by simp⟩
        · rw [numv_snoc, h1, h4]
          omega
        · unfold badd at h2 ⊢
          rw [List.any_append, h2]
          simp [h4]
          omega

theorem numSpec_text {p : Int} (h0 : 0 ≤ p) (h1 : p ≤ 2147483647) : numSpec 10 2147483647 (textL p) = (p, 0) := by
  have e : textL p = digL 10 p.natAbs := by unfold textL; rw [if_neg (by omega)]
  rw [e]
  obtain ⟨g1, g2, g3⟩ := numv_digL p.natAbs p.natAbs (Nat.le_refl _)
  unfold numSpec
  rw [if_neg g3, if_neg (by simp [g2]), g1, if_neg (by omega), show ((p.natAbs : Nat) : Int) = p by omega]
theorem ba_d (l : List UInt8) : (ba l).data.toList = l := by unfold ba; simp
theorem num_text {p : Int} (h0 : 0 ≤ p) (h1 : p ≤ 2147483647) : numS 10 2147483647 (ba (textL p)) = (p, 0) := by
  rw [numS_spec (.inl rfl) (by omega), ba_d, numSpec_text h0 h1]
/-! texts of digits: no comma, no blank -/
theorem sg_dig {d : Nat} (h : d < 10) : 48 ≤ (sg d).toNat ∧ (sg d).toNat ≤ 57 := by
  have : ∀ d : Fin 10, 48 ≤ (sg d.val).toNat ∧ (sg d.val).toNat ≤ 57 := by decide
  exact this ⟨d, h⟩
theorem digL_dig : ∀ (k n : Nat), n ≤ k → ∀ c ∈ digL 10 n, 48 ≤ c.toNat ∧ c.toNat ≤ 57
  | k, n, hk => by
    by_cases h : n < 10
    · rw [dlt h]
      intro c hc
      rw [List.mem_singleton.1 hc]
      exact sg_dig h
    · rw [dge (by omega) h]
      cases k with
      | zero => omega
      | succ k =>
        intro c hc
        rcases List.mem_append.1 hc with hc | hc
        · exact digL_dig k (n / 10) (by omega) c hc
        · rw [List.mem_singleton.1 hc]
          exact sg_dig (by omega)
theorem text_dig {p : Int} (h0 : 0 ≤ p) : ∀ c ∈ textL p, 48 ≤ c.toNat ∧ c.toNat ≤ 57 := by
  have e : textL p = digL 10 p.natAbs := by unfold textL; rw [if_neg (by omega)]
  rw [e]
  exact digL_dig _ _ (Nat.le_refl _)
theorem iB_no {c : UInt8} : ∀ {l : List UInt8}, c ∉ l → Lib.indexByte l c = -1
  | [], _ => rfl
  | b :: l, h => by
    have hb : (b == c) = false := by rw [beq_eq_false_iff_ne]; exact fun e => h (by simp [e])
    have ih := iB_no (l := l) (c := c) (fun h' => h (by simp [h']))
    unfold Lib.indexByte
    rw [hb, ih]
    rfl
theorem comma_text {p : Int} (h0 : 0 ≤ p) : commaS (ba (textL p)) = [ba (textL p)] := by
  refine comma_none ?_
  show Lib.index (ba (textL p)).data.toList [44] = -1
  rw [ba_d, Lib.index_one, iB_no]
  intro h
  have := text_dig h0 _ h
  revert this
  decide
theorem bt_dig {s : ByteArray} (hs : ∀ c ∈ s.data.toList, 48 ≤ c.toNat ∧ c.toNat ≤ 57) (i : Nat) (hi : i < s.size) : blk (bt s (i : Int)) = false := by
  have e := PTr.bt_nat s i hi
  have hm : s[i]'hi ∈ s.data.toList := by
    have : s[i]'hi = s.data.toList[i]'(by simpa using hi) := by simp; rfl
    rw [this]
    exact List.getElem_mem _
  have := hs _ hm
  unfold blk
  rw [e, decide_eq_false (by omega), decide_eq_false (by omega)]
  rfl
theorem trim_dig {s : ByteArray} (hs : ∀ c ∈ s.data.toList, 48 ≤ c.toNat ∧ c.toNat ≤ 57) : trimS s = s := by
  unfold trimS
  have hr : trR s 0 s.size = s := by
    cases hz : s.size with
    | zero =>
      unfold trR
      have : s.extract 0 0 = s.extract 0 s.size := by rw [hz]
      rw [this, ByteArray.extract_zero_size]
    | succ j =>
      unfold trR
      rw [if_pos (by omega), if_neg (by rw [bt_dig hs j (by omega)]; decide), ← hz, ByteArray.extract_zero_size]
  cases hz : s.size with
  | zero =>
    unfold trL
    exact hr
  | succ j =>
    unfold trL
    have := bt_dig hs 0 (by omega)
    rw [if_neg (by rw [show ((0 : Nat) : Int) = 0 from rfl] at this; rw [show ((0 : Nat) : Int) = 0 from rfl, this]; decide)]
    exact hr
theorem parts_text {p : Int} (h0 : 0 ≤ p) : (commaS (ba (textL p))).map trimS = [ba (textL p)] := by
  rw [comma_text h0, List.map_singleton, trim_dig (by rw [ba_d]; exact text_dig h0)]
theorem stepL_some (f : Int) (p : ByteArray) : stepL (some f) p = if (numS 10 2147483647 p).2 ≠ 0 ∨ (0 ≤ f ∧ (numS 10 2147483647 p).1 ≠ f) then none else some (numS 10 2147483647 p).1 := rfl
theorem ofR_some (f : Int) : ofR (some f) = (max f 0, decide (0 ≤ f), 0) := rfl
/-! what is told of fields that were set -/
def setF (l : List S45) (a : Int) : List S45 := (l.filter fun x => !isNamed [lenB] x) ++ [⟨lenB, ba (textL a)⟩]
theorem lenB_named (v : ByteArray) : isNamed [lenB] ⟨lenB, v⟩ = true := by
  unfold isNamed foldS
  simp
theorem allS_app (l m : List S45) (n : ByteArray) : allS (l ++ m) n = allS l n ++ allS m n := by simp [allS]
theorem allS_out (l : List S45) : allS (l.filter fun x => !isNamed [lenB] x) lenB = [] := by
  unfold allS
  rw [List.filter_filter]
  simp
theorem allS_one (v : ByteArray) : allS [⟨lenB, v⟩] lenB = [v] := by
  unfold allS
  simp [lenB_named]
theorem all_set (l : List S45) (a : Int) : allS (setF l a) lenB = [ba (textL a)] := by
  unfold setF
  rw [allS_app, allS_out, allS_one]
  rfl
theorem of_set (l : List S45) {a : Int} (h0 : 0 ≤ a) (h1 : a ≤ 2147483647) : ofS (setF l a) = (a, true, 0) := by
  have e : partsS [ba (textL a)] = [ba (textL a)] := by unfold partsS; simp [parts_text h0]
  have r : runL [ba (textL a)] = some a := by
    unfold runL
    show stepL (some (-1)) _ = _
    rw [stepL_some, num_text h0 h1, if_neg (by rintro (h | ⟨h, _⟩); exact h rfl; omega)]
  unfold ofS
  rw [all_set, e, r]
  rw [ofR_some, Int.max_eq_left h0, decide_eq_true h0]
theorem of_two (l : List S45) {a b : Int} (h0 : 0 ≤ a) (h1 : a ≤ 2147483647) (k0 : 0 ≤ b) (k1 : b ≤ 2147483647) : ofS (setF l a ++ setF [] b) = if a = b then (a, true, 0) else (0, false, 14) := by
  have ea : allS (setF l a ++ setF [] b) lenB = [ba (textL a), ba (textL b)] := by rw [allS_app, all_set, all_set]; rfl
  have e : partsS [ba (textL a), ba (textL b)] = [ba (textL a), ba (textL b)] := by unfold partsS; simp [parts_text h0, parts_text k0]
  have r : runL [ba (textL a), ba (textL b)] = if a = b then some a else none := by
    unfold runL
    show stepL (stepL (some (-1)) _) _ = _
    have s1 : stepL (some (-1)) (ba (textL a)) = some a := by
      rw [stepL_some, num_text h0 h1, if_neg (by rintro (h | ⟨h, _⟩); exact h rfl; omega)]
    rw [s1]
    rw [stepL_some, num_text k0 k1]
    by_cases h : a = b
    · subst h
      rw [if_neg (by rintro (h | ⟨_, h⟩); exact h rfl; exact h rfl), if_pos rfl]
    · rw [if_pos (.inr ⟨h0, fun e => h e.symm⟩), if_neg h]
  unfold ofS
  rw [ea, e, r]
  by_cases h : a = b
  · rw [if_pos h, if_pos h]
    rw [ofR_some, Int.max_eq_left h0, decide_eq_true h0]
  · rw [if_neg h, if_neg h]
    rfl
end Go.Proofs.YtdbokcgjdkbknaaDoor.PLs
