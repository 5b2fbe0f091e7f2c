/- Plain: fields and their lengths, by the reference. | Plain: numbers read from digits by the reference. | Plain: the length of fields, by the program and by the reference. | LengthOf: the length that fields tell, and fields with a length, are as the document says, for any fields. -/
import Derived.Test.YtdbokcgjdkbknaaDoorPureLenA
import Derived.Test.YtdbokcgjdkbknaaDoorPLox5
import Derived.Test.YtdbokcgjdkbknaaDoorNumS
import Derived.Test.YtdbokcgjdkbknaaDoorPLox3
namespace Go.Proofs.YtdbokcgjdkbknaaDoor.PLo
open Go.RowKit Go.Proofs.YtdbokcgjdkbknaaDoor.Hand Go.Proofs.YtdbokcgjdkbknaaDoor.PLs Go.Proofs.YtdbokcgjdkbknaaDoor.PTr Go.Proofs.YtdbokcgjdkbknaaDoorW.PrintWords Go.Proofs.YtdbokcgjdkbknaaDoorW.PrintLast Go.Proofs.YtdbokcgjdkbknaaDoorW.PrintMore
set_option linter.unusedVariables false
set_option linter.unusedSectionVars false
set_option linter.unusedSimpArgs false
theorem w64 {n : Int} (h0 : -9223372036854775808 ≤ n) (h1 : n ≤ 9223372036854775807) : wrap64 n = n := IntWalk.wrap64_in n ⟨h0, h1⟩
theorem ba_list (l : List UInt8) : (ba l).toList = l := by rw [toList_eq, ba_d]
theorem Is_eq (a b : ByteArray) (ha : a.size ≤ 140737488351232) (hb : b.size ≤ 140737488351232) : abutmentref10_Is.f a b = some (foldS b a) := by
  unfold abutmentref10_Is.f abutmentref01_Lower.f
  rw [if_pos ha, if_pos hb]
  simp only [Option.bind_some, ba_list, foldS]
  congr 1
  rw [Bool.eq_iff_iff]
  simp only [beq_iff_eq, decide_eq_true_eq]
  exact eq_comm
theorem isNamed_one (n : ByteArray) (x : S45) : isNamed [n] x = foldS n x.f0 := by simp [isNamed]
theorem refAll_l0 (l : List S45) (nm : ByteArray) (hl : l.length ≤ 1000000) (hx : ∀ x ∈ l, x.f0.size ≤ 140737488351232) (hn : nm.size ≤ 140737488351232) : ∀ (d i : Nat) (acc : List ByteArray), i + d = l.length → acc.length ≤ i →
    Ev (fun k => abutmentref10_All.l0 k l nm acc (i : Int)) (acc ++ allS (l.drop i) nm)
  | 0, i, acc, hd, ha => by
    refine Ev.step (fun k => by rw [abutmentref10_All.l0]) ?_
    rw [List.drop_of_length_le (by omega), show allS [] nm = [] from rfl, List.append_nil]
    exact Ev.ite_neg (by omega) (Ev.now _)
  | d + 1, i, acc, hd, ha => by
    have hi : i < l.length := by omega
    refine Ev.step (fun k => by rw [abutmentref10_All.l0]) ?_
    rw [List.drop_eq_getElem_cons hi, rd_nat l i hi, Is_eq _ _ (hx _ (List.getElem_mem hi)) hn, w64 (by omega) (by omega)]
    refine Ev.ite_pos (by omega) (Ev.ite_pos (by omega) ?_)
    simp only [Option.bind_some]
    cases h : foldS nm (l[i]'hi).f0
    · rw [allS_no (by rw [isNamed_one]; exact h)]
      exact Ev.ite_neg (by decide) (refAll_l0 l nm hl hx hn d (i + 1) acc (by omega) (by omega))
    · rw [allS_yes (by rw [isNamed_one]; exact h)]
      refine Ev.ite_pos rfl (Ev.ite_pos (by omega) ?_)
      have := refAll_l0 l nm hl hx hn d (i + 1) (acc ++ [(l[i]'hi).f1]) (by omega) (by simp; omega)
      rw [List.append_assoc] at this
      exact this
theorem refAll_ev (l : List S45) (nm : ByteArray) (hl : l.length ≤ 1000000) (hx : ∀ x ∈ l, x.f0.size ≤ 140737488351232) (hn : nm.size ≤ 140737488351232) : Ev (fun k => abutmentref10_All.f k l nm) (allS l nm) :=
  refAll_l0 l nm hl hx hn l.length 0 [] (by omega) (by simp)
def woS (l : List S45) (nm : ByteArray) : List S45 := l.filter fun x => !isNamed [nm] x
theorem woS_yes {x : S45} {l : List S45} {n : ByteArray} (h : isNamed [n] x = true) : woS (x :: l) n = woS l n := by simp [woS, h]
theorem woS_no {x : S45} {l : List S45} {n : ByteArray} (h : isNamed [n] x = false) : woS (x :: l) n = x :: woS l n := by simp [woS, h]
theorem refWo_l0 (l : List S45) (nm : ByteArray) (hl : l.length ≤ 1000000) (hx : ∀ x ∈ l, x.f0.size ≤ 140737488351232) (hn : nm.size ≤ 140737488351232) : ∀ (d i : Nat) (acc : List S45), i + d = l.length → acc.length ≤ i →
    Ev (fun k => abutmentref10_Without.l0 k l [nm] acc (i : Int)) (acc ++ woS (l.drop i) nm)
  | 0, i, acc, hd, ha => by
    refine Ev.step (fun k => by rw [abutmentref10_Without.l0]) ?_
    rw [List.drop_of_length_le (by omega), show woS [] nm = [] from rfl, List.append_nil]
    exact Ev.ite_neg (by omega) (Ev.now _)
  | d + 1, i, acc, hd, ha => by
    have hi : i < l.length := by omega
    refine Ev.step (fun k => by rw [abutmentref10_Without.l0]) ?_
    refine Ev.ite_pos (by omega) ?_
    refine Ev.step (fun k => by rw [abutmentref10_Without.l1]) ?_
    rw [List.drop_eq_getElem_cons hi, rd_nat l i hi, show rdOf ByteArray.empty [nm] 0 = nm from rfl, Is_eq _ _ (hx _ (List.getElem_mem hi)) hn, w64 (n := (0 : Int) + 1) (by omega) (by omega)]
    refine Ev.ite_pos (by simp) (Ev.ite_neg (by decide) (Ev.ite_pos (by omega) (Ev.ite_pos (by omega) (Ev.ite_pos (by decide) ?_))))
    simp only [Option.bind_some]
    refine Ev.step (fun k => by rw [abutmentref10_Without.l1]) ?_
    refine Ev.ite_neg (by simp) ?_
    rw [rd_nat l i hi, w64 (n := (i : Int) + 1) (by omega) (by omega)]
    cases h : foldS nm (l[i]'hi).f0
    · rw [woS_no (by rw [isNamed_one]; exact h)]
      refine Ev.ite_neg (by decide) (Ev.ite_pos (by omega) (Ev.ite_pos (by omega) (Ev.ite_pos (by omega) ?_)))
      have := refWo_l0 l nm hl hx hn d (i + 1) (acc ++ [l[i]'hi]) (by omega) (by simp; omega)
      rw [List.append_assoc] at this
      exact this
    · rw [woS_yes (by rw [isNamed_one]; exact h)]
      exact Ev.ite_pos rfl (refWo_l0 l nm hl hx hn d (i + 1) acc (by omega) (by omega))
theorem refWo_ev (l : List S45) (nm : ByteArray) (hl : l.length ≤ 1000000) (hx : ∀ x ∈ l, x.f0.size ≤ 140737488351232) (hn : nm.size ≤ 140737488351232) : Ev (fun k => abutmentref10_Without.f k l [nm]) (woS l nm) :=
  refWo_l0 l nm hl hx hn l.length 0 [] (by omega) (by simp)
theorem refWith_f (l : List S45) (a b : ByteArray) (hl : l.length ≤ 1000000) : abutmentref10_With.f l a b = some (l ++ [⟨a, b⟩]) := by
  unfold abutmentref10_With.f
  simp only [Option.bind_some, List.nil_append, List.length_nil]
  rw [if_pos (by omega), if_pos (by omega)]
theorem Same_l0 (l : List S45) (hl : l.length ≤ 10000000) : ∀ d i : Nat, i + d = l.length → Ev (fun k => abutmentref09_Same.l0 k l l (i : Int)) true
  | 0, i, hd => by
    refine Ev.step (fun k => by rw [abutmentref09_Same.l0]) ?_
    exact Ev.ite_neg (by omega) (Ev.now _)
  | d + 1, i, hd => by
    refine Ev.step (fun k => by rw [abutmentref09_Same.l0]) ?_
    rw [w64 (by omega) (by omega)]
    exact Ev.ite_pos (by omega) (Ev.ite_pos (by omega) (Ev.ite_pos (by omega) (Ev.ite_neg (by simp) (Same_l0 l hl d (i + 1) (by omega)))))
theorem Same_ev (l : List S45) (hl : l.length ≤ 10000000) : Ev (fun k => abutmentref09_Same.f k l l) true := by
  unfold abutmentref09_Same.f
  exact Ev.ite_pos rfl (Same_l0 l hl l.length 0 (by omega))

theorem slives_s : abutmentlaw18_lives.f = some true := by kernel_rfl
end Go.Proofs.YtdbokcgjdkbknaaDoor.PLo
namespace Go.Proofs.YtdbokcgjdkbknaaDoor.PNum
open Go.RowKit Go.Proofs.YtdbokcgjdkbknaaDoor.Hand Go.Proofs.YtdbokcgjdkbknaaDoor.PLo Go.Proofs.YtdbokcgjdkbknaaDoorW.PrintWords
set_option linter.unusedVariables false
set_option linter.unusedSimpArgs false
theorem Value_ev (c : UInt8) : Ev (fun k => abutmentref02_Value.f k (c.toNat : Int)) (val c) := by
  refine ⟨2, fun k hk => ?_⟩
  obtain ⟨m, rfl⟩ : ∃ m, k = m + 2 := ⟨k - 2, by omega⟩
  have hc := UInt8.toNat_lt c
  show abutmentref02_Value.f (m + 2) (c.toNat : Int) = some (val c)
  unfold abutmentref02_Value.f val
  by_cases a : 48 ≤ c.toNat ∧ c.toNat ≤ 57
  · rw [if_pos (by omega), if_pos a]
    simp only [abutmentref02_Value.j0]
    rw [if_pos (by simp; omega), w64 (by rw [w64] <;> omega) (by rw [w64] <;> omega), w64 (by omega) (by omega)]
  · rw [if_neg a]
    by_cases b : 65 ≤ c.toNat ∧ c.toNat ≤ 70
    · rw [if_pos b, if_pos (by omega)]
      simp only [abutmentref02_Value.j0, abutmentref02_Value.j1]
      rw [if_neg (by simp; omega), if_pos (by omega), if_pos (by simp; omega), w64 (by rw [w64] <;> omega) (by rw [w64] <;> omega), w64 (by omega) (by omega)]
    · rw [if_neg b]
      by_cases d : 97 ≤ c.toNat ∧ c.toNat ≤ 102
      · rw [if_pos d, if_pos (by omega)]
        simp only [abutmentref02_Value.j0, abutmentref02_Value.j1]
        rw [if_neg (by simp; omega), if_pos (by omega), if_neg (by simp; omega), if_pos (by omega), if_pos (by omega), w64 (by rw [w64] <;> omega) (by rw [w64] <;> omega), w64 (by omega) (by omega)]
      · rw [if_neg d]
        have e : abutmentref02_Value.j0 (m + 2) (c.toNat : Int) false = some 99 := by
          simp only [abutmentref02_Value.j0, abutmentref02_Value.j1]
          repeat' split
          all_goals first | rfl | (exfalso; simp_all; done) | (exfalso; simp_all; omega) | (exfalso; omega)
        split
        · rw [show decide ((c.toNat : Int) ≤ 57) = false from by simp; omega]
          exact e
        · exact e
theorem Ev.ite_pos {α : Type} {c : Prop} [Decidable c] {g f : Nat → Option α} {r : α} (h : c) (e : Ev g r) : Ev (fun k => if c then g k else f k) r := by
  simpa only [if_pos h] using e
theorem Ev.ite_neg {α : Type} {c : Prop} [Decidable c] {g f : Nat → Option α} {r : α} (h : ¬ c) (e : Ev f r) : Ev (fun k => if c then g k else f k) r := by
  simpa only [if_neg h] using e
theorem Number_l2 (base most : Int) (hb : base = 10 ∨ base = 16) (hm : 0 ≤ most) (hm2 : most ≤ 1152921504606846975) (s : ByteArray) (hs : s.size ≤ 140737488355328) (hg : badd base s.data.toList = false) :
    ∀ (d i : Nat) (n : Int), i + d = s.size → 0 ≤ n → n < 18446744073709551616 →
    Ev (fun k => abutmentref02_Number.l2 k s base most n (i : Int)) (if most < numv base (s.data.toList.drop i) n then (0, 5) else (numv base (s.data.toList.drop i) n, 0))
  | 0, i, n, hd, h0, h1 => by
    refine Ev.step (fun k => by rw [abutmentref02_Number.l2]) ?_
    rw [List.drop_of_length_le (by simp; omega)]
    refine Ev.ite_neg (by omega) (Ev.ite_neg (by omega) ?_)
    show Ev _ (if most < n then _ else _)
    rw [IntWalk.u64_in most (by omega)]
    by_cases h : most < n
    · simp only [if_pos h, gt_iff_lt]
      exact Ev.now _
    · simp only [if_neg h, gt_iff_lt]
      rw [w64 (by omega) (by omega)]
      exact Ev.now _
  | d + 1, i, n, hd, h0, h1 => by
    have hi : i < s.size := by omega
    refine Ev.step (fun k => by rw [abutmentref02_Number.l2]) ?_
    rw [drop_cons s i hi]
    show Ev _ (if most < numv base (s.data.toList.drop (i + 1)) (n * base + val (s[i]'hi)) then _ else (numv base (s.data.toList.drop (i + 1)) (n * base + val (s[i]'hi)), 0))
    have hv := val_range (s[i]'hi)
    have hv2 : val (s[i]'hi) < base := by
      have : s[i]'hi ∈ s.data.toList := by simp; exact Array.getElem_mem _
      have h3 := List.any_eq_false.1 hg _ this
      simpa using h3
    refine Ev.ite_pos (by omega) ?_
    by_cases hbig : n > 1152921504606846975
    · have h4 := numv_ge (base := base) (by omega) (s.data.toList.drop (i + 1)) (n * base + val (s[i]'hi)) (by rcases hb with rfl | rfl <;> omega)
      rw [if_pos (by rcases hb with rfl | rfl <;> omega)]
      exact Ev.ite_pos hbig (Ev.now _)
    · refine Ev.ite_neg hbig (Ev.ite_pos (by omega) ?_)
      rw [bt_nat s i hi]
      refine Ev.bind (Value_ev _) ?_
      have e1 : IntKind.u64.wrap (IntKind.u64.wrap (n * IntKind.u64.wrap base) + IntKind.u64.wrap (val (s[i]'hi))) = n * base + val (s[i]'hi) := by
        rw [IntWalk.u64_in base (by omega), IntWalk.u64_in (val _) (by omega), IntWalk.u64_in (n * base) (by rcases hb with rfl | rfl <;> omega), IntWalk.u64_in _ (by rcases hb with rfl | rfl <;> omega)]
      have e2 : wrap64 ((i : Int) + 1) = ((i + 1 : Nat) : Int) := by rw [w64 (by omega) (by omega)]; rfl
      rw [e1, e2]
      exact Number_l2 base most hb hm hm2 s hs hg d (i + 1) _ (by omega) (by rcases hb with rfl | rfl <;> omega) (by rcases hb with rfl | rfl <;> omega)
theorem numv_pow {base : Int} (hb : 10 ≤ base) : ∀ (l : List UInt8) (n : Int), 1 ≤ n → n * 10 ^ l.length ≤ numv base l n
  | [], n, _ => by simp [numv]
  | c :: l, n, h => by
    have h1 := val_range c
    have h2 : n * 10 ≤ n * base := Int.mul_le_mul_of_nonneg_left hb (by omega)
    have h3 := numv_pow hb l (n * base + val c) (by omega)
    show _ ≤ numv base l (n * base + val c)
    have h4 : (n * 10) * 10 ^ l.length ≤ (n * base + val c) * 10 ^ l.length := Int.mul_le_mul_of_nonneg_right (by omega) (Int.pow_nonneg (by omega))
    have h5 : n * 10 ^ (c :: l).length = (n * 10) * 10 ^ l.length := by rw [List.length_cons, Int.pow_succ]; rw [Int.mul_comm (10 ^ l.length) 10, Int.mul_assoc]
    omega
theorem Number_j2 (base most : Int) (hb : base = 10 ∨ base = 16) (hm : 0 ≤ most) (hm2 : most ≤ 1152921504606846975) (s : ByteArray) (hs : s.size ≤ 140737488355328) (hg : badd base s.data.toList = false)
    (hz : s.size > 1 → ∀ h : 0 < s.size, s[0]'h ≠ 48) : Ev (fun k => abutmentref02_Number.j2 k s base most) (if most < numv base s.data.toList 0 then (0, 5) else (numv base s.data.toList 0, 0)) := by
  refine Ev.step (fun k => by rw [abutmentref02_Number.j2]) ?_
  by_cases h : (s.size : Int) > 19
  · refine Ev.ite_pos h ?_
    have h0 : 0 < s.size := by omega
    have e := drop_cons s 0 h0
    rw [List.drop_zero] at e
    have hd : 1 ≤ val (s[0]'h0) := by
      have h1 := hz (by omega) h0
      have h2 := val_range (s[0]'h0)
      have h3 : val (s[0]'h0) ≠ 0 := by
        intro h4
        unfold val at h4
        apply h1
        apply UInt8.toNat_inj.1
        show _ = 48
        repeat' split at h4
        all_goals omega
      omega
    have h5 : most < numv base s.data.toList 0 := by
      rw [e]
      show most < numv base (s.data.toList.drop (0 + 1)) (0 * base + val (s[0]'h0))
      have h6 := numv_pow (base := base) (by omega) (s.data.toList.drop (0 + 1)) (0 * base + val (s[0]'h0)) (by omega)
      have h7 : (10 : Int) ^ 19 ≤ 10 ^ (s.data.toList.drop (0 + 1)).length := by
        have := Nat.pow_le_pow_right (n := 10) (by omega) (show 19 ≤ (s.data.toList.drop (0 + 1)).length by simp; omega)
        exact_mod_cast this
      have h8 : 1 * (10 : Int) ^ (s.data.toList.drop (0 + 1)).length ≤ (0 * base + val (s[0]'h0)) * 10 ^ (s.data.toList.drop (0 + 1)).length := Int.mul_le_mul_of_nonneg_right (by omega) (Int.pow_nonneg (by omega))
      have h9 : (10 : Int) ^ 19 = 10000000000000000000 := by decide
      omega
    rw [if_pos h5]
    exact Ev.now _
  · refine Ev.ite_neg h ?_
    have := Number_l2 base most hb hm hm2 s hs hg s.size 0 0 (by omega) (by omega) (by omega)
    simpa using this
theorem extract_one (s : ByteArray) : (s.extract 1 s.size).data.toList = s.data.toList.drop 1 := Lib.extract_to_end s 1
theorem Number_l1 (base most : Int) (hb : base = 10 ∨ base = 16) (hm : 0 ≤ most) (hm2 : most ≤ 1152921504606846975) :
    ∀ (d : Nat) (s : ByteArray), s.size = d → s.size ≤ 140737488355328 → badd base s.data.toList = false →
    Ev (fun k => abutmentref02_Number.l1 k s base most) (if most < numv base s.data.toList 0 then (0, 5) else (numv base s.data.toList 0, 0))
  | 0, s, hd, hs, hg => by
    refine Ev.step (fun k => by rw [abutmentref02_Number.l1]) ?_
    refine Ev.ite_neg (by omega) ?_
    exact Number_j2 base most hb hm hm2 s hs hg (by omega)
  | d + 1, s, hd, hs, hg => by
    refine Ev.step (fun k => by rw [abutmentref02_Number.l1]) ?_
    by_cases h1 : s.size > 1
    · refine Ev.ite_pos (by omega) (Ev.ite_pos (by omega) ?_)
      have e := drop_cons s 0 (by omega)
      rw [List.drop_zero] at e
      have hb0 : bt s 0 = ((s[0]'(by omega)).toNat : Int) := bt_nat s 0 (by omega)
      by_cases h2 : bt s 0 = 48
      · refine Ev.ite_pos h2 (Ev.ite_pos (by omega) ?_)
        have h3 : s[0]'(by omega) = 48 := UInt8.toNat_inj.1 (by show _ = 48; omega)
        have h4 : numv base s.data.toList 0 = numv base (s.data.toList.drop 1) 0 := by
          conv => lhs; rw [e]
          show numv base (s.data.toList.drop (0 + 1)) (0 * base + val (s[0]'(by omega))) = _
          rw [h3, show val 48 = 0 from by decide]
          simp
        have h5 : (s.extract 1 s.size).size = d := by simp; omega
        have := Number_l1 base most hb hm hm2 d (s.extract 1 s.size) h5 (by omega) (by rw [extract_one]; rw [e] at hg; simp [badd] at hg ⊢; exact hg.2)
        rw [extract_one] at this
        rw [h4]
        exact this
      · refine Ev.ite_neg h2 ?_
        exact Number_j2 base most hb hm hm2 s hs hg (fun _ h => by intro h3; apply h2; rw [hb0, h3]; rfl)
    · refine Ev.ite_neg (by omega) ?_
      exact Number_j2 base most hb hm hm2 s hs hg (by omega)
theorem Number_l0 (base most : Int) (hb : base = 10 ∨ base = 16) (hm : 0 ≤ most) (hm2 : most ≤ 1152921504606846975) (s : ByteArray) (hs : s.size ≤ 140737488355328) :
    ∀ (d i : Nat), i + d = s.size → badd base (s.data.toList.take i) = false →
    Ev (fun k => abutmentref02_Number.l0 k s base most (i : Int)) (if badd base s.data.toList = true then (0, 3) else if most < numv base s.data.toList 0 then (0, 5) else (numv base s.data.toList 0, 0))
  | 0, i, hd, hg => by
    rw [List.take_of_length_le (by simp; omega)] at hg
    rw [if_neg (by simp [hg])]
    refine Ev.step (fun k => by rw [abutmentref02_Number.l0]) ?_
    exact Ev.ite_neg (by omega) (Number_l1 base most hb hm hm2 _ s rfl hs hg)
  | d + 1, i, hd, hg => by
    have hi : i < s.size := by omega
    refine Ev.step (fun k => by rw [abutmentref02_Number.l0]) ?_
    refine Ev.ite_pos (by omega) (Ev.ite_pos (by omega) ?_)
    rw [bt_nat s i hi]
    refine Ev.bind (Value_ev _) ?_
    by_cases h : val (s[i]'hi) ≥ base
    · have : badd base s.data.toList = true := by
        unfold badd
        rw [List.any_eq_true]
        exact ⟨s[i]'hi, by simp; exact Array.getElem_mem _, by simpa using h⟩
      rw [if_pos this]
      exact Ev.ite_pos h (Ev.now _)
    · refine Ev.ite_neg h ?_
      rw [show wrap64 ((i : Int) + 1) = ((i + 1 : Nat) : Int) from by rw [w64 (by omega) (by omega)]; rfl]
      refine Number_l0 base most hb hm hm2 s hs d (i + 1) (by omega) ?_
      rw [List.take_succ_eq_append_getElem (by simpa using hi)]
      unfold badd at hg ⊢
      rw [List.any_append, hg]
      have h' : val (s[i]'hi) < base := by omega
      simp
      exact h'
theorem Number_ev (base most : Int) (hb : base = 10 ∨ base = 16) (hm : 0 ≤ most) (hm2 : most ≤ 1152921504606846975) (s : ByteArray) (hs : s.size ≤ 140737488355328) :
    Ev (fun k => abutmentref02_Number.f k s base most) (numSpec base most s.data.toList) := by
  unfold abutmentref02_Number.f numSpec
  by_cases h : s.size = 0
  · have : s.data.toList = [] := by apply List.eq_nil_of_length_eq_zero; rw [Array.length_toList]; exact h
    rw [if_pos this]
    exact Ev.ite_pos (by omega) (Ev.now _)
  · have : ¬ s.data.toList = [] := by
      intro h'
      apply h
      have := congrArg List.length h'
      simpa using this
    rw [if_neg this]
    exact Ev.ite_neg (by omega) (Number_l0 base most hb hm hm2 s hs s.size 0 (by omega) (by simp [badd]))
end Go.Proofs.YtdbokcgjdkbknaaDoor.PNum
namespace Go.Proofs.YtdbokcgjdkbknaaDoor.PLo
open Go.RowKit Go.Proofs.YtdbokcgjdkbknaaDoor.Hand Go.Proofs.YtdbokcgjdkbknaaDoor.PLs Go.Proofs.YtdbokcgjdkbknaaDoor.PTr Go.Proofs.YtdbokcgjdkbknaaDoorW.PrintWords Go.Proofs.YtdbokcgjdkbknaaDoorW.PrintLast Go.Proofs.YtdbokcgjdkbknaaDoorW.PrintMore
set_option linter.unusedVariables false
set_option linter.unusedSectionVars false
set_option linter.unusedSimpArgs false
theorem bt_sub (s : ByteArray) (i j k : Nat) (h : i + k < j) (hj : j ≤ s.size) : bt (s.extract i j) (k : Int) = bt s ((i + k : Nat) : Int) := by
  rw [PTr.bt_nat _ k (by rw [ByteArray.size_extract]; omega), PTr.bt_nat s (i + k) (by omega), ByteArray.getElem_extract]
theorem sub_sub (s : ByteArray) (i j a b : Nat) (hj : j ≤ s.size) (h : i + b ≤ j) : (s.extract i j).extract a b = s.extract (i + a) (i + b) := by
  rw [ByteArray.extract_extract]
  congr 1
  omega
theorem bits_blk (c : Int) {α : Type} (a b : α) : (if c = 32 then a else if c = 9 then a else b) = if blk c = true then a else b := by
  unfold blk
  by_cases h : c = 32
  · simp [h]
  · by_cases h9 : c = 9 <;> simp [h, h9]
theorem rtrim_r (s : ByteArray) (hn : s.size ≤ 140737488351232) (i : Nat) : ∀ j : Nat, i ≤ j → j ≤ s.size → Ev (fun k => abutmentref01_Trim.l1 k (s.extract i j)) (trR s i j)
  | 0, h, h2 => by
    refine Ev.step (f := fun _ => some (s.extract i 0)) (fun k => ?_) (Ev.now _)
    show abutmentref01_Trim.l1 (k + 1) (s.extract i 0) = _
    simp only [abutmentref01_Trim.l1]
    rw [if_neg (by rw [ByteArray.size_extract]; omega)]
  | j + 1, h, h2 => by
    have hz : (s.extract i (j + 1)).size = j + 1 - i := by rw [ByteArray.size_extract]; omega
    unfold trR
    by_cases hij : i < j + 1
    · rw [if_pos hij]
      have ih := rtrim_r s hn i j (by omega) (by omega)
      have hw : wrap64 (((j + 1 - i : Nat) : Int) - 1) = ((j - i : Nat) : Int) := by rw [PLo.w64 (by omega) (by omega)]; omega
      have hbt : bt (s.extract i (j + 1)) ((j - i : Nat) : Int) = bt s (j : Int) := by
        rw [bt_sub s i (j + 1) (j - i) (by omega) h2, show i + (j - i) = j by omega]
      have hx : (s.extract i (j + 1)).extract 0 (((j - i : Nat) : Int)).toNat = s.extract i j := by
        rw [Int.toNat_natCast, sub_sub s i (j + 1) 0 (j - i) h2 (by omega), show i + (j - i) = j by omega]
        rfl
      refine Ev.step (f := fun k => if blk (bt s (j : Int)) = true then abutmentref01_Trim.l1 k (s.extract i j) else some (s.extract i (j + 1))) (fun k => ?_) ?_
      · show abutmentref01_Trim.l1 (k + 1) (s.extract i (j + 1)) = _
        simp only [abutmentref01_Trim.l1]
        rw [hz, hw, hbt, hx]
        rw [if_pos (by omega), if_pos (by omega), if_pos (by omega)]
        simp only [if_pos (show ((j - i : Nat) : Int) ≤ ((j + 1 - i : Nat) : Int) by omega)]
        exact bits_blk _ _ _
      · cases hb : blk (bt s (j : Int))
        · exact Ev.now _
        · exact ih
    · rw [if_neg hij]
      refine Ev.step (f := fun _ => some (s.extract i (j + 1))) (fun k => ?_) (Ev.now _)
      show abutmentref01_Trim.l1 (k + 1) (s.extract i (j + 1)) = _
      simp only [abutmentref01_Trim.l1]
      rw [if_neg (by omega)]
theorem rtrim_l (s : ByteArray) (hn : s.size ≤ 140737488351232) : ∀ d i : Nat, i + d = s.size → Ev (fun k => abutmentref01_Trim.l0 k (s.extract i s.size)) (trL s d i)
  | 0, i, h => by
    have hz : (s.extract i s.size).size = s.size - i := by rw [ByteArray.size_extract]; omega
    refine Ev.step (f := fun k => abutmentref01_Trim.j1 k (s.extract i s.size)) (fun k => ?_) (Ev.step (f := fun k => abutmentref01_Trim.l1 k (s.extract i s.size)) (fun k => ?_) (rtrim_r s hn i s.size (by omega) (Nat.le_refl _)))
    · show abutmentref01_Trim.l0 (k + 1) (s.extract i s.size) = _
      simp only [abutmentref01_Trim.l0]
      rw [if_neg (by omega)]
    · show abutmentref01_Trim.j1 (k + 1) (s.extract i s.size) = _
      rw [abutmentref01_Trim.j1]
  | d + 1, i, h => by
    have hlt : i < s.size := by omega
    have hz : (s.extract i s.size).size = s.size - i := by rw [ByteArray.size_extract]; omega
    have hbt : bt (s.extract i s.size) 0 = bt s (i : Int) := bt_sub s i s.size 0 (by omega) (Nat.le_refl _)
    have hx : (s.extract i s.size).extract 1 (s.size - i) = s.extract (i + 1) s.size := by
      rw [sub_sub s i s.size 1 (s.size - i) (Nat.le_refl _) (by omega), show i + (s.size - i) = s.size by omega]
    unfold trL
    refine Ev.step (f := fun k => if blk (bt s (i : Int)) = true then abutmentref01_Trim.l0 k (s.extract (i + 1) s.size) else abutmentref01_Trim.j1 k (s.extract i s.size)) (fun k => ?_) ?_
    · show abutmentref01_Trim.l0 (k + 1) (s.extract i s.size) = _
      simp only [abutmentref01_Trim.l0]
      rw [hz, hbt, hx]
      rw [if_pos (by omega), if_pos (by omega)]
      simp only [if_pos (show (1 : Int) ≤ ((s.size - i : Nat) : Int) by omega)]
      exact bits_blk _ _ _
    · cases hb : blk (bt s (i : Int))
      · refine Ev.step (f := fun k => abutmentref01_Trim.l1 k (s.extract i s.size)) (fun k => ?_) (rtrim_r s hn i s.size (by omega) (Nat.le_refl _))
        show abutmentref01_Trim.j1 (k + 1) (s.extract i s.size) = _
        rw [abutmentref01_Trim.j1]
      · exact rtrim_l s hn d (i + 1) (by omega)
theorem rtrim_s (s : ByteArray) (hn : s.size ≤ 140737488351232) : Ev (fun k => abutmentref01_Trim.f k s) (trL s s.size 0) := by
  have h := rtrim_l s hn s.size 0 (by omega)
  rw [ByteArray.extract_zero_size] at h
  exact h

/-! parts -/
theorem take_step (s : ByteArray) (fr i : Nat) (h : fr ≤ i) (hi : i < s.size) : (s.data.toList.drop fr).take (i + 1 - fr) = (s.data.toList.drop fr).take (i - fr) ++ [s[i]'hi] := by
  rw [show i + 1 - fr = (i - fr) + 1 by omega, List.take_add_one, List.getElem?_drop, show fr + (i - fr) = i by omega, List.getElem?_eq_getElem (by simpa using hi)]
  rfl
theorem drop_data (s : ByteArray) (fr : Nat) : (s.extract fr s.size).data.toList = s.data.toList.drop fr := Lib.extract_to_end s fr
theorem iB_at {c : UInt8} (r : List UInt8) : ∀ {l : List UInt8}, c ∉ l → Lib.indexByte (l ++ c :: r) c = l.length
  | [], _ => by simp [Lib.indexByte]
  | b :: l, h => by
    have hb : (b == c) = false := by rw [beq_eq_false_iff_ne]; exact fun e => h (by simp [e])
    have ih := iB_at r (l := l) (c := c) (fun h' => h (by simp [h']))
    rw [List.cons_append]
    unfold Lib.indexByte
    rw [hb, ih]
    have : (((l.length : Nat) : Int) == -1) = false := by rw [beq_eq_false_iff_ne]; omega
    rw [this]
    simp
theorem comma_end (s : ByteArray) (fr : Nat) (h : fr ≤ s.size) (hno : (44 : UInt8) ∉ (s.data.toList.drop fr).take (s.size - fr)) : commaS (s.extract fr s.size) = [s.extract fr s.size] := by
  refine comma_none ?_
  show Lib.index (s.extract fr s.size).data.toList [44] = -1
  rw [Lib.index_one, drop_data, iB_no]
  rwa [List.take_of_length_le (by simp)] at hno
theorem comma_at (s : ByteArray) (fr i : Nat) (h : fr ≤ i) (hi : i < s.size) (hc : s[i]'hi = 44) (hno : (44 : UInt8) ∉ (s.data.toList.drop fr).take (i - fr)) :
    commaS (s.extract fr s.size) = s.extract fr i :: commaS (s.extract (i + 1) s.size) := by
  have hlen : ((s.data.toList.drop fr).take (i - fr)).length = i - fr := by
    rw [List.length_take, List.length_drop, Array.length_toList, ByteArray.size_data]
    omega
  have e : s.data.toList.drop fr = (s.data.toList.drop fr).take (i - fr) ++ 44 :: s.data.toList.drop (i + 1) := by
    have h1 := List.take_append_drop (i - fr) (s.data.toList.drop fr)
    rw [List.drop_drop, show fr + (i - fr) = i by omega, drop_cons s i hi, hc] at h1
    exact h1.symm
  have hx : Lib.indexB (s.extract fr s.size) ⟨#[44]⟩ = ((i - fr : Nat) : Int) := by
    show Lib.index (s.extract fr s.size).data.toList [44] = _
    rw [Lib.index_one, drop_data, e, iB_at _ hno, hlen]
  have hz : (s.extract fr s.size).size = s.size - fr := by rw [ByteArray.size_extract]; omega
  rw [comma_some hx, hz, sub_sub s fr s.size 0 (i - fr) (Nat.le_refl _) (by omega), sub_sub s fr s.size (i - fr + 1) (s.size - fr) (Nat.le_refl _) (by omega), show fr + (i - fr) = i by omega, show fr + 0 = fr by omega, show fr + (i - fr + 1) = i + 1 by omega, show fr + (s.size - fr) = s.size by omega]
theorem parts_l (s : ByteArray) (hn : s.size ≤ 1000000) : ∀ (d i fr : Nat) (acc : List ByteArray), i + d = s.size → fr ≤ i → acc.length ≤ i → (44 : UInt8) ∉ (s.data.toList.drop fr).take (i - fr) →
    Ev (fun k => abutmentref18_Parts.l0 k s acc (fr : Int) (i : Int)) (acc ++ (commaS (s.extract fr s.size)).map trimS)
  | 0, i, fr, acc, h, hfr, ha, hno => by
    obtain rfl : i = s.size := by omega
    rw [comma_end s fr hfr hno]
    refine Ev.step (f := fun k => (abutmentref01_Trim.f k (s.extract fr s.size)).bind fun t => if acc.length < 8796093022208 then some (acc ++ [t]) else none) (fun k => ?_) (Ev.bind (rtrim_s _ (by rw [ByteArray.size_extract]; omega)) (Ev.ite_pos (by omega) (Ev.now _)))
    show abutmentref18_Parts.l0 (k + 1) s acc (fr : Int) (s.size : Int) = _
    simp only [abutmentref18_Parts.l0]
    rw [if_neg (by omega), if_pos (by omega), if_pos (by omega)]
    rfl
  | d + 1, i, fr, acc, h, hfr, ha, hno => by
    have hlt : i < s.size := by omega
    by_cases hc : s[i]'hlt = 44
    · rw [comma_at s fr i hfr hlt hc hno, List.map_cons]
      have ih := parts_l s hn d (i + 1) (i + 1) (acc ++ [trimS (s.extract fr i)]) (by omega) (Nat.le_refl _) (by simp; omega) (by simp)
      rw [List.append_assoc] at ih
      refine Ev.step (f := fun k => (abutmentref01_Trim.f k (s.extract fr i)).bind fun t => if acc.length < 8796093022208 then abutmentref18_Parts.l0 k s (acc ++ [t]) ((i + 1 : Nat) : Int) ((i + 1 : Nat) : Int) else none) (fun k => ?_) (Ev.bind (rtrim_s _ (by rw [ByteArray.size_extract]; omega)) (Ev.ite_pos (by omega) ih))
      show abutmentref18_Parts.l0 (k + 1) s acc (fr : Int) (i : Int) = _
      simp only [abutmentref18_Parts.l0]
      rw [if_pos (by omega), if_pos (by omega), PTr.bt_nat s i hlt, hc, wsucc hlt (by omega)]
      rw [if_pos (by decide), if_pos (by omega), if_pos (by omega), if_pos (by omega)]
      rfl
    · have hn2 : ¬ bt s (i : Int) = 44 := by
        rw [PTr.bt_nat s i hlt]
        intro e
        apply hc
        apply UInt8.toNat_inj.1
        have : (44 : UInt8).toNat = 44 := rfl
        omega
      refine Ev.step (f := fun k => abutmentref18_Parts.l0 k s acc (fr : Int) ((i + 1 : Nat) : Int)) (fun k => ?_) (parts_l s hn d (i + 1) fr acc (by omega) (by omega) (by omega) ?_)
      · show abutmentref18_Parts.l0 (k + 1) s acc (fr : Int) (i : Int) = _
        simp only [abutmentref18_Parts.l0]
        rw [if_pos (by omega), if_pos (by omega), if_neg hn2, wsucc hlt (by omega)]
      · rw [take_step s fr i hfr hlt, List.mem_append, List.mem_singleton]
        rintro (h | h)
        · exact hno h
        · exact hc h.symm
theorem parts_s (s : ByteArray) (hn : s.size ≤ 1000000) : Ev (fun k => abutmentref18_Parts.f k s) ((commaS s).map trimS) := by
  have h := parts_l s hn s.size 0 0 [] (by omega) (Nat.le_refl _) (by simp) (by simp)
  rw [ByteArray.extract_zero_size, List.nil_append] at h
  exact h
end Go.Proofs.YtdbokcgjdkbknaaDoor.PLo
namespace Go.Proofs.YtdbokcgjdkbknaaDoor.PLo
open Go.RowKit Go.Proofs.YtdbokcgjdkbknaaDoor.Hand Go.Proofs.YtdbokcgjdkbknaaDoor.PLs Go.Proofs.YtdbokcgjdkbknaaDoor.PTr Go.Proofs.YtdbokcgjdkbknaaDoorW.PrintWords Go.Proofs.YtdbokcgjdkbknaaDoorW.PrintLast Go.Proofs.YtdbokcgjdkbknaaDoorW.PrintMore
set_option linter.unusedVariables false
set_option linter.unusedSectionVars false
set_option linter.unusedSimpArgs false
theorem rdOf_nat (l : List ByteArray) (i : Nat) (h : i < l.length) : rdOf ByteArray.empty l (i : Int) = l[i]'h := by
  unfold rdOf
  simp [List.getD_eq_getElem?_getD, h]
theorem comma_len (s : ByteArray) : (commaS s).length ≤ s.size + 1 := by
  obtain ⟨m, hm⟩ : ∃ m, s.size = m := ⟨_, rfl⟩
  induction m using Nat.strongRecOn generalizing s with
  | _ m ih =>
    rcases Lib.indexB_cases s ⟨#[44]⟩ with h | ⟨i, h, hi⟩
    · rw [comma_none h]; simp
    · have e1 : (⟨#[44]⟩ : ByteArray).size = 1 := rfl
      rw [e1] at hi
      rw [comma_some h, List.length_cons]
      have hz : (s.extract (i + 1) s.size).size = s.size - (i + 1) := by rw [ByteArray.size_extract]; omega
      have := ih _ (by omega) (s.extract (i + 1) s.size) rfl
      omega
theorem numS_ge (s : ByteArray) : 0 ≤ (numS 10 2147483647 s).1 := by
  rw [PNum.numS_spec (.inl rfl) (by omega)]
  unfold PNum.numSpec
  have := PNum.numv_ge (base := 10) (by omega) s.data.toList 0 (by omega)
  repeat' split
  all_goals simp
  all_goals omega
/-- A number so far, before the i-th part. -/
def At (ps : List ByteArray) (i : Nat) (n : Int) : Prop := (i = 0 ∧ n = 0) ∨ (0 < i ∧ 0 ≤ n ∧ runL (ps.take i) = some n)
theorem of_l1 (ps : List ByteArray) (hl : ps.length ≤ 1000000) (hs : ∀ p ∈ ps, p.size ≤ 1000000) : ∀ (d i : Nat) (n : Int), i + d = ps.length → At ps i n → Ev (fun k => abutmentref18_Of.l1 k ps n (i : Int)) (ofR (runL ps))
  | 0, i, n, h, ha => by
    refine Ev.step (f := fun _ => some (n, decide ((ps.length : Int) > 0), 0)) (fun k => ?_) ?_
    · show abutmentref18_Of.l1 (k + 1) ps n (i : Int) = _
      simp only [abutmentref18_Of.l1]
      rw [if_neg (by omega)]
    · rcases ha with ⟨h0, rfl⟩ | ⟨h0, hn, hr⟩
      · have : ps = [] := List.eq_nil_of_length_eq_zero (by omega)
        subst this
        exact Ev.now _
      · rw [List.take_of_length_le (by omega)] at hr
        rw [hr, ofR_some, Int.max_eq_left hn, decide_eq_true hn, decide_eq_true (by omega)]
        exact Ev.now _
  | d + 1, i, n, h, ha => by
    have hi : i < ps.length := by omega
    have hN := PNum.Number_ev 10 2147483647 (.inl rfl) (by omega) (by omega) (ps[i]'hi) (by have := hs _ (List.getElem_mem hi); omega)
    rw [← PNum.numS_spec (.inl rfl) (by omega)] at hN
    have hst : runL (ps.take (i + 1)) = stepL (runL (ps.take i)) (ps[i]'hi) := by
      rw [List.take_add_one, List.getElem?_eq_getElem hi]
      exact runL_snoc _ _
    have hge := numS_ge (ps[i]'hi)
    have hend : runL (ps.take (i + 1)) = none → runL ps = none := fun e => runL_none ⟨ps.drop (i + 1), List.take_append_drop _ _⟩ e
    refine Ev.step (f := fun k => (abutmentref02_Number.f k (ps[i]'hi) 10 2147483647).bind fun b => (if b.2 = 0 then (if (i : Int) > 0 then (if b.1 = n then (abutmentref18_Of.l1 k ps b.1 ((i + 1 : Nat) : Int)) else (some (0, false, 14))) else (abutmentref18_Of.l1 k ps b.1 ((i + 1 : Nat) : Int))) else (some (0, false, 14)))) (fun k => ?_) (Ev.bind hN ?_)
    · show abutmentref18_Of.l1 (k + 1) ps n (i : Int) = _
      simp only [abutmentref18_Of.l1]
      rw [if_pos (by omega), if_pos (by omega), rdOf_nat ps i hi, wsucc hi (by omega)]
    · by_cases hE : (numS 10 2147483647 (ps[i]'hi)).2 = 0
      · refine Ev.ite_pos hE ?_
        rcases ha with ⟨h0, rfl⟩ | ⟨h0, hn, hr⟩
        · subst h0
          refine Ev.ite_neg (by omega) (of_l1 ps hl hs d 1 _ (by omega) (.inr ⟨by omega, hge, ?_⟩))
          rw [hst]
          show stepL (some (-1)) _ = _
          rw [stepL_some, if_neg (by rintro (h | ⟨h, _⟩); exact h hE; omega)]
        · refine Ev.ite_pos (by omega) ?_
          rw [hr, stepL_some] at hst
          by_cases hq : (numS 10 2147483647 (ps[i]'hi)).1 = n
          · refine Ev.ite_pos hq (of_l1 ps hl hs d (i + 1) _ (by omega) (.inr ⟨by omega, hge, ?_⟩))
            rw [hst, if_neg (by rintro (h | ⟨_, h⟩); exact h hE; exact h hq)]
          · rw [if_pos (.inr ⟨hn, hq⟩)] at hst
            rw [hend hst]
            exact Ev.ite_neg hq (Ev.now _)
      · have : runL (ps.take (i + 1)) = none := by
          rw [hst]
          rcases ha with ⟨h0, rfl⟩ | ⟨h0, hn, hr⟩
          · subst h0
            show stepL (some (-1)) _ = _
            rw [stepL_some, if_pos (.inl hE)]
          · rw [hr, stepL_some, if_pos (.inl hE)]
        rw [hend this]
        exact Ev.ite_neg hE (Ev.now _)
theorem of_l0 (vs : List ByteArray) (hl : vs.length ≤ 40) (hs : ∀ v ∈ vs, v.size ≤ 300) : ∀ (d i : Nat) (acc : List ByteArray), i + d = vs.length → acc.length ≤ 301 * i → (∀ p ∈ acc, p.size ≤ 300) → Ev (fun k => abutmentref18_Of.l0 k vs acc (i : Int)) (ofR (runL (acc ++ partsS (vs.drop i))))
  | 0, i, acc, h, ha, hp => by
    rw [List.drop_of_length_le (by omega), show partsS [] = [] from rfl, List.append_nil]
    refine Ev.step (f := fun k => abutmentref18_Of.l1 k acc 0 ((0 : Nat) : Int)) (fun k => ?_) (of_l1 acc (by omega) (fun p hp' => Nat.le_trans (hp p hp') (by omega)) acc.length 0 0 (by omega) (.inl ⟨rfl, rfl⟩))
    show abutmentref18_Of.l0 (k + 1) vs acc (i : Int) = _
    simp only [abutmentref18_Of.l0]
    rw [if_neg (by omega)]
    rfl
  | d + 1, i, acc, h, ha, hp => by
    have hi : i < vs.length := by omega
    have hv := hs _ (List.getElem_mem hi)
    have hP := parts_s (vs[i]'hi) (by omega)
    have hq : ∀ p ∈ (commaS (vs[i]'hi)).map trimS, p.size ≤ 300 := by
      intro p hp'
      obtain ⟨x, hx, rfl⟩ := List.mem_map.1 hp'
      have h2 := comma_le _ x hx
      have h3 := trL_le x x.size 0
      unfold trimS
      omega
    have hlen : ((commaS (vs[i]'hi)).map trimS).length ≤ 301 := by
      rw [List.length_map]
      have := comma_len (vs[i]'hi)
      omega
    have e : acc ++ partsS (vs.drop i) = (acc ++ (commaS (vs[i]'hi)).map trimS) ++ partsS (vs.drop (i + 1)) := by
      rw [List.drop_eq_getElem_cons hi]
      unfold partsS
      rw [List.flatMap_cons, List.append_assoc]
    rw [e]
    have ih := of_l0 vs hl hs d (i + 1) (acc ++ (commaS (vs[i]'hi)).map trimS) (by omega) (by rw [List.length_append]; omega) (by
      intro p hp'
      rcases List.mem_append.1 hp' with h | h
      · exact hp p h
      · exact hq p h)
    refine Ev.step (f := fun k => (abutmentref18_Parts.f k (vs[i]'hi)).bind fun t => if acc.length + t.length < 8796093022208 then abutmentref18_Of.l0 k vs (acc ++ t) ((i + 1 : Nat) : Int) else none) (fun k => ?_) (Ev.bind hP (Ev.ite_pos (by omega) ih))
    show abutmentref18_Of.l0 (k + 1) vs acc (i : Int) = _
    simp only [abutmentref18_Of.l0]
    rw [if_pos (by omega), if_pos (by omega), rdOf_nat vs i hi, wsucc hi (by omega)]
theorem refOf_s (l : List S45) (hf : Few l) : Ev (fun k => abutmentref18_Of.f k l) (ofS l) := by
  have hlen := hf.len
  have hal := allS_len l lenB
  have hav := allS_le (n := lenB) hf.f1
  have hA := refAll_ev l lenB (by omega) (fun x hx => by have := hf.f0 x hx; omega) (by decide)
  have h := of_l0 (allS l lenB) (by omega) hav (allS l lenB).length 0 [] (by omega) (by simp) (by simp)
  rw [List.nil_append] at h
  exact Ev.bind hA h
theorem tame_few {l : List S45} (hf : Few l) : tameB l = true := List.all_eq_true.2 fun x hx => by
  have h0 := hf.f0 x hx
  have h1 := hf.f1 x hx
  rw [decide_eq_true (by omega), decide_eq_true (by omega)]
  rfl
theorem Of_s (l : List S45) (hf : Few l) : length_Of.f l = some (ofS l) := by
  have := hf.len
  unfold length_Of.f
  rw [if_pos ⟨by omega, tame_few hf⟩]
theorem small_few {l : List S45} (hf : Few l) : smallB l = true := List.all_eq_true.2 fun x hx => decide_eq_true (by have := hf.f0 x hx; omega)
theorem set_s (l : List S45) (a : Int) (hl : l.length ≤ 1000000) (hf : smallB l = true) (h0 : -9223372036854775808 ≤ a) (h1 : a ≤ 9223372036854775807) : length_Set.f l a = some (setF l a) := by
  have hlen : (l.filter fun x => !isNamed [lenB] x).length ≤ l.length := List.length_filter_le _ _
  unfold length_Set.f header_Without.f digits_Text.f header_With.f
  rw [if_pos ⟨by omega, by simp, by decide, hf⟩, if_pos ⟨h0, h1⟩]
  simp only [Option.bind_some]
  rw [if_pos (by exact Nat.le_trans hlen (by omega))]
  rfl
theorem text_s (a : Int) (h0 : -9223372036854775808 ≤ a) (h1 : a ≤ 9223372036854775807) : abutmentref02_Text.f a = some (ba (textL a)) := by
  have hl : ∀ n : Nat, n ≤ 9223372036854775808 → (digL 10 n).length ≤ 20 := fun n hn => digL_le 20 10 n (by omega) (by omega) (by omega)
  unfold abutmentref02_Text.f
  by_cases h : a < 0
  · have e : IntKind.u64.wrap ((IntKind.u64.wrap (wrap64 (-(wrap64 (a + 1))))) + 1) = (a.natAbs : Int) := by
      rw [PLo.w64 (n := a + 1) (by omega) (by omega), PLo.w64 (n := -(a + 1)) (by omega) (by omega), IntWalk.u64_in (-(a + 1)) (by omega), IntWalk.u64_in (-(a + 1) + 1) (by omega)]
      omega
    rw [if_pos h, e]
    unfold abutmentref02_Digits.f textL
    rw [if_pos ⟨.inl rfl, by omega, by omega⟩, if_pos h]
    simp only [Option.bind_some]
    have := hl a.natAbs (by omega)
    have hz : (ba (digL (10 : Int).toNat ((a.natAbs : Int)).toNat)).size ≤ 20 := by rw [ba_size]; exact this
    rw [if_pos (by omega)]
    show some (ba [45] ++ ba _) = _
    rw [ba_append]
    rfl
  · rw [if_neg h, IntWalk.u64_in _ (by omega)]
    unfold abutmentref02_Digits.f textL
    rw [if_pos ⟨.inl rfl, by omega, by omega⟩, if_neg h]
    simp only [Option.bind_some]
    rw [show a.natAbs = a.toNat by omega]
    rfl
theorem refSet_s (l : List S45) (a : Int) (hf : Few l) (h0 : -9223372036854775808 ≤ a) (h1 : a ≤ 9223372036854775807) : Ev (fun k => abutmentref18_Set.f k l a) (setF l a) := by
  have hlen := hf.len
  have hw : (woS l lenB).length ≤ l.length := List.length_filter_le _ _
  unfold abutmentref18_Set.f
  refine Ev.bind (refWo_ev l lenB (by omega) (fun x hx => by have := hf.f0 x hx; omega) (by decide)) ?_
  simp only [text_s a h0 h1, Option.bind_some]
  have e := refWith_f (woS l lenB) lenB (ba (textL a)) (by omega)
  have e2 : abutmentref10_With.f (woS l lenB) ⟨#[67, 111, 110, 116, 101, 110, 116, 45, 76, 101, 110, 103, 116, 104]⟩ (ba (textL a)) = some (woS l lenB ++ [⟨lenB, ba (textL a)⟩]) := e
  simp only [e2, Option.bind_some]
  exact Ev.now _
theorem law_Of (l : List S45) (a : Int) (h0 : -9223372036854775808 ≤ a) (h1 : a ≤ 9223372036854775807) : ∃ k, abutmentlaw18_LengthOf.f k l a = some true := by
  apply Ev.rounds
  unfold abutmentlaw18_LengthOf.f
  refine Ev.bind (Few_ev l) ?_
  by_cases hq : fewS l = true
  · have hf := few_of hq
    have hlen := hf.len
    refine Ev.ite_pos hq ?_
    simp only [Of_s l hf, Option.bind_some]
    refine Ev.bind (refOf_s l hf) ?_
    simp only [if_true, beq_self_eq_true, set_s l a (by omega) (small_few hf) h0 h1, Option.bind_some]
    refine Ev.bind (refSet_s l a hf h0 h1) ?_
    have hw : (setF l a).length ≤ 10000000 := by
      unfold setF
      have : (l.filter fun x => !isNamed [lenB] x).length ≤ l.length := List.length_filter_le _ _
      rw [List.length_append, List.length_singleton]
      omega
    refine Ev.bind (Same_ev (setF l a) hw) ?_
    simp only [if_true, slives_s, Option.bind_some]
    exact Ev.now _
  · refine Ev.ite_neg hq ?_
    simp only [slives_s, Option.bind_some]
    exact Ev.now _
end Go.Proofs.YtdbokcgjdkbknaaDoor.PLo
