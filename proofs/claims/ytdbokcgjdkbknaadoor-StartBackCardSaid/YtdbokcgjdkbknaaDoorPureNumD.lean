/- Plain: numbers read from digits: the program's and the reference's answer are one. -/
import Derived.Test.YtdbokcgjdkbknaaDoorRefNum
import Derived.Test.YtdbokcgjdkbknaaDoorDigF
import Derived.IntWalk
import Derived.Lib.IndexBytes
namespace Go.Proofs.YtdbokcgjdkbknaaDoor.PNum
open Go.RowKit Go.Proofs.YtdbokcgjdkbknaaDoor.Hand Go.Proofs.YtdbokcgjdkbknaaDoorW.PrintWords
set_option linter.unusedVariables false
set_option linter.unusedSimpArgs false
def val (c : UInt8) : Int := if 48 ≤ c.toNat ∧ c.toNat ≤ 57 then c.toNat - 48 else if 65 ≤ c.toNat ∧ c.toNat ≤ 70 then c.toNat - 55 else if 97 ≤ c.toNat ∧ c.toNat ≤ 102 then c.toNat - 87 else 99
theorem val_range (c : UInt8) : 0 ≤ val c ∧ val c ≤ 99 := by
  unfold val
  repeat' split
  all_goals omega
/-- The value of digits, from a number on. -/
def numv (base : Int) (l : List UInt8) (n : Int) : Int := l.foldl (fun n c => n * base + val c) n
def badd (base : Int) (l : List UInt8) : Bool := l.any fun c => decide (base ≤ val c)
def numSpec (base most : Int) (l : List UInt8) : Int × Int :=
  if l = [] then (0, 2) else if badd base l = true then (0, 3) else if most < numv base l 0 then (0, 5) else (numv base l 0, 0)
theorem val_dig (c : UInt8) : val c = if dig c.toNat < 0 then 99 else dig c.toNat := by
  unfold val dig
  repeat' split
  all_goals omega
theorem val_bad {c : UInt8} {base : Int} (hb : base = 10 ∨ base = 16) : (dig c.toNat < 0 ∨ base ≤ dig c.toNat) ↔ base ≤ val c := by
  have := dig_lt c.toNat
  rw [val_dig]
  split <;> omega
theorem val_good {c : UInt8} {base : Int} (hb : base = 10 ∨ base = 16) (h : ¬ (dig c.toNat < 0 ∨ base ≤ dig c.toNat)) : val c = dig c.toNat := by
  rw [val_dig, if_neg (fun h' => h (.inl h'))]
theorem numv_ge {base : Int} (hb : 1 ≤ base) : ∀ (l : List UInt8) (n : Int), 0 ≤ n → n ≤ numv base l n
  | [], n, h => Int.le_refl _
  | c :: l, n, h => by
    have h1 := val_range c
    have h2 : n ≤ n * base := by have := Int.mul_le_mul_of_nonneg_left hb h; omega
    have := numv_ge hb l (n * base + val c) (by omega)
    show n ≤ numv base l (n * base + val c)
    omega
theorem numL_bad {base most : Int} (hb : base = 10 ∨ base = 16) : ∀ (l : List UInt8) (n : Int) (o : Bool), badd base l = true → numL base most l n o = (0, 3)
  | [], _, _, h => absurd h (by simp [badd])
  | c :: l, n, o, h => by
    by_cases hc : dig c.toNat < 0 ∨ base ≤ dig c.toNat
    · exact num_bad hc
    · have hl : badd base l = true := by
        have h1 : ¬ base ≤ val c := fun h' => hc ((val_bad hb).2 h')
        simpa [badd, h1] using h
      by_cases ho : o = true ∨ most < dig c.toNat ∨ (most - dig c.toNat) / base < n
      · rw [num_over hc ho]; exact numL_bad hb l _ _ hl
      · rw [num_ok hc ho]; exact numL_bad hb l _ _ hl
theorem numL_over {base most : Int} (hb : base = 10 ∨ base = 16) : ∀ (l : List UInt8) (n : Int), badd base l = false → numL base most l n true = (0, 5)
  | [], _, _ => rfl
  | c :: l, n, h => by
    have h1 : ¬ (dig c.toNat < 0 ∨ base ≤ dig c.toNat) := by
      intro h'
      have := (val_bad hb).1 h'
      simp [badd, this] at h
    rw [num_over h1 (.inl rfl)]
    exact numL_over hb l n (by simp [badd] at h ⊢; exact h.2)
theorem numL_ok {base most : Int} (hb : base = 10 ∨ base = 16) (hm : 0 ≤ most) : ∀ (l : List UInt8) (n : Int), 0 ≤ n → n ≤ most → badd base l = false →
    numL base most l n false = if most < numv base l n then (0, 5) else (numv base l n, 0)
  | [], n, _, h, _ => by
    show (n, 0) = if most < n then _ else _
    rw [if_neg (by omega)]
    rfl
  | c :: l, n, h0, hn, h => by
    have h1 : ¬ (dig c.toNat < 0 ∨ base ≤ dig c.toNat) := by
      intro h'
      have := (val_bad hb).1 h'
      simp [badd, this] at h
    have h2 : badd base l = false := by simp [badd] at h ⊢; exact h.2
    have hv := val_good hb h1
    have hd := dig_lt c.toNat
    show _ = if most < numv base l (n * base + val c) then (0, 5) else (numv base l (n * base + val c), 0)
    by_cases ho : most < dig c.toNat ∨ (most - dig c.toNat) / base < n
    · rw [num_over h1 (.inr ho), numL_over hb l n h2]
      have h3 : most < n * base + val c := by rcases hb with rfl | rfl <;> omega
      have h4 := numv_ge (base := base) (by omega) l (n * base + val c) (by omega)
      rw [if_pos (by omega)]
    · rw [num_ok h1 (by simp; omega), hv]
      have h3 : 0 ≤ n * base + dig c.toNat ∧ n * base + dig c.toNat ≤ most := by rcases hb with rfl | rfl <;> omega
      exact numL_ok hb hm l _ h3.1 h3.2 h2
theorem numS_spec {base most : Int} (hb : base = 10 ∨ base = 16) (hm : 0 ≤ most) (s : ByteArray) : numS base most s = numSpec base most s.data.toList := by
  unfold numS numSpec
  split
  · rfl
  · cases h : badd base s.data.toList
    · rw [numL_ok hb hm _ 0 (by omega) hm h]
      simp
    · rw [numL_bad hb _ _ _ h]
      simp

/-! the reference's Number -/
theorem bt_nat (s : ByteArray) (i : Nat) (h : i < s.size) : bt s (i : Int) = ((s[i]'h).toNat : Int) := by
  unfold bt
  simp [h]
theorem w64 {n : Int} (h0 : -9223372036854775808 ≤ n) (h1 : n ≤ 9223372036854775807) : wrap64 n = n := IntWalk.wrap64_in n ⟨h0, h1⟩
theorem Value_ev (c : UInt8) : Ev (fun k => abutmentref02_Value.f k (c.toNat : Int)) (val c) := by
  refine ⟨2, fun k hk => ?_⟩
  obtain ⟨m, rfl⟩ : ∃ m, k = m + 2 := ⟨k - 2, by omega⟩
  have hc := UInt8.toNat_lt c
  show abutmentref02_Value.f (m + 2) (c.toNat : Int) = some (val c)
  unfold abutmentref02_Value.f val
  by_cases a : 48 ≤ c.toNat ∧ c.toNat ≤ 57
  · rw [if_pos (by omega), if_pos a]
    simp only [abutmentref02_Value.j0]
    rw [if_pos (by simp; omega), w64 (by rw [w64] <;> omega) (by rw [w64] <;> omega), w64 (by omega) (by omega)]
  · rw [if_neg a]
    by_cases b : 65 ≤ c.toNat ∧ c.toNat ≤ 70
    · rw [if_pos b, if_pos (by omega)]
      simp only [abutmentref02_Value.j0, abutmentref02_Value.j1]
      rw [if_neg (by simp; omega), if_pos (by omega), if_pos (by simp; omega), w64 (by rw [w64] <;> omega) (by rw [w64] <;> omega), w64 (by omega) (by omega)]
    · rw [if_neg b]
      by_cases d : 97 ≤ c.toNat ∧ c.toNat ≤ 102
      · rw [if_pos d, if_pos (by omega)]
        simp only [abutmentref02_Value.j0, abutmentref02_Value.j1]
        rw [if_neg (by simp; omega), if_pos (by omega), if_neg (by simp; omega), if_pos (by omega), if_pos (by omega), w64 (by rw [w64] <;> omega) (by rw [w64] <;> omega), w64 (by omega) (by omega)]
      · rw [if_neg d]
        have e : abutmentref02_Value.j0 (m + 2) (c.toNat : Int) false = some 99 := by
          simp only [abutmentref02_Value.j0, abutmentref02_Value.j1]
          repeat' split
          all_goals first | rfl | (exfalso; simp_all; done) | (exfalso; simp_all; omega) | (exfalso; omega)
        split
        · rw [show decide ((c.toNat : Int) ≤ 57) = false from by simp; omega]
          exact e
        · exact e
theorem Ev.ite_pos {α : Type} {c : Prop} [Decidable c] {g f : Nat → Option α} {r : α} (h : c) (e : Ev g r) : Ev (fun k => if c then g k else f k) r := by
  simpa only [if_pos h] using e
theorem Ev.ite_neg {α : Type} {c : Prop} [Decidable c] {g f : Nat → Option α} {r : α} (h : ¬ c) (e : Ev f r) : Ev (fun k => if c then g k else f k) r := by
  simpa only [if_neg h] using e
theorem Number_l2 (base most : Int) (hb : base = 10 ∨ base = 16) (hm : 0 ≤ most) (hm2 : most ≤ 1152921504606846975) (s : ByteArray) (hs : s.size ≤ 140737488355328) (hg : badd base s.data.toList = false) :
    ∀ (d i : Nat) (n : Int), i + d = s.size → 0 ≤ n → n < 18446744073709551616 →
    Ev (fun k => abutmentref02_Number.l2 k s base most n (i : Int)) (if most < numv base (s.data.toList.drop i) n then (0, 5) else (numv base (s.data.toList.drop i) n, 0))
  | 0, i, n, hd, h0, h1 => by
    refine Ev.step (fun k => by rw [abutmentref02_Number.l2]) ?_
    rw [List.drop_of_length_le (by simp; omega)]
    refine Ev.ite_neg (by omega) (Ev.ite_neg (by omega) ?_)
    show Ev _ (if most < n then _ else _)
    rw [IntWalk.u64_in most (by omega)]
    by_cases h : most < n
    · simp only [if_pos h, gt_iff_lt]
      exact Ev.now _
    · simp only [if_neg h, gt_iff_lt]
      rw [w64 (by omega) (by omega)]
      exact Ev.now _
  | d + 1, i, n, hd, h0, h1 => by
    have hi : i < s.size := by omega
    refine Ev.step (fun k => by rw [abutmentref02_Number.l2]) ?_
    rw [drop_cons s i hi]
    show Ev _ (if most < numv base (s.data.toList.drop (i + 1)) (n * base + val (s[i]'hi)) then _ else (numv base (s.data.toList.drop (i + 1)) (n * base + val (s[i]'hi)), 0))
    have hv := val_range (s[i]'hi)
    have hv2 : val (s[i]'hi) < base := by
      have : s[i]'hi ∈ s.data.toList := by simp; exact Array.getElem_mem _
      have h3 := List.any_eq_false.1 hg _ this
      simpa using h3
    refine Ev.ite_pos (by omega) ?_
    by_cases hbig : n > 1152921504606846975
    · have h4 := numv_ge (base := base) (by omega) (s.data.toList.drop (i + 1)) (n * base + val (s[i]'hi)) (by rcases hb with rfl | rfl <;> omega)
      rw [if_pos (by rcases hb with rfl | rfl <;> omega)]
      exact Ev.ite_pos hbig (Ev.now _)
    · refine Ev.ite_neg hbig (Ev.ite_pos (by omega) ?_)
      rw [bt_nat s i hi]
      refine Ev.bind (Value_ev _) ?_
      have e1 : IntKind.u64.wrap (IntKind.u64.wrap (n * IntKind.u64.wrap base) + IntKind.u64.wrap (val (s[i]'hi))) = n * base + val (s[i]'hi) := by
        rw [IntWalk.u64_in base (by omega), IntWalk.u64_in (val _) (by omega), IntWalk.u64_in (n * base) (by rcases hb with rfl | rfl <;> omega), IntWalk.u64_in _ (by rcases hb with rfl | rfl <;> omega)]
      have e2 : wrap64 ((i : Int) + 1) = ((i + 1 : Nat) : Int) := by rw [w64 (by omega) (by omega)]; rfl
      rw [e1, e2]
      exact Number_l2 base most hb hm hm2 s hs hg d (i + 1) _ (by omega) (by rcases hb with rfl | rfl <;> omega) (by rcases hb with rfl | rfl <;> omega)
theorem numv_pow {base : Int} (hb : 10 ≤ base) : ∀ (l : List UInt8) (n : Int), 1 ≤ n → n * 10 ^ l.length ≤ numv base l n
  | [], n, _ => by simp [numv]
  | c :: l, n, h => by
    have h1 := val_range c
    have h2 : n * 10 ≤ n * base := Int.mul_le_mul_of_nonneg_left hb (by omega)
    have h3 := numv_pow hb l (n * base + val c) (by omega)
    show _ ≤ numv base l (n * base + val c)
    have h4 : (n * 10) * 10 ^ l.length ≤ (n * base + val c) * 10 ^ l.length := Int.mul_le_mul_of_nonneg_right (by omega) (Int.pow_nonneg (by omega))
    have h5 : n * 10 ^ (c :: l).length = (n * 10) * 10 ^ l.length := by rw [List.length_cons, Int.pow_succ]; rw [Int.mul_comm (10 ^ l.length) 10, Int.mul_assoc]
    omega
theorem Number_j2 (base most : Int) (hb : base = 10 ∨ base = 16) (hm : 0 ≤ most) (hm2 : most ≤ 1152921504606846975) (s : ByteArray) (hs : s.size ≤ 140737488355328) (hg : badd base s.data.toList = false)
    (hz : s.size > 1 → ∀ h : 0 < s.size, s[0]'h ≠ 48) : Ev (fun k => abutmentref02_Number.j2 k s base most) (if most < numv base s.data.toList 0 then (0, 5) else (numv base s.data.toList 0, 0)) := by
  refine Ev.step (fun k => by rw [abutmentref02_Number.j2]) ?_
  by_cases h : (s.size : Int) > 19
  · refine Ev.ite_pos h ?_
    have h0 : 0 < s.size := by omega
    have e := drop_cons s 0 h0
    rw [List.drop_zero] at e
    have hd : 1 ≤ val (s[0]'h0) := by
      have h1 := hz (by omega) h0
      have h2 := val_range (s[0]'h0)
      have h3 : val (s[0]'h0) ≠ 0 := by
        intro h4
        unfold val at h4
        apply h1
        apply UInt8.toNat_inj.1
        show _ = 48
        repeat' split at h4
        all_goals omega
      omega
    have h5 : most < numv base s.data.toList 0 := by
      rw [e]
      show most < numv base (s.data.toList.drop (0 + 1)) (0 * base + val (s[0]'h0))
      have h6 := numv_pow (base := base) (by omega) (s.data.toList.drop (0 + 1)) (0 * base + val (s[0]'h0)) (by omega)
      have h7 : (10 : Int) ^ 19 ≤ 10 ^ (s.data.toList.drop (0 + 1)).length := by
        have := Nat.pow_le_pow_right (n := 10) (by omega) (show 19 ≤ (s.data.toList.drop (0 + 1)).length by simp; omega)
        exact_mod_cast this
      have h8 : 1 * (10 : Int) ^ (s.data.toList.drop (0 + 1)).length ≤ (0 * base + val (s[0]'h0)) * 10 ^ (s.data.toList.drop (0 + 1)).length := Int.mul_le_mul_of_nonneg_right (by omega) (Int.pow_nonneg (by omega))
      have h9 : (10 : Int) ^ 19 = 10000000000000000000 := by decide
      omega
    rw [if_pos h5]
    exact Ev.now _
  · refine Ev.ite_neg h ?_
    have := Number_l2 base most hb hm hm2 s hs hg s.size 0 0 (by omega) (by omega) (by omega)
    simpa using this
theorem extract_one (s : ByteArray) : (s.extract 1 s.size).data.toList = s.data.toList.drop 1 := Lib.extract_to_end s 1
theorem Number_l1 (base most : Int) (hb : base = 10 ∨ base = 16) (hm : 0 ≤ most) (hm2 : most ≤ 1152921504606846975) :
    ∀ (d : Nat) (s : ByteArray), s.size = d → s.size ≤ 140737488355328 → badd base s.data.toList = false →
    Ev (fun k => abutmentref02_Number.l1 k s base most) (if most < numv base s.data.toList 0 then (0, 5) else (numv base s.data.toList 0, 0))
  | 0, s, hd, hs, hg => by
    refine Ev.step (fun k => by rw [abutmentref02_Number.l1]) ?_
    refine Ev.ite_neg (by omega) ?_
    exact Number_j2 base most hb hm hm2 s hs hg (by omega)
  | d + 1, s, hd, hs, hg => by
    refine Ev.step (fun k => by rw [abutmentref02_Number.l1]) ?_
    by_cases h1 : s.size > 1
    · refine Ev.ite_pos (by omega) (Ev.ite_pos (by omega) ?_)
      have e := drop_cons s 0 (by omega)
      rw [List.drop_zero] at e
      have hb0 : bt s 0 = ((s[0]'(by omega)).toNat : Int) := bt_nat s 0 (by omega)
      by_cases h2 : bt s 0 = 48
      · refine Ev.ite_pos h2 (Ev.ite_pos (by omega) ?_)
        have h3 : s[0]'(by omega) = 48 := UInt8.toNat_inj.1 (by show _ = 48; omega)
        have h4 : numv base s.data.toList 0 = numv base (s.data.toList.drop 1) 0 := by
          conv => lhs; rw [e]
          show numv base (s.data.toList.drop (0 + 1)) (0 * base + val (s[0]'(by omega))) = _
          rw [h3, show val 48 = 0 from by decide]
          simp
        have h5 : (s.extract 1 s.size).size = d := by simp; omega
        have := Number_l1 base most hb hm hm2 d (s.extract 1 s.size) h5 (by omega) (by rw [extract_one]; rw [e] at hg; simp [badd] at hg ⊢; exact hg.2)
        rw [extract_one] at this
        rw [h4]
        exact this
      · refine Ev.ite_neg h2 ?_
        exact Number_j2 base most hb hm hm2 s hs hg (fun _ h => by intro h3; apply h2; rw [hb0, h3]; rfl)
    · refine Ev.ite_neg (by omega) ?_
      exact Number_j2 base most hb hm hm2 s hs hg (by omega)
theorem Number_l0 (base most : Int) (hb : base = 10 ∨ base = 16) (hm : 0 ≤ most) (hm2 : most ≤ 1152921504606846975) (s : ByteArray) (hs : s.size ≤ 140737488355328) :
    ∀ (d i : Nat), i + d = s.size → badd base (s.data.toList.take i) = false →
    Ev (fun k => abutmentref02_Number.l0 k s base most (i : Int)) (if badd base s.data.toList = true then (0, 3) else if most < numv base s.data.toList 0 then (0, 5) else (numv base s.data.toList 0, 0))
  | 0, i, hd, hg => by
    rw [List.take_of_length_le (by simp; omega)] at hg
    rw [if_neg (by simp [hg])]
    refine Ev.step (fun k => by rw [abutmentref02_Number.l0]) ?_
    exact Ev.ite_neg (by omega) (Number_l1 base most hb hm hm2 _ s rfl hs hg)
  | d + 1, i, hd, hg => by
    have hi : i < s.size := by omega
    refine Ev.step (fun k => by rw [abutmentref02_Number.l0]) ?_
    refine Ev.ite_pos (by omega) (Ev.ite_pos (by omega) ?_)
    rw [bt_nat s i hi]
    refine Ev.bind (Value_ev _) ?_
    by_cases h : val (s[i]'hi) ≥ base
    · have : badd base s.data.toList = true := by
        unfold badd
        rw [List.any_eq_true]
        exact ⟨s[i]'hi, by simp; exact Array.getElem_mem _, by simpa using h⟩
      rw [if_pos this]
      exact Ev.ite_pos h (Ev.now _)
    · refine Ev.ite_neg h ?_
      rw [show wrap64 ((i : Int) + 1) = ((i + 1 : Nat) : Int) from by rw [w64 (by omega) (by omega)]; rfl]
      refine Number_l0 base most hb hm hm2 s hs d (i + 1) (by omega) ?_
      rw [List.take_succ_eq_append_getElem (by simpa using hi)]
      unfold badd at hg ⊢
      rw [List.any_append, hg]
      have h' : val (s[i]'hi) < base := by omega
      simp
      exact h'
theorem Number_ev (base most : Int) (hb : base = 10 ∨ base = 16) (hm : 0 ≤ most) (hm2 : most ≤ 1152921504606846975) (s : ByteArray) (hs : s.size ≤ 140737488355328) :
    Ev (fun k => abutmentref02_Number.f k s base most) (numSpec base most s.data.toList) := by
  unfold abutmentref02_Number.f numSpec
  by_cases h : s.size = 0
  · have : s.data.toList = [] := by apply List.eq_nil_of_length_eq_zero; rw [Array.length_toList]; exact h
    rw [if_pos this]
    exact Ev.ite_pos (by omega) (Ev.now _)
  · have : ¬ s.data.toList = [] := by
      intro h'
      apply h
      have := congrArg List.length h'
      simpa using this
    rw [if_neg this]
    exact Ev.ite_neg (by omega) (Number_l0 base most hb hm hm2 s hs s.size 0 (by omega) (by simp [badd]))
end Go.Proofs.YtdbokcgjdkbknaaDoor.PNum
