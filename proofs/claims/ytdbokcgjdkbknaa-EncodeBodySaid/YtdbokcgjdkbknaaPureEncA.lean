/- Plain: right fields, by the program and by the reference. -/
import Derived.Test.YtdbokcgjdkbknaaPE0x1
import Derived.Test.YtdbokcgjdkbknaaPE0x2
import Derived.Test.YtdbokcgjdkbknaaPE1x2
import Derived.IntWalk
namespace Go.Proofs.Ytdbokcgjdkbknaa.PE0
open Go.RowKit Go.Proofs.Ytdbokcgjdkbknaa.Hand Go.Proofs.Ytdbokcgjdkbknaa.PE1 Go.Proofs.YtdbokcgjdkbknaaW.PrintWords Go.Proofs.YtdbokcgjdkbknaaW.PrintLast Go.Proofs.YtdbokcgjdkbknaaW.PrintMore
set_option linter.unusedVariables false
set_option linter.unusedSectionVars false
set_option linter.unusedSimpArgs false
theorem bt_nat (s : ByteArray) (i : Nat) (h : i < s.size) : bt s (i : Int) = ((s[i]'h).toNat : Int) := by
  unfold bt
  simp [h]
theorem w64 {n : Int} (h0 : -9223372036854775808 ≤ n) (h1 : n ≤ 9223372036854775807) : wrap64 n = n := IntWalk.wrap64_in n ⟨h0, h1⟩
theorem Ev.ite_pos {α : Type} {c : Prop} [Decidable c] {g f : Nat → Option α} {r : α} (h : c) (e : Ev g r) : Ev (fun k => if c then g k else f k) r := by
  simpa only [if_pos h] using e
theorem Ev.ite_neg {α : Type} {c : Prop} [Decidable c] {g f : Nat → Option α} {r : α} (h : ¬ c) (e : Ev f r) : Ev (fun k => if c then g k else f k) r := by
  simpa only [if_neg h] using e
theorem rd_nat (l : List S61) (i : Nat) (h : i < l.length) : rd_T61 l (i : Int) = l[i]'h := by
  unfold rd_T61
  simp [List.getD_eq_getElem?_getD, h]
def okF (x : S61) : Bool := decide (x.f0.size ≤ 100) && decide (x.f1.size ≤ 300)
def fewS (l : List S61) : Bool := decide (l.length ≤ 40) && l.all okF
theorem okF_no0 {x : S61} (h : (x.f0.size : Int) > 100) : okF x = false := by unfold okF; rw [decide_eq_false (by omega)]; rfl
theorem okF_no1 {x : S61} (h : (x.f1.size : Int) > 300) : okF x = false := by unfold okF; rw [decide_eq_false (by omega : ¬ x.f1.size ≤ 300)]; simp
theorem okF_yes {x : S61} (h0 : ¬ (x.f0.size : Int) > 100) (h1 : ¬ (x.f1.size : Int) > 300) : okF x = true := by unfold okF; rw [decide_eq_true (by omega), decide_eq_true (by omega)]; rfl
theorem Few_l0 (l : List S61) (hl : l.length ≤ 40) : ∀ d i : Nat, i + d = l.length → Ev (fun k => abutmentlaw10_Few.l0 k l (l.length : Int) (i : Int)) ((l.drop i).all okF)
  | 0, i, hd => by
    refine Ev.step (fun k => by rw [abutmentlaw10_Few.l0]) ?_
    rw [List.drop_of_length_le (by omega)]
    exact Ev.ite_neg (by omega) (Ev.now _)
  | d + 1, i, hd => by
    have hi : i < l.length := by omega
    refine Ev.step (fun k => by rw [abutmentlaw10_Few.l0]) ?_
    rw [List.drop_eq_getElem_cons hi, List.all_cons, rd_nat l i hi]
    refine Ev.ite_pos (by omega) (Ev.ite_pos (by omega) (Ev.ite_pos (by omega) ?_))
    by_cases h0 : ((l[i]'hi).f0.size : Int) > 100
    · rw [okF_no0 h0, Bool.false_and]
      exact Ev.ite_pos h0 (Ev.now _)
    · refine Ev.ite_neg h0 ?_
      by_cases h1 : ((l[i]'hi).f1.size : Int) > 300
      · rw [okF_no1 h1, Bool.false_and]
        exact Ev.ite_pos h1 (Ev.now _)
      · rw [okF_yes h0 h1, Bool.true_and, w64 (by omega) (by omega)]
        exact Ev.ite_neg h1 (Few_l0 l hl d (i + 1) (by omega))
theorem Few_ev (l : List S61) : Ev (fun k => abutmentlaw10_Few.f k l) (fewS l) := by
  unfold abutmentlaw10_Few.f fewS
  by_cases h : (l.length : Int) > 40
  · rw [decide_eq_false (by omega), Bool.false_and]
    exact Ev.ite_pos h (Ev.now _)
  · rw [decide_eq_true (by omega), Bool.true_and]
    exact Ev.ite_neg h (Few_l0 l (by omega) l.length 0 (by omega))
structure Few (l : List S61) : Prop where
  len : l.length ≤ 40
  f0 : ∀ x ∈ l, x.f0.size ≤ 100
  f1 : ∀ x ∈ l, x.f1.size ≤ 300
theorem few_of {l : List S61} (h : fewS l = true) : Few l := by
  unfold fewS at h
  rw [Bool.and_eq_true] at h
  have h2 := List.all_eq_true.1 h.2
  refine ⟨of_decide_eq_true h.1, fun x hx => ?_, fun x hx => ?_⟩ <;>
  · have h3 := h2 x hx
    unfold okF at h3
    rw [Bool.and_eq_true] at h3
    first | exact of_decide_eq_true h3.1 | exact of_decide_eq_true h3.2
theorem tchar_s (s : ByteArray) (i : Nat) (h : i < s.size) : abutmentref01_Tchar.f (bt s i) = some (Oct.tcharI ((s[i]'h).toNat : Int)) := by
  have := bt_range s i
  unfold abutmentref01_Tchar.f
  rw [if_pos this, bt_nat s i h]
theorem wsucc {i n : Nat} (h : i < n) (hn : n ≤ 140737488351232) : wrap64 ((i : Int) + 1) = ((i + 1 : Nat) : Int) := by
  rw [w64 (by omega) (by omega)]; omega
theorem token_l (s : ByteArray) (hn : s.size ≤ 140737488351232) : ∀ (d i : Nat), i + d = s.size → Ev (fun k => abutmentref01_Token.l0 k s (i : Int)) (((s.data.toList.drop i).all fun c => Oct.tcharI c.toNat) && decide (0 < s.size))
  | 0, i, h => by
    refine Ev.step (f := fun _ => some (decide (0 < s.size))) (fun k => ?_) ?_
    · show abutmentref01_Token.l0 (k + 1) s (i : Int) = _
      simp only [abutmentref01_Token.l0]
      rw [if_neg (by omega)]
      congr 1
      rw [Bool.eq_iff_iff]; simp
    · rw [List.drop_of_length_le (by simp; omega)]
      exact Ev.now _
  | d + 1, i, h => by
    have hlt : i < s.size := by omega
    have ih := token_l s hn d (i + 1) (by omega)
    rw [drop_cons s i hlt, List.all_cons, Bool.and_assoc]
    cases hc : Oct.tcharI ((s[i]'hlt).toNat : Int)
    · refine Ev.step (f := fun _ => some false) (fun k => ?_) (by rw [Bool.false_and]; exact Ev.now _)
      show abutmentref01_Token.l0 (k + 1) s (i : Int) = _
      simp only [abutmentref01_Token.l0]
      rw [if_pos (by omega), if_pos (by omega), tchar_s s i hlt, hc]
      rfl
    · rw [Bool.true_and]
      refine Ev.step (f := fun k => abutmentref01_Token.l0 k s ((i + 1 : Nat) : Int)) (fun k => ?_) ih
      show abutmentref01_Token.l0 (k + 1) s (i : Int) = _
      simp only [abutmentref01_Token.l0]
      rw [if_pos (by omega), if_pos (by omega), tchar_s s i hlt, hc, wsucc hlt hn]
      rfl
theorem token_s (s : ByteArray) (hn : s.size ≤ 140737488351232) : Ev (fun k => abutmentref01_Token.f k s) (Oct.tokenS s) := by
  have h := token_l s hn s.size 0 (by omega)
  have e : Oct.tokenS s = (((s.data.toList.drop 0).all fun c => Oct.tcharI c.toNat) && decide (0 < s.size)) := by
    unfold Oct.tokenS
    rw [List.drop_zero, Bool.and_comm, toList_eq]
    congr 1
    rw [Bool.eq_iff_iff]
    cases h : s.data.toList <;> simp [← ByteArray.size_data, ← Array.length_toList, h]
  rw [e]
  exact h
theorem value_l (s : ByteArray) (hn : s.size ≤ 140737488351232) : ∀ (d i : Nat), i + d = s.size → Ev (fun k => abutmentref01_Value.l0 k s (i : Int)) ((s.data.toList.drop i).all fun c => Oct.valueI c.toNat)
  | 0, i, h => by
    refine Ev.step (f := fun _ => some true) (fun k => ?_) ?_
    · show abutmentref01_Value.l0 (k + 1) s (i : Int) = _
      simp only [abutmentref01_Value.l0]
      rw [if_neg (by omega)]
    · rw [List.drop_of_length_le (by simp; omega)]
      exact Ev.now _
  | d + 1, i, h => by
    have hlt : i < s.size := by omega
    have ih := value_l s hn d (i + 1) (by omega)
    rw [drop_cons s i hlt, List.all_cons]
    have hv : Oct.valueI ((s[i]'hlt).toNat : Int) = (bt s i == 9 || (decide (32 ≤ bt s i) && bt s i != 127)) := by rw [bt_nat s i hlt]; rfl
    cases hc : Oct.valueI ((s[i]'hlt).toNat : Int)
    · refine Ev.step (f := fun _ => some false) (fun k => ?_) (by rw [Bool.false_and]; exact Ev.now _)
      rw [hc] at hv
      have hv2 := hv.symm
      simp at hv2
      show abutmentref01_Value.l0 (k + 1) s (i : Int) = _
      simp only [abutmentref01_Value.l0]
      rw [if_pos (by omega), if_pos (by omega), if_neg hv2.1]
      by_cases h1 : bt s i < 32
      · rw [if_pos h1]
      · rw [if_neg h1, if_pos (hv2.2 (by omega))]
    · rw [Bool.true_and]
      rw [hc] at hv
      have hv2 := hv.symm
      simp at hv2
      refine Ev.step (f := fun k => abutmentref01_Value.l0 k s ((i + 1 : Nat) : Int)) (fun k => ?_) ih
      show abutmentref01_Value.l0 (k + 1) s (i : Int) = _
      simp only [abutmentref01_Value.l0]
      rw [if_pos (by omega), if_pos (by omega), wsucc hlt hn]
      rcases hv2 with h1 | ⟨h1, h2⟩
      · rw [if_pos h1, if_neg (by omega)]
      · split <;> first | done | rfl | (rw [if_neg h2]; done) | (rw [if_neg (by omega), if_neg h2]; done) | (rw [if_neg (by omega)]; done)
theorem value_s (s : ByteArray) (hn : s.size ≤ 140737488351232) : Ev (fun k => abutmentref01_Value.f k s) (Oct.valueS s) := value_l s hn s.size 0 (by omega)
/-! trimmed texts -/
def blk (c : Int) : Bool := decide (c = 32) || decide (c = 9)
theorem blank_s (c : Int) : octet_blank.f c = some (blk c) := by
  unfold octet_blank.f blk
  by_cases h : c = 32
  · rw [if_pos h]; simp [h]
  · rw [if_neg h]; by_cases h9 : c = 9 <;> simp [h, h9]
def trR (s : ByteArray) (i : Nat) : Nat → ByteArray
  | 0 => s.extract i 0
  | j + 1 => if i < j + 1 then if blk (bt s j) = true then trR s i j else s.extract i (j + 1) else s.extract i (j + 1)
def trL (s : ByteArray) : Nat → Nat → ByteArray
  | 0, i => trR s i s.size
  | d + 1, i => if blk (bt s i) = true then trL s d (i + 1) else trR s i s.size
theorem wpred {j n : Nat} (h : j < n) (hn : n ≤ 140737488351232) : wrap64 (((j + 1 : Nat) : Int) - 1) = (j : Int) := by
  rw [w64 (by omega) (by omega)]; omega
theorem otrim_r (s : ByteArray) (hn : s.size ≤ 140737488351232) (i : Nat) : ∀ j : Nat, i ≤ j → j ≤ s.size → Ev (fun k => octet_Trim.l1 k s (i : Int) (j : Int)) (trR s i j)
  | 0, h, h2 => by
    refine Ev.step (f := fun _ => some (s.extract i 0)) (fun k => ?_) (Ev.now _)
    show octet_Trim.l1 (k + 1) s (i : Int) ((0 : Nat) : Int) = _
    simp only [octet_Trim.l1]
    rw [if_neg (by omega), if_pos (by omega), if_pos (by omega), if_pos (by omega)]
    rfl
  | j + 1, h, h2 => by
    unfold trR
    by_cases hij : i < j + 1
    · rw [if_pos hij]
      have ih := otrim_r s hn i j (by omega) (by omega)
      cases hb : blk (bt s (j : Int))
      · refine Ev.step (f := fun _ => some (s.extract i (j + 1))) (fun k => ?_) (by simpa using Ev.now _)
        show octet_Trim.l1 (k + 1) s (i : Int) ((j + 1 : Nat) : Int) = _
        simp only [octet_Trim.l1]
        rw [wpred (show j < s.size by omega) hn, if_pos (by omega), if_pos (by omega), if_pos (by omega), blank_s, hb]
        simp only [Option.bind_some]
        rw [if_neg (by decide), if_pos (by omega), if_pos (by omega), if_pos (by omega)]
        rfl
      · rw [if_pos rfl]
        refine Ev.step (f := fun k => octet_Trim.l1 k s (i : Int) (j : Int)) (fun k => ?_) ih
        show octet_Trim.l1 (k + 1) s (i : Int) ((j + 1 : Nat) : Int) = _
        simp only [octet_Trim.l1]
        rw [wpred (show j < s.size by omega) hn, if_pos (by omega), if_pos (by omega), if_pos (by omega), blank_s, hb]
        rfl
    · rw [if_neg hij]
      refine Ev.step (f := fun _ => some (s.extract i (j + 1))) (fun k => ?_) (Ev.now _)
      show octet_Trim.l1 (k + 1) s (i : Int) ((j + 1 : Nat) : Int) = _
      simp only [octet_Trim.l1]
      rw [if_neg (by omega), if_pos (by omega), if_pos (by omega), if_pos (by omega)]
      rfl
theorem otrim_l (s : ByteArray) (hn : s.size ≤ 140737488351232) : ∀ d i : Nat, i + d = s.size → Ev (fun k => octet_Trim.l0 k s (i : Int) (s.size : Int)) (trL s d i)
  | 0, i, h => by
    refine Ev.step (f := fun k => octet_Trim.j1 k s (i : Int) (s.size : Int)) (fun k => ?_) (Ev.step (f := fun k => octet_Trim.l1 k s (i : Int) (s.size : Int)) (fun k => ?_) (otrim_r s hn i s.size (by omega) (Nat.le_refl _)))
    · show octet_Trim.l0 (k + 1) s (i : Int) (s.size : Int) = _
      simp only [octet_Trim.l0]
      rw [if_neg (by omega)]
    · show octet_Trim.j1 (k + 1) s (i : Int) (s.size : Int) = _
      rw [octet_Trim.j1]
  | d + 1, i, h => by
    have hlt : i < s.size := by omega
    unfold trL
    cases hb : blk (bt s (i : Int))
    · rw [if_neg (by decide)]
      refine Ev.step (f := fun k => octet_Trim.j1 k s (i : Int) (s.size : Int)) (fun k => ?_) (Ev.step (f := fun k => octet_Trim.l1 k s (i : Int) (s.size : Int)) (fun k => ?_) (otrim_r s hn i s.size (by omega) (Nat.le_refl _)))
      · show octet_Trim.l0 (k + 1) s (i : Int) (s.size : Int) = _
        simp only [octet_Trim.l0]
        rw [if_pos (by omega), if_pos (by omega), if_pos (by omega), blank_s, hb]
        rfl
      · show octet_Trim.j1 (k + 1) s (i : Int) (s.size : Int) = _
        rw [octet_Trim.j1]
    · rw [if_pos rfl]
      refine Ev.step (f := fun k => octet_Trim.l0 k s ((i + 1 : Nat) : Int) (s.size : Int)) (fun k => ?_) (otrim_l s hn d (i + 1) (by omega))
      show octet_Trim.l0 (k + 1) s (i : Int) (s.size : Int) = _
      simp only [octet_Trim.l0]
      rw [if_pos (by omega), if_pos (by omega), if_pos (by omega), blank_s, hb, wsucc hlt hn]
      rfl
theorem bt_sub (s : ByteArray) (i j k : Nat) (h : i + k < j) (hj : j ≤ s.size) : bt (s.extract i j) (k : Int) = bt s ((i + k : Nat) : Int) := by
  rw [bt_nat _ k (by rw [ByteArray.size_extract]; omega), bt_nat s (i + k) (by omega), ByteArray.getElem_extract]
theorem sub_sub (s : ByteArray) (i j a b : Nat) (hj : j ≤ s.size) (h : i + b ≤ j) : (s.extract i j).extract a b = s.extract (i + a) (i + b) := by
  rw [ByteArray.extract_extract]
  congr 1
  omega
theorem bits_blk (c : Int) {α : Type} (a b : α) : (if c = 32 then a else if c = 9 then a else b) = if blk c = true then a else b := by
  unfold blk
  by_cases h : c = 32
  · simp [h]
  · by_cases h9 : c = 9 <;> simp [h, h9]
theorem rtrim_r (s : ByteArray) (hn : s.size ≤ 140737488351232) (i : Nat) : ∀ j : Nat, i ≤ j → j ≤ s.size → Ev (fun k => abutmentref01_Trim.l1 k (s.extract i j)) (trR s i j)
  | 0, h, h2 => by
    refine Ev.step (f := fun _ => some (s.extract i 0)) (fun k => ?_) (Ev.now _)
    show abutmentref01_Trim.l1 (k + 1) (s.extract i 0) = _
    simp only [abutmentref01_Trim.l1]
    rw [if_neg (by rw [ByteArray.size_extract]; omega)]
  | j + 1, h, h2 => by
    have hz : (s.extract i (j + 1)).size = j + 1 - i := by rw [ByteArray.size_extract]; omega
    unfold trR
    by_cases hij : i < j + 1
    · rw [if_pos hij]
      have ih := rtrim_r s hn i j (by omega) (by omega)
      have hw : wrap64 (((j + 1 - i : Nat) : Int) - 1) = ((j - i : Nat) : Int) := by rw [w64 (by omega) (by omega)]; omega
      have hbt : bt (s.extract i (j + 1)) ((j - i : Nat) : Int) = bt s (j : Int) := by
        rw [bt_sub s i (j + 1) (j - i) (by omega) h2, show i + (j - i) = j by omega]
      have hx : (s.extract i (j + 1)).extract 0 (((j - i : Nat) : Int)).toNat = s.extract i j := by
        rw [Int.toNat_natCast, sub_sub s i (j + 1) 0 (j - i) h2 (by omega), show i + (j - i) = j by omega]
        rfl
      refine Ev.step (f := fun k => if blk (bt s (j : Int)) = true then abutmentref01_Trim.l1 k (s.extract i j) else some (s.extract i (j + 1))) (fun k => ?_) ?_
      · show abutmentref01_Trim.l1 (k + 1) (s.extract i (j + 1)) = _
        simp only [abutmentref01_Trim.l1]
        rw [hz, hw, hbt, hx]
        rw [if_pos (by omega), if_pos (by omega), if_pos (by omega)]
        simp only [if_pos (show ((j - i : Nat) : Int) ≤ ((j + 1 - i : Nat) : Int) by omega)]
        exact bits_blk _ _ _
      · cases hb : blk (bt s (j : Int))
        · exact Ev.now _
        · exact ih
    · rw [if_neg hij]
      refine Ev.step (f := fun _ => some (s.extract i (j + 1))) (fun k => ?_) (Ev.now _)
      show abutmentref01_Trim.l1 (k + 1) (s.extract i (j + 1)) = _
      simp only [abutmentref01_Trim.l1]
      rw [if_neg (by omega)]
theorem rtrim_l (s : ByteArray) (hn : s.size ≤ 140737488351232) : ∀ d i : Nat, i + d = s.size → Ev (fun k => abutmentref01_Trim.l0 k (s.extract i s.size)) (trL s d i)
  | 0, i, h => by
    have hz : (s.extract i s.size).size = s.size - i := by rw [ByteArray.size_extract]; omega
    refine Ev.step (f := fun k => abutmentref01_Trim.j1 k (s.extract i s.size)) (fun k => ?_) (Ev.step (f := fun k => abutmentref01_Trim.l1 k (s.extract i s.size)) (fun k => ?_) (rtrim_r s hn i s.size (by omega) (Nat.le_refl _)))
    · show abutmentref01_Trim.l0 (k + 1) (s.extract i s.size) = _
      simp only [abutmentref01_Trim.l0]
      rw [if_neg (by omega)]
    · show abutmentref01_Trim.j1 (k + 1) (s.extract i s.size) = _
      rw [abutmentref01_Trim.j1]
  | d + 1, i, h => by
    have hlt : i < s.size := by omega
    have hz : (s.extract i s.size).size = s.size - i := by rw [ByteArray.size_extract]; omega
    have hbt : bt (s.extract i s.size) 0 = bt s (i : Int) := bt_sub s i s.size 0 (by omega) (Nat.le_refl _)
    have hx : (s.extract i s.size).extract 1 (s.size - i) = s.extract (i + 1) s.size := by
      rw [sub_sub s i s.size 1 (s.size - i) (Nat.le_refl _) (by omega), show i + (s.size - i) = s.size by omega]
    unfold trL
    refine Ev.step (f := fun k => if blk (bt s (i : Int)) = true then abutmentref01_Trim.l0 k (s.extract (i + 1) s.size) else abutmentref01_Trim.j1 k (s.extract i s.size)) (fun k => ?_) ?_
    · show abutmentref01_Trim.l0 (k + 1) (s.extract i s.size) = _
      simp only [abutmentref01_Trim.l0]
      rw [hz, hbt, hx]
      rw [if_pos (by omega), if_pos (by omega)]
      simp only [if_pos (show (1 : Int) ≤ ((s.size - i : Nat) : Int) by omega)]
      exact bits_blk _ _ _
    · cases hb : blk (bt s (i : Int))
      · refine Ev.step (f := fun k => abutmentref01_Trim.l1 k (s.extract i s.size)) (fun k => ?_) (rtrim_r s hn i s.size (by omega) (Nat.le_refl _))
        show abutmentref01_Trim.j1 (k + 1) (s.extract i s.size) = _
        rw [abutmentref01_Trim.j1]
      · exact rtrim_l s hn d (i + 1) (by omega)
theorem otrim_s (s : ByteArray) (hn : s.size ≤ 140737488351232) : Ev (fun k => octet_Trim.f k s) (trL s s.size 0) := otrim_l s hn s.size 0 (by omega)
theorem rtrim_s (s : ByteArray) (hn : s.size ≤ 140737488351232) : Ev (fun k => abutmentref01_Trim.f k s) (trL s s.size 0) := by
  have h := rtrim_l s hn s.size 0 (by omega)
  rw [ByteArray.extract_zero_size] at h
  exact h
def rightS (n v : ByteArray) : Bool := Oct.tokenS n && (Oct.valueS v && ((trL v v.size 0).toList == v.toList))
theorem right_s (n v : ByteArray) (hn : n.size ≤ 140737488351232) (hv : v.size ≤ 140737488351232) : Ev (fun k => field_Right.f k n v) (rightS n v) := by
  unfold field_Right.f rightS octet_Token.f octet_Value.f
  simp only [Option.bind_some]
  cases Oct.tokenS n
  · exact Ev.now _
  · cases Oct.valueS v
    · exact Ev.now _
    · exact Ev.bind (otrim_s v hv) (Ev.now _)
theorem rright_s (n v : ByteArray) (hn : n.size ≤ 140737488351232) (hv : v.size ≤ 140737488351232) : Ev (fun k => abutmentref09_Right.f k n v) (rightS n v) := by
  unfold abutmentref09_Right.f rightS
  refine Ev.bind (token_s n hn) ?_
  cases Oct.tokenS n
  · exact Ev.now _
  · refine Ev.bind (value_s v hv) ?_
    cases Oct.valueS v
    · exact Ev.now _
    · exact Ev.bind (rtrim_s v hv) (Ev.now _)
end Go.Proofs.Ytdbokcgjdkbknaa.PE0
