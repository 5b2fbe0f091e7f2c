/- Plain: versions, tokens, requests' first lines: the program's and the reference's answers are one. -/
import Derived.Test.YtdbokcgjdkbknaaDoorPureWords
namespace Go.Proofs.YtdbokcgjdkbknaaDoor.PSa
open Go.RowKit Go.Proofs.YtdbokcgjdkbknaaDoor.Hand Go.Proofs.YtdbokcgjdkbknaaDoorW.PrintWords
set_option linter.unusedVariables false
set_option linter.unusedSimpArgs false
def dgt (r : Int) : Bool := decide (48 ≤ r) && decide (r ≤ 57)
theorem digit_s (r : Int) : start_digit.f r = some (dgt r) := by unfold start_digit.f dgt; split <;> simp [*] <;> omega
theorem rdigit_s (r : Int) : abutmentref15_digit.f r = some (dgt r) := by unfold abutmentref15_digit.f dgt; split <;> simp [*] <;> omega
def formedB (s : ByteArray) : Bool := decide (s.size = 8) && (decide ((s.extract 0 5).toList = ([72, 84, 84, 80, 47] : List UInt8)) && (dgt (bt s 5) && (decide (bt s 6 = 46) && dgt (bt s 7))))
theorem formed_s (s : ByteArray) : start_formed.f s = some (formedB s) := by
  unfold start_formed.f formedB
  by_cases hs : s.size = 8
  · have hp : strings_HasPrefix.f s (⟨#[72, 84, 84, 80, 47]⟩ : ByteArray) = some (decide ((s.extract 0 5).toList = ([72, 84, 84, 80, 47] : List UInt8))) := by
      have h5 : (⟨#[72, 84, 84, 80, 47]⟩ : ByteArray).size = 5 := rfl
      have hl : (⟨#[72, 84, 84, 80, 47]⟩ : ByteArray).toList = ([72, 84, 84, 80, 47] : List UInt8) := by rw [toList_eq]
      unfold strings_HasPrefix.f stringslite_HasPrefix.f
      rw [h5, hl, hs]
      rw [if_pos (by omega), if_pos (by omega), if_pos (by omega)]
      simp only [Option.bind_some]
      congr 1
      rw [Bool.eq_iff_iff]
      simp
    rw [hp, hs, if_pos (by omega), decide_eq_true (rfl : (8 : Nat) = 8), Bool.true_and]
    simp only [Option.bind_some, digit_s]
    by_cases h1 : (s.extract 0 5).toList = ([72, 84, 84, 80, 47] : List UInt8)
    · rw [decide_eq_true h1, if_pos rfl, if_pos (by omega), Bool.true_and]
      cases dgt (bt s 5)
      · rw [if_neg (by simp)]; rfl
      · rw [if_pos rfl, if_pos (by omega), Bool.true_and]
        by_cases h2 : bt s 6 = 46
        · rw [if_pos h2, decide_eq_true h2, if_pos (by omega)]; rfl
        · rw [if_neg h2, decide_eq_false h2]; rfl
    · rw [decide_eq_false h1, if_neg (by simp)]; rfl
  · rw [if_neg (by omega), decide_eq_false hs]; rfl
theorem rformed_s (s : ByteArray) : abutmentref15_Formed.f s = some (formedB s) := by
  unfold abutmentref15_Formed.f formedB
  by_cases hs : s.size = 8
  · rw [hs, if_pos (by omega), if_pos (by omega), if_pos (by omega), decide_eq_true (rfl : (8 : Nat) = 8), Bool.true_and]
    simp only [rdigit_s, Option.bind_some]
    by_cases h1 : (s.extract 0 5).toList = ([72, 84, 84, 80, 47] : List UInt8)
    · rw [decide_eq_true h1, if_pos h1, if_pos (by omega), Bool.true_and]
      cases dgt (bt s 5)
      · rw [if_neg (by simp)]; rfl
      · rw [if_pos rfl, if_pos (by omega), Bool.true_and]
        by_cases h2 : bt s 6 = 46
        · rw [if_pos h2, decide_eq_true h2, if_pos (by omega)]; rfl
        · rw [if_neg h2, decide_eq_false h2]; rfl
    · rw [decide_eq_false h1, if_neg h1]; rfl
  · rw [if_neg (by omega), decide_eq_false hs]; rfl
theorem formedB_size {s : ByteArray} (h : formedB s = true) : s.size = 8 := by
  unfold formedB at h
  by_cases hs : s.size = 8
  · exact hs
  · rw [decide_eq_false hs] at h; cases h
theorem formedB_seven {s : ByteArray} (h : formedB s = true) : 48 ≤ bt s 7 ∧ bt s 7 ≤ 57 := by
  unfold formedB dgt at h
  simp only [Bool.and_eq_true, decide_eq_true_eq] at h
  exact h.2.2.2.2
def minorB (s : ByteArray) : Int × Int := if formedB s = true then if bt s 5 = 49 then if bt s 7 = 48 then (0, 0) else (1, 0) else (0, 9) else (0, 3)
theorem minor_s (s : ByteArray) : start_Minor.f s = some (minorB s) := by
  unfold start_Minor.f minorB
  rw [formed_s]
  simp only [Option.bind_some]
  by_cases h : formedB s = true
  · have hs := formedB_size h
    rw [if_pos h, if_pos h, hs, if_pos (by omega)]
    by_cases h5 : bt s 5 = 49
    · rw [if_pos h5, if_pos h5, if_pos (by omega)]; split <;> rfl
    · rw [if_neg h5, if_neg h5]
  · rw [if_neg h, if_neg h]
theorem rminor_s (s : ByteArray) : abutmentref15_Minor.f s = some (minorB s) := by
  unfold abutmentref15_Minor.f minorB
  rw [rformed_s]
  simp only [Option.bind_some]
  by_cases h : formedB s = true
  · have hs := formedB_size h
    have h7 := formedB_seven h
    rw [if_pos h, if_pos h, hs, if_pos (by omega)]
    by_cases h5 : bt s 5 = 49
    · rw [if_pos h5, if_pos h5, if_pos (by omega), w64 (n := bt s 7) (by omega) (by omega), w64 (by omega) (by omega)]
      unfold mn
      split <;> split <;> simp <;> omega
    · rw [if_neg h5, if_neg h5]
  · rw [if_neg h, if_neg h]
/-! tokens, visible texts -/
theorem tchar_s (s : ByteArray) (i : Nat) (h : i < s.size) : abutmentref01_Tchar.f (bt s i) = some (Oct.tcharI ((s[i]'h).toNat : Int)) := by
  have := bt_range s i
  unfold abutmentref01_Tchar.f
  rw [if_pos this, bt_nat s i h]
theorem wsucc {i n : Nat} (h : i < n) (hn : n ≤ 140737488351232) : wrap64 ((i : Int) + 1) = ((i + 1 : Nat) : Int) := by
  rw [w64 (by omega) (by omega)]; omega
theorem token_l (s : ByteArray) (hn : s.size ≤ 140737488351232) : ∀ (d i : Nat), i + d = s.size → Ev (fun k => abutmentref01_Token.l0 k s (i : Int)) (((s.data.toList.drop i).all fun c => Oct.tcharI c.toNat) && decide (0 < s.size))
  | 0, i, h => by
    refine Ev.step (f := fun _ => some (decide (0 < s.size))) (fun k => ?_) ?_
    · show abutmentref01_Token.l0 (k + 1) s (i : Int) = _
      simp only [abutmentref01_Token.l0]
      rw [if_neg (by omega)]
      congr 1
      rw [Bool.eq_iff_iff]; simp
    · rw [List.drop_of_length_le (by simp; omega)]
      exact Ev.now _
  | d + 1, i, h => by
    have hlt : i < s.size := by omega
    have ih := token_l s hn d (i + 1) (by omega)
    rw [drop_cons s i hlt, List.all_cons, Bool.and_assoc]
    cases hc : Oct.tcharI ((s[i]'hlt).toNat : Int)
    · refine Ev.step (f := fun _ => some false) (fun k => ?_) (by rw [Bool.false_and]; exact Ev.now _)
      show abutmentref01_Token.l0 (k + 1) s (i : Int) = _
      simp only [abutmentref01_Token.l0]
      rw [if_pos (by omega), if_pos (by omega), tchar_s s i hlt, hc]
      rfl
    · rw [Bool.true_and]
      refine Ev.step (f := fun k => abutmentref01_Token.l0 k s ((i + 1 : Nat) : Int)) (fun k => ?_) ih
      show abutmentref01_Token.l0 (k + 1) s (i : Int) = _
      simp only [abutmentref01_Token.l0]
      rw [if_pos (by omega), if_pos (by omega), tchar_s s i hlt, hc, wsucc hlt hn]
      rfl
theorem token_s (s : ByteArray) (hn : s.size ≤ 140737488351232) : Ev (fun k => abutmentref01_Token.f k s) (Oct.tokenS s) := by
  have h := token_l s hn s.size 0 (by omega)
  have e : Oct.tokenS s = (((s.data.toList.drop 0).all fun c => Oct.tcharI c.toNat) && decide (0 < s.size)) := by
    unfold Oct.tokenS
    rw [List.drop_zero, Bool.and_comm, toList_eq]
    congr 1
    rw [Bool.eq_iff_iff]
    cases h : s.data.toList <;> simp [← ByteArray.size_data, ← Array.length_toList, h]
  rw [e]
  exact h
theorem visible_l (s : ByteArray) (hn : s.size ≤ 140737488351232) : ∀ (d i : Nat), i + d = s.size → Ev (fun k => abutmentref01_Visible.l0 k s (i : Int)) (((s.data.toList.drop i).all fun c => Oct.visibleI c.toNat) && decide (0 < s.size))
  | 0, i, h => by
    refine Ev.step (f := fun _ => some (decide (0 < s.size))) (fun k => ?_) ?_
    · show abutmentref01_Visible.l0 (k + 1) s (i : Int) = _
      simp only [abutmentref01_Visible.l0]
      rw [if_neg (by omega)]
      congr 1
      rw [Bool.eq_iff_iff]; simp
    · rw [List.drop_of_length_le (by simp; omega)]
      exact Ev.now _
  | d + 1, i, h => by
    have hlt : i < s.size := by omega
    have ih := visible_l s hn d (i + 1) (by omega)
    rw [drop_cons s i hlt, List.all_cons, Bool.and_assoc]
    have hv : Oct.visibleI ((s[i]'hlt).toNat : Int) = (decide (32 < bt s i) && decide (bt s i < 127)) := by rw [bt_nat s i hlt]; rfl
    cases hc : Oct.visibleI ((s[i]'hlt).toNat : Int)
    · refine Ev.step (f := fun _ => some false) (fun k => ?_) (by rw [Bool.false_and]; exact Ev.now _)
      rw [hc] at hv
      show abutmentref01_Visible.l0 (k + 1) s (i : Int) = _
      simp only [abutmentref01_Visible.l0]
      rw [if_pos (by omega), if_pos (by omega)]
      by_cases h1 : bt s i < 33
      · rw [if_pos h1]
      · rw [if_neg h1]
        by_cases h2 : bt s i > 126
        · rw [if_pos h2]
        · exfalso
          rw [decide_eq_true (by omega), decide_eq_true (by omega)] at hv
          cases hv
    · rw [Bool.true_and]
      rw [hc] at hv
      have hv2 := hv.symm
      simp only [Bool.and_eq_true, decide_eq_true_eq] at hv2
      refine Ev.step (f := fun k => abutmentref01_Visible.l0 k s ((i + 1 : Nat) : Int)) (fun k => ?_) ih
      show abutmentref01_Visible.l0 (k + 1) s (i : Int) = _
      simp only [abutmentref01_Visible.l0]
      rw [if_pos (by omega), if_pos (by omega), if_neg (by omega), if_neg (by omega), wsucc hlt hn]
theorem visible_s (s : ByteArray) (hn : s.size ≤ 140737488351232) : Ev (fun k => abutmentref01_Visible.f k s) (Oct.visibleS s) := by
  have h := visible_l s hn s.size 0 (by omega)
  have e : Oct.visibleS s = (((s.data.toList.drop 0).all fun c => Oct.visibleI c.toNat) && decide (0 < s.size)) := by
    unfold Oct.visibleS
    rw [List.drop_zero, Bool.and_comm, toList_eq]
    congr 1
    rw [Bool.eq_iff_iff]
    cases h : s.data.toList <;> simp [← ByteArray.size_data, ← Array.length_toList, h]
  rw [e]
  exact h
/-! requests' first lines -/
abbrev HeadR := ByteArray × ByteArray × Int × Int × ByteArray × List S45 × Int
def badR (e : Int) : HeadR := (⟨#[]⟩, ⟨#[]⟩, 0, 0, ⟨#[]⟩, [], e)
def reqS (s : ByteArray) : HeadR :=
  match wordsS s with
  | [a, b, c] => reqR s a b (minorB c).1 (minorB c).2
  | _ => badR 3
theorem request_s (s : ByteArray) (h : s.size < 4294967281) : start_Request.f s = some (reqS s) := by
  unfold start_Request.f reqS
  rw [if_pos h]
  split
  · rename_i a b c hw
    rw [minor_s, hw]
    rfl
  · rename_i hw
    split
    · rename_i a b c hw2
      exact absurd hw2 (hw a b c)
    · rfl
def posL : List UInt8 → Nat → List Int
  | [], _ => []
  | c :: l, i => if c = 32 then (i : Int) :: posL l (i + 1) else posL l (i + 1)
theorem posL_no : ∀ {l : List UInt8} {i : Nat}, (32 : UInt8) ∉ l → posL l i = []
  | [], _, _ => rfl
  | c :: l, i, h => by
    have hc : ¬ c = 32 := fun e => h (by simp [e])
    rw [posL, if_neg hc]
    exact posL_no (fun h' => h (by simp [h']))
theorem posL_at (b : List UInt8) : ∀ {a : List UInt8} {i : Nat}, (32 : UInt8) ∉ a → posL (a ++ 32 :: b) i = ((i + a.length : Nat) : Int) :: posL b (i + a.length + 1)
  | [], i, _ => by simp [posL]
  | c :: a, i, h => by
    have hc : ¬ c = 32 := fun e => h (by simp [e])
    rw [List.cons_append, posL, if_neg hc, posL_at b (a := a) (fun h' => h (by simp [h']))]
    rw [List.length_cons, show i + 1 + a.length = i + (a.length + 1) by omega]
theorem refreq_l (s : ByteArray) (hn : s.size ≤ 100000) (R : HeadR) : ∀ (d i : Nat) (at_ : List Int), i + d = s.size → at_.length ≤ i →
    Ev (fun k => abutmentref15_Request.l0 k s (at_ ++ posL (s.data.toList.drop i) i) (s.size : Int)) R → Ev (fun k => abutmentref15_Request.l0 k s at_ (i : Int)) R
  | 0, i, at_, h, hl, he => by
    obtain rfl : i = s.size := by omega
    rw [List.drop_of_length_le (by simp), posL, List.append_nil] at he
    exact he
  | d + 1, i, at_, h, hl, he => by
    have hlt : i < s.size := by omega
    rw [drop_cons s i hlt, posL] at he
    have hb := bt_nat s i hlt
    by_cases hc : s[i]'hlt = 32
    · rw [if_pos hc] at he
      have he2 := refreq_l s hn R d (i + 1) (at_ ++ [(i : Int)]) (by omega) (by simp; omega) (by rw [List.append_assoc]; exact he)
      refine Ev.step (f := fun k => abutmentref15_Request.l0 k s (at_ ++ [(i : Int)]) ((i + 1 : Nat) : Int)) (fun k => ?_) he2
      show abutmentref15_Request.l0 (k + 1) s at_ (i : Int) = _
      rw [hc] at hb
      simp only [abutmentref15_Request.l0]
      rw [if_pos (by omega), if_pos (by omega), if_pos (by rw [hb]; rfl), if_pos (by omega), wsucc hlt (by omega)]
    · rw [if_neg hc] at he
      have he2 := refreq_l s hn R d (i + 1) at_ (by omega) (by omega) he
      refine Ev.step (f := fun k => abutmentref15_Request.l0 k s at_ ((i + 1 : Nat) : Int)) (fun k => ?_) he2
      have hc2 : ¬ bt s i = 32 := by
        rw [hb]
        intro e
        apply hc
        apply UInt8.toNat_inj.1
        have : (32 : UInt8).toNat = 32 := rfl
        omega
      show abutmentref15_Request.l0 (k + 1) s at_ (i : Int) = _
      simp only [abutmentref15_Request.l0]
      rw [if_pos (by omega), if_pos (by omega), if_neg hc2, wsucc hlt (by omega)]
theorem refreq_bad (s : ByteArray) (x : List Int) (h : ¬ x.length = 2) : Ev (fun k => abutmentref15_Request.l0 k s x (s.size : Int)) (badR 3) := by
  refine Ev.step (f := fun _ => some (badR 3)) (fun k => ?_) (Ev.now _)
  show abutmentref15_Request.l0 (k + 1) s x (s.size : Int) = _
  simp only [abutmentref15_Request.l0]
  rw [if_neg (by omega), if_neg (by omega)]
  rfl
theorem refreq_two (a b c : List UInt8) (hn : (ba (a ++ 32 :: (b ++ 32 :: c))).size ≤ 100000) :
    Ev (fun k => abutmentref15_Request.l0 k (ba (a ++ 32 :: (b ++ 32 :: c))) [(a.length : Int), ((a.length + 1 + b.length : Nat) : Int)] ((ba (a ++ 32 :: (b ++ 32 :: c))).size : Int)) (reqR (ba (a ++ 32 :: (b ++ 32 :: c))) (ba a) (ba b) (minorB (ba c)).1 (minorB (ba c)).2) := by
  have hz : (ba (a ++ 32 :: (b ++ 32 :: c))).size = a.length + 1 + b.length + 1 + c.length := by rw [ba_size]; simp; omega
  generalize hs : ba (a ++ 32 :: (b ++ 32 :: c)) = s at *
  have eA : s.extract 0 ((a.length : Int)).toNat = ba a := by
    rw [← hs, ba_extract]; congr 1; simp
  have eB : s.extract (((a.length + 1 : Nat) : Int)).toNat (((a.length + 1 + b.length : Nat) : Int)).toNat = ba b := by
    rw [← hs, ba_extract]; congr 1
    rw [show a ++ 32 :: (b ++ 32 :: c) = ((a ++ [32]) ++ b) ++ 32 :: c by simp, Int.toNat_natCast, Int.toNat_natCast, show a.length + 1 + b.length = ((a ++ [32]) ++ b).length by (simp; omega), List.take_left, show a.length + 1 = (a ++ [32]).length by simp, List.drop_left]
  have eC : s.extract (((a.length + 1 + b.length + 1 : Nat) : Int)).toNat s.size = ba c := by
    rw [hz, ← hs, ba_extract]; congr 1
    rw [List.take_of_length_le (by simp; omega), show a ++ 32 :: (b ++ 32 :: c) = ((a ++ [32]) ++ b ++ [32]) ++ c by simp, Int.toNat_natCast, show a.length + 1 + b.length + 1 = ((a ++ [32]) ++ b ++ [32]).length by (simp; omega), List.drop_left]
  have hr0 : rd [(a.length : Int), ((a.length + 1 + b.length : Nat) : Int)] 0 = (a.length : Int) := rfl
  have hr1 : rd [(a.length : Int), ((a.length + 1 + b.length : Nat) : Int)] 1 = ((a.length + 1 + b.length : Nat) : Int) := rfl
  have hw0 : wrap64 ((a.length : Int) + 1) = ((a.length + 1 : Nat) : Int) := by rw [w64 (by omega) (by omega)]; omega
  have hw1 : wrap64 (((a.length + 1 + b.length : Nat) : Int) + 1) = ((a.length + 1 + b.length + 1 : Nat) : Int) := by rw [w64 (by omega) (by omega)]; omega
  refine Ev.step (f := fun k => (abutmentref01_Token.f k (ba a)).bind fun t116 => (if t116 = true then ((abutmentref01_Visible.f k (ba b)).bind fun t117 => (if t117 = true then ((abutmentref15_Minor.f (ba c)).bind fun bt118 => (if bt118.2 = 0 then (some (ba a, ba b, bt118.1, 0, (⟨#[]⟩ : ByteArray), ([] : List S45), 0)) else (some (badR bt118.2)))) else (some (badR 11)))) else (some (badR 6)))) (fun k => ?_) ?_
  · show abutmentref15_Request.l0 (k + 1) s _ (s.size : Int) = _
    simp only [abutmentref15_Request.l0]
    rw [hr0, hr1, hw0, hw1, eA, eB, eC]
    rw [if_neg (by omega), if_pos (by simp), if_pos (by simp), if_pos (by omega), if_pos (by omega), if_pos (by simp), if_pos (by omega), if_pos (by omega), if_pos (by omega), if_pos (by omega), if_pos (by omega)]
    rfl
  · refine Ev.bind (token_s (ba a) (by rw [ba_size]; omega)) ?_
    unfold reqR errS
    have hT : ¬ (true = false) := by simp
    cases hA : Oct.tokenS (ba a)
    · rw [if_pos (show false = false from rfl), if_neg (show ¬ (6 : Int) = 0 by decide)]
      exact Ev.now _
    · refine Ev.bind (visible_s (ba b) (by rw [ba_size]; omega)) ?_
      rw [if_neg hT]
      cases hB : Oct.visibleS (ba b)
      · rw [if_pos (show false = false from rfl), if_neg (show ¬ (11 : Int) = 0 by decide)]
        exact Ev.now _
      · rw [if_neg hT]
        simp only [rminor_s, Option.bind_some, if_true]
        by_cases h0 : (minorB (ba c)).2 = 0
        · rw [if_pos h0, if_pos h0, h0]; exact Ev.now _
        · rw [if_neg h0, if_neg h0]; exact Ev.now _
theorem refreq_s (s : ByteArray) (hn : s.size ≤ 100000) : Ev (fun k => abutmentref15_Request.f k s) (reqS s) := by
  have key : Ev (fun k => abutmentref15_Request.l0 k s ([] ++ posL (s.data.toList.drop 0) 0) (s.size : Int)) (reqS s) := by
    rw [List.nil_append, List.drop_zero]
    obtain ⟨l, rfl⟩ : ∃ l, s = ba l := ⟨s.data.toList, (ba_self s).symm⟩
    rw [ba_data]
    by_cases h0 : (32 : UInt8) ∈ l
    · obtain ⟨a, l1, rfl, ha⟩ := has_split h0
      rw [posL_at _ ha]
      by_cases h1 : (32 : UInt8) ∈ l1
      · obtain ⟨b, c, rfl, hb⟩ := has_split h1
        rw [posL_at _ hb]
        by_cases h2 : (32 : UInt8) ∈ c
        · obtain ⟨c', d, rfl, hc⟩ := has_split h2
          rw [posL_at _ hc]
          have e : reqS (ba (a ++ 32 :: (b ++ 32 :: (c' ++ 32 :: d)))) = badR 3 := by
            unfold reqS
            rw [words_some _ ha, words_some _ hb, words_some _ hc]
            have hne : wordsS (ba d) ≠ [] := fun h => by have := words_len (ba d); rw [h] at this; simp at this
            split
            · rename_i h; simp at h; exact absurd h.2.2.2 hne
            · rfl
          rw [e]
          exact refreq_bad _ _ (by simp)
        · rw [posL_no h2]
          have e : reqS (ba (a ++ 32 :: (b ++ 32 :: c))) = reqR (ba (a ++ 32 :: (b ++ 32 :: c))) (ba a) (ba b) (minorB (ba c)).1 (minorB (ba c)).2 := by
            unfold reqS
            rw [words_some _ ha, words_some _ hb, words_none h2]
          rw [e]
          have := refreq_two a b c hn
          simpa [Nat.add_assoc, Nat.add_comm, Nat.add_left_comm] using this
      · rw [posL_no h1]
        have e : reqS (ba (a ++ 32 :: l1)) = badR 3 := by
          unfold reqS
          rw [words_some _ ha, words_none h1]
        rw [e]
        exact refreq_bad _ _ (by simp)
    · rw [posL_no h0]
      have e : reqS (ba l) = badR 3 := by
        unfold reqS
        rw [words_none h0]
      rw [e]
      exact refreq_bad _ _ (by simp)
  exact refreq_l s hn (reqS s) s.size 0 [] (by omega) (by simp) key
theorem lives_s : Ev (fun k => abutmentlaw15_lives.f k) true := by
  refine Ev.of abutmentlaw15_lives.mono (k := 4) ?_
  kernel_rfl
theorem same_s (a b : ByteArray) (m n : Int) (c : ByteArray) (l l' : List S45) : abutmentref15_Same.f a b m n c l a b m n c l' = some true := by
  unfold abutmentref15_Same.f
  rw [if_pos rfl, if_pos rfl, if_pos rfl, if_pos rfl]
  simp
theorem reqS_fields (s : ByteArray) : (reqS s).2.2.2.2.2.1 = [] := by
  unfold reqS
  split
  · unfold reqR; split <;> rfl
  · rfl
end Go.Proofs.YtdbokcgjdkbknaaDoor.PSa
