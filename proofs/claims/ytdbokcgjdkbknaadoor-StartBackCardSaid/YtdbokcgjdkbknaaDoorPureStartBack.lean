/- StartBack: a first line that was read, printed and read again is the same, for every text (at most 1,000 octets of it). Conditions: none. -/
import Derived.Test.YtdbokcgjdkbknaaDoorPureStatus
import Derived.Test.YtdbokcgjdkbknaaDoorLine
import Derived.Test.YtdbokcgjdkbknaaDoorPSbx1
namespace Go.Proofs.YtdbokcgjdkbknaaDoor.Pure
open Go.RowKit Go.Proofs.YtdbokcgjdkbknaaDoor.PSb Go.Proofs.YtdbokcgjdkbknaaDoor.PSa Go.Proofs.YtdbokcgjdkbknaaDoor.Hand Go.Proofs.YtdbokcgjdkbknaaDoorW.PrintWords Go.Proofs.YtdbokcgjdkbknaaDoorW.PrintLast
set_option linter.unusedVariables false
set_option linter.unusedSimpArgs false
def versL (n : Int) : List UInt8 := if n ≤ 0 then [72, 84, 84, 80, 47, 49, 46, 48] else [72, 84, 84, 80, 47, 49, 46, 49]
theorem versS_ba (n : Int) : versS n = ba (versL n) := by unfold versS versL; split <;> rfl
theorem versL_no (n : Int) : (32 : UInt8) ∉ versL n := by unfold versL; split <;> decide
theorem minor_vers {n : Int} (h : n = 0 ∨ n = 1) : minorB (ba (versL n)) = (n, 0) := by rcases h with rfl | rfl <;> decide +kernel
theorem minorB_01 (s : ByteArray) : (minorB s).1 = 0 ∨ (minorB s).1 = 1 := by 
  unfold minorB
  by_cases h1 : formedB s = true
  · rw [if_pos h1]
    by_cases h2 : bt s 5 = 49
    · rw [if_pos h2]
      by_cases h3 : bt s 7 = 48
      · rw [if_pos h3]; exact .inl rfl
      · rw [if_neg h3]; exact .inr rfl
    · rw [if_neg h2]; exact .inl rfl
  · rw [if_neg h1]; exact .inl rfl
theorem token_no {s : ByteArray} (h : Oct.tokenS s = true) : (32 : UInt8) ∉ s.data.toList ∧ ¬ s.toList = [] := by
  unfold Oct.tokenS at h
  simp only [Bool.and_eq_true, List.all_eq_true] at h
  refine ⟨fun hm => ?_, fun he => ?_⟩
  · have := h.2 _ hm
    revert this
    decide
  · rw [he] at h; simp at h
theorem visible_no {s : ByteArray} (h : Oct.visibleS s = true) : (32 : UInt8) ∉ s.data.toList := by
  unfold Oct.visibleS at h
  simp only [Bool.and_eq_true, List.all_eq_true] at h
  intro hm
  have := h.2 _ hm
  revert this
  decide
theorem one_ba (c : UInt8) : (⟨#[c]⟩ : ByteArray) = ba [c] := rfl
/-- What a good request is. -/
theorem req_ok {s : ByteArray} (h : (reqS s).2.2.2.2.2.2 = 0) : ∃ a b c, s = ba (a ++ 32 :: (b ++ 32 :: c)) ∧ (32 : UInt8) ∉ a ∧ (32 : UInt8) ∉ b ∧ ¬ (ba a).toList = [] ∧ Oct.tokenS (ba a) = true ∧ Oct.visibleS (ba b) = true ∧ ((minorB (ba c)).1 = 0 ∨ (minorB (ba c)).1 = 1) ∧ reqS s = (ba a, ba b, (minorB (ba c)).1, 0, ⟨#[]⟩, [], 0) := by
  obtain ⟨l, rfl⟩ : ∃ l, s = ba l := ⟨s.data.toList, (ba_self s).symm⟩
  by_cases h0 : (32 : UInt8) ∈ l
  · obtain ⟨a, l1, rfl, ha⟩ := has_split h0
    by_cases h1 : (32 : UInt8) ∈ l1
    · obtain ⟨b, c, rfl, hb⟩ := has_split h1
      by_cases h2 : (32 : UInt8) ∈ c
      · exfalso
        obtain ⟨c', d, rfl, hc⟩ := has_split h2
        have hne : wordsS (ba d) ≠ [] := fun h => by have := words_len (ba d); rw [h] at this; simp at this
        have e : reqS (ba (a ++ 32 :: (b ++ 32 :: (c' ++ 32 :: d)))) = badR 3 := by
          unfold reqS
          rw [words_some _ ha, words_some _ hb, words_some _ hc]
          split
          · rename_i h; simp at h; exact absurd h.2.2.2 hne
          · rfl
        rw [e] at h
        exact absurd h (by decide)
      · have e : reqS (ba (a ++ 32 :: (b ++ 32 :: c))) = reqR (ba (a ++ 32 :: (b ++ 32 :: c))) (ba a) (ba b) (minorB (ba c)).1 (minorB (ba c)).2 := by
          unfold reqS
          rw [words_some _ ha, words_some _ hb, words_none h2]
        rw [e] at h ⊢
        unfold reqR at h ⊢
        have he : errS (ba a) (ba b) (minorB (ba c)).2 = 0 := by split at h <;> exact h
        rw [if_pos he, he]
        unfold errS at he
        cases hA : Oct.tokenS (ba a)
        · rw [hA, if_pos rfl] at he; exact absurd he (by decide)
        · rw [hA, if_neg (by simp)] at he
          cases hB : Oct.visibleS (ba b)
          · rw [hB, if_pos rfl] at he; exact absurd he (by decide)
          · exact ⟨a, b, c, rfl, ha, hb, (token_no hA).2, hA, hB, minorB_01 _, rfl⟩
    · exfalso
      have e : reqS (ba (a ++ 32 :: l1)) = badR 3 := by unfold reqS; rw [words_some _ ha, words_none h1]
      rw [e] at h
      exact absurd h (by decide)
  · exfalso
    have e : reqS (ba l) = badR 3 := by unfold reqS; rw [words_none h0]
    rw [e] at h
    exact absurd h (by decide)
theorem req_back {a b : List UInt8} {n : Int} (ha : (32 : UInt8) ∉ a) (hb : (32 : UInt8) ∉ b) (hA : Oct.tokenS (ba a) = true) (hB : Oct.visibleS (ba b) = true) (hn : n = 0 ∨ n = 1) (st : Int) (r : ByteArray) (hne : ¬ (ba a).toList = []) :
    reqS (lineS (ba a) (ba b) n st r) = (ba a, ba b, n, 0, ⟨#[]⟩, [], 0) ∧ (lineS (ba a) (ba b) n st r).size = a.length + b.length + 10 := by
  have e : lineS (ba a) (ba b) n st r = ba (a ++ 32 :: (b ++ 32 :: versL n)) := by
    unfold lineS
    rw [if_neg hne, versS_ba, one_ba, ba_append, ba_append, ba_append, ba_append]
    simp
  rw [e]
  refine ⟨?_, ?_⟩
  · unfold reqS
    rw [words_some _ ha, words_some _ hb, words_none (versL_no n)]
    show reqR (ba (a ++ 32 :: (b ++ 32 :: versL n))) (ba a) (ba b) (minorB (ba (versL n))).1 (minorB (ba (versL n))).2 = _
    rw [minor_vers hn]
    unfold reqR errS
    have hT : ¬ (true = false) := by simp
    simp only [hA, hB, if_neg hT, if_true]
  · have hv : (versL n).length = 8 := by unfold versL; split <;> rfl
    rw [ba_size]
    simp
    omega
/-! responses -/
theorem bt_ba (L : List UInt8) (i : Nat) (h : i < L.length) : bt (ba L) (i : Int) = ((L[i]'h).toNat : Int) := by
  rw [bt_nat (ba L) i (by rw [ba_size]; exact h)]
  rfl
theorem digL3 {n : Nat} (h0 : 100 ≤ n) (h1 : n ≤ 599) : digL 10 n = [sg (n / 100), sg (n / 10 % 10), sg (n % 10)] := by
  rw [digL, dif_neg (by omega), digL, dif_neg (by omega), digL, dif_pos (by omega)]
  rw [show n / 10 / 10 = n / 100 by omega]
  rfl
theorem pad3 {N : Int} (h0 : 100 ≤ N) (h1 : N ≤ 599) : padL N 3 = [sg (N.toNat / 100), sg (N.toNat / 10 % 10), sg (N.toNat % 10)] := by
  have e : textL N = [sg (N.toNat / 100), sg (N.toNat / 10 % 10), sg (N.toNat % 10)] := by
    unfold textL
    rw [if_neg (by omega), show N.natAbs = N.toNat by omega, digL3 (by omega) (by omega)]
  unfold padL
  rw [if_neg (by omega), e]
  rfl
theorem sg_nat {d : Nat} (h : d < 10) : ((sg d).toNat : Int) = 48 + d := by
  have : ∀ d : Fin 10, ((sg d.val).toNat) = 48 + d.val := by decide
  have := this ⟨d, h⟩
  simp only at this
  omega
theorem stat_back {n N : Int} {r : List UInt8} (t : ByteArray) (hn : n = 0 ∨ n = 1) (h0 : 100 ≤ N) (h1 : N ≤ 599) (hv : Oct.valueS (ba r) = true) :
    statS (lineS ⟨#[]⟩ t n N (ba r)) = (⟨#[]⟩, ⟨#[]⟩, n, N, ba r, [], 0) ∧ (lineS ⟨#[]⟩ t n N (ba r)).size = r.length + 13 := by
  have hl : (versL n).length = 8 := by unfold versL; split <;> rfl
  have d1 : N.toNat / 100 < 10 := by omega
  have d2 : N.toNat / 10 % 10 < 10 := by omega
  have d3 : N.toNat % 10 < 10 := by omega
  have e : lineS ⟨#[]⟩ t n N (ba r) = ba (versL n ++ 32 :: sg (N.toNat / 100) :: sg (N.toNat / 10 % 10) :: sg (N.toNat % 10) :: 32 :: r) := by
    unfold lineS
    rw [if_pos (by rw [toList_eq]), versS_ba, one_ba, pad3 h0 h1, ba_append, ba_append, ba_append, ba_append]
    simp
  rw [e]
  have hz : (ba (versL n ++ 32 :: sg (N.toNat / 100) :: sg (N.toNat / 10 % 10) :: sg (N.toNat % 10) :: 32 :: r)).size = r.length + 13 := by rw [ba_size]; simp; omega
  refine ⟨?_, hz⟩
  have e0 : (ba (versL n ++ 32 :: sg (N.toNat / 100) :: sg (N.toNat / 10 % 10) :: sg (N.toNat % 10) :: 32 :: r)).extract 0 8 = ba (versL n) := by
    rw [ba_extract]; congr 1
    rw [← hl, List.take_left]; rfl
  have e13 : (ba (versL n ++ 32 :: sg (N.toNat / 100) :: sg (N.toNat / 10 % 10) :: sg (N.toNat % 10) :: 32 :: r)).extract 13 (r.length + 13) = ba r := by
    rw [ba_extract]; congr 1
    rw [List.take_of_length_le (by simp; omega), show versL n ++ 32 :: sg (N.toNat / 100) :: sg (N.toNat / 10 % 10) :: sg (N.toNat % 10) :: 32 :: r = (versL n ++ [32, sg (N.toNat / 100), sg (N.toNat / 10 % 10), sg (N.toNat % 10), 32]) ++ r by simp, show 13 = (versL n ++ [32, sg (N.toNat / 100), sg (N.toNat / 10 % 10), sg (N.toNat % 10), 32]).length by (simp; omega), List.drop_left]
  have g : ∀ (j : Nat) (c : UInt8), (32 :: sg (N.toNat / 100) :: sg (N.toNat / 10 % 10) :: sg (N.toNat % 10) :: 32 :: r)[j]? = some c → bt (ba (versL n ++ 32 :: sg (N.toNat / 100) :: sg (N.toNat / 10 % 10) :: sg (N.toNat % 10) :: 32 :: r)) ((8 + j : Nat) : Int) = (c.toNat : Int) := fun j c hc => by
    obtain ⟨hj, he⟩ := List.getElem?_eq_some_iff.1 hc
    rw [bt_ba _ (8 + j) (by rw [List.length_append, hl]; omega)]
    rw [List.getElem_append_right (by omega)]
    simp only [hl, Nat.add_sub_cancel_left]
    rw [he]
  have b8 : bt (ba (versL n ++ 32 :: sg (N.toNat / 100) :: sg (N.toNat / 10 % 10) :: sg (N.toNat % 10) :: 32 :: r)) 8 = 32 := g 0 32 rfl
  have b9 : bt (ba (versL n ++ 32 :: sg (N.toNat / 100) :: sg (N.toNat / 10 % 10) :: sg (N.toNat % 10) :: 32 :: r)) 9 = 48 + ((N.toNat / 100 : Nat) : Int) := (g 1 _ rfl).trans (sg_nat d1)
  have b10 : bt (ba (versL n ++ 32 :: sg (N.toNat / 100) :: sg (N.toNat / 10 % 10) :: sg (N.toNat % 10) :: 32 :: r)) 10 = 48 + ((N.toNat / 10 % 10 : Nat) : Int) := (g 2 _ rfl).trans (sg_nat d2)
  have b11 : bt (ba (versL n ++ 32 :: sg (N.toNat / 100) :: sg (N.toNat / 10 % 10) :: sg (N.toNat % 10) :: 32 :: r)) 11 = 48 + ((N.toNat % 10 : Nat) : Int) := (g 3 _ rfl).trans (sg_nat d3)
  have b12 : bt (ba (versL n ++ 32 :: sg (N.toNat / 100) :: sg (N.toNat / 10 % 10) :: sg (N.toNat % 10) :: 32 :: r)) 12 = 32 := g 4 32 rfl
  have hm := minor_vers hn
  have hf : formedB (ba (versL n)) = true := by rcases hn with rfl | rfl <;> decide +kernel
  generalize ba (versL n ++ 32 :: sg (N.toNat / 100) :: sg (N.toNat / 10 % 10) :: sg (N.toNat % 10) :: 32 :: r) = s at *
  have hd : ∀ d : Nat, d < 10 → dgt (48 + (d : Int)) = true := fun d h => by unfold dgt; simp; omega
  have hok : okS s = true := by
    unfold okS
    rw [e0, hf, b8, b9, b10, b11, b12, hd _ d1, hd _ d2, hd _ d3, decide_eq_true (by omega)]
    simp
  have hN : num3 s = N := by
    unfold num3
    rw [b9, b10, b11]
    omega
  unfold statS
  rw [if_pos hok, e0, hm, hN, hz, e13, if_pos rfl, if_neg (by omega), if_pos hv]
theorem stat_ok {s : ByteArray} (h : (statS s).2.2.2.2.2.2 = 0) : ∃ n N rs, (n = 0 ∨ n = 1) ∧ 100 ≤ N ∧ N ≤ 599 ∧ rs.size ≤ s.size ∧ Oct.valueS rs = true ∧ statS s = (⟨#[]⟩, ⟨#[]⟩, n, N, rs, [], 0) := by
  unfold statS at h ⊢
  by_cases h1 : okS s = true
  · rw [if_pos h1] at h ⊢
    by_cases h2 : (minorB (s.extract 0 8)).2 = 0
    · rw [if_pos h2] at h ⊢
      by_cases h3 : num3 s < 100 ∨ 599 < num3 s
      · rw [if_pos h3] at h; exact absurd h (by decide)
      · rw [if_neg h3] at h ⊢
        by_cases h4 : Oct.valueS (s.extract 13 s.size) = true
        · rw [if_pos h4]
          exact ⟨_, _, _, minorB_01 _, by omega, by omega, by rw [ByteArray.size_extract]; omega, h4, rfl⟩
        · rw [if_neg h4] at h; exact absurd h (by decide)
    · rw [if_neg h2] at h; exact absurd h h2
  · rw [if_neg h1] at h; exact absurd h (by decide)
theorem back_j0 (x : ByteArray) (hx : x.size ≤ 1000) : Ev (fun k => abutmentlaw15_StartBack.j0 k x) true := by
  have key : Ev (fun k => abutmentlaw15_StartBack.j0 (k + 1) x) true := by
    simp only [abutmentlaw15_StartBack.j0]
    refine Ev.bind (status_s x (by omega)) ?_
    by_cases h0 : (statS x).2.2.2.2.2.2 = 0
    · simp only [if_pos h0]
      obtain ⟨n, N, rs, hn, hN0, hN1, hz, hv, e⟩ := stat_ok h0
      rw [e]
      obtain ⟨r, rfl⟩ : ∃ r, rs = ba r := ⟨rs.data.toList, (ba_self rs).symm⟩
      obtain ⟨e2, e3⟩ := stat_back ⟨#[]⟩ hn hN0 hN1 hv
      rw [ba_size] at hz
      have hl : start_Line.f ⟨#[]⟩ ⟨#[]⟩ n N (ba r) ([] : List S45) = some (lineS ⟨#[]⟩ ⟨#[]⟩ n N (ba r)) := by
        unfold start_Line.f
        have : (⟨#[]⟩ : ByteArray).size = 0 := rfl
        rw [if_pos ⟨by omega, by omega, by rw [ba_size]; omega, by omega, by omega⟩]
      simp only [hl, Option.bind_some]
      refine Ev.bind (status_s _ (by omega)) ?_
      rw [e2]
      simp only [same_s, Option.bind_some, if_true]
      have hnil : (⟨#[]⟩ : ByteArray).toList = ([] : List UInt8) := by rw [toList_eq]
      simp only [if_pos hnil, if_neg (show ¬ N < 100 by omega)]
      exact Ev.bind lives_s (Ev.now true)
    · simp only [if_neg h0]
      exact Ev.bind lives_s (Ev.now true)
  obtain ⟨K, h⟩ := key
  exact ⟨K + 1, fun k hk => by
    obtain ⟨m, rfl⟩ : ∃ m, k = m + 1 := ⟨k - 1, by omega⟩
    exact h m (by omega)⟩
theorem StartBack : abutmentlaw15_StartBack.Pure := by
  intro a0 hn
  apply Ev.rounds
  unfold abutmentlaw15_StartBack.f
  have hm : 0 ≤ mn (a0.size : Int) 1000 ∧ mn (a0.size : Int) 1000 ≤ (a0.size : Int) ∧ mn (a0.size : Int) 1000 ≤ 1000 := by unfold mn; split <;> omega
  simp only [if_pos hm.1, if_pos hm.2.1]
  have hx : (a0.extract 0 (mn (a0.size : Int) 1000).toNat).size ≤ 1000 := by rw [ByteArray.size_extract]; omega
  generalize a0.extract 0 (mn (a0.size : Int) 1000).toNat = x at hx
  simp only [request_s x (by omega : x.size < 4294967281), Option.bind_some]
  by_cases h0 : (reqS x).2.2.2.2.2.2 = 0
  · simp only [if_pos h0]
    obtain ⟨a, b, c, rfl, ha, hb, hne, hA, hB, hm2, e⟩ := req_ok h0
    rw [e]
    rw [ba_size] at hx
    simp at hx
    generalize (minorB (ba c)).1 = n at hm2
    obtain ⟨e2, e3⟩ := req_back ha hb hA hB hm2 0 ⟨#[]⟩ hne
    have hl : start_Line.f (ba a) (ba b) n 0 ⟨#[]⟩ ([] : List S45) = some (lineS (ba a) (ba b) n 0 ⟨#[]⟩) := by
      unfold start_Line.f
      have : (⟨#[]⟩ : ByteArray).size = 0 := rfl
      rw [if_pos ⟨by rw [ba_size]; omega, by rw [ba_size]; omega, by omega, by omega, by omega⟩]
    simp only [hl, request_s _ (by omega : (lineS (ba a) (ba b) n 0 ⟨#[]⟩).size < 4294967281), Option.bind_some]
    rw [e2]
    simp only [same_s, Option.bind_some, if_true, if_neg hne]
    exact back_j0 _ (by rw [ba_size]; simp; omega)
  · simp only [if_neg h0]
    exact back_j0 x hx
end Go.Proofs.YtdbokcgjdkbknaaDoor.Pure
