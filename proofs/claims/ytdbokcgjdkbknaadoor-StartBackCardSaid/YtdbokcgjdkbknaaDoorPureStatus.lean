/- Plain: responses' first lines: the program's and the reference's answers are one. -/
import Derived.Test.YtdbokcgjdkbknaaDoorStat0
namespace Go.Proofs.YtdbokcgjdkbknaaDoor.PSa
open Go.RowKit Go.Proofs.YtdbokcgjdkbknaaDoor.Hand Go.Proofs.YtdbokcgjdkbknaaDoorW.PrintWords
set_option linter.unusedVariables false
set_option linter.unusedSimpArgs false
theorem val_dgt (c : UInt8) : decide (10 ≤ PNum.val c) = !dgt (c.toNat : Int) := by
  have := UInt8.toNat_lt c
  unfold PNum.val dgt
  rw [Bool.eq_iff_iff]
  simp only [decide_eq_true_eq, Bool.not_eq_true', Bool.and_eq_false_iff, decide_eq_false_iff_not]
  repeat' split
  all_goals omega
theorem ext3 (s : ByteArray) (h12 : 12 ≤ s.size) : (s.extract 9 12).data.toList = [s[9]'(by omega), s[10]'(by omega), s[11]'(by omega)] := by
  rw [Lib.extract_data, drop_cons s 9 (by omega), drop_cons s 10 (by omega), drop_cons s 11 (by omega)]
  rfl
theorem dec3 (s : ByteArray) (h12 : 12 ≤ s.size) (hs : s.size ≤ 140737488351232) : digits_Dec.f (s.extract 9 12) 999 = some (if (dgt (bt s 9) && (dgt (bt s 10) && dgt (bt s 11))) = true then (num3 s, 0) else (0, 3)) := by
  unfold digits_Dec.f digits_number.f
  have hz : (s.extract 9 12).size ≤ 9223372036854775807 := by rw [ByteArray.size_extract]; omega
  rw [if_pos ⟨hz, .inl rfl, by omega, by omega⟩, PNum.numS_spec (.inl rfl) (by omega)]
  simp only [Option.bind_some]
  congr 1
  by_cases hd : (dgt (bt s 9) && (dgt (bt s 10) && dgt (bt s 11))) = true
  · rw [if_pos hd]
    simp only [Bool.and_eq_true] at hd
    rw [number3 s h12 hd.1 hd.2.1 hd.2.2]
  · rw [if_neg hd]
    unfold PNum.numSpec
    rw [ext3 s h12]
    have hb : PNum.badd 10 [s[9]'(by omega), s[10]'(by omega), s[11]'(by omega)] = true := by
      unfold PNum.badd
      simp only [List.any_cons, List.any_nil, Bool.or_false, val_dgt]
      rw [show bt s 9 = ((s[9]'(by omega)).toNat : Int) from bt_nat s 9 (by omega), show bt s 10 = ((s[10]'(by omega)).toNat : Int) from bt_nat s 10 (by omega), show bt s 11 = ((s[11]'(by omega)).toNat : Int) from bt_nat s 11 (by omega)] at hd
      generalize dgt _ = x at hd ⊢
      generalize dgt _ = y at hd ⊢
      generalize dgt _ = z at hd ⊢
      cases x <;> cases y <;> cases z <;> simp_all
    rw [hb, if_neg (by simp), if_pos rfl]
theorem ext13 (s : ByteArray) : s.extract (mn 13 (s.size : Int)).toNat s.size = s.extract 13 s.size := by
  by_cases h : 13 ≤ s.size
  · have : mn 13 (s.size : Int) = 13 := by unfold mn; split <;> omega
    rw [this]; rfl
  · have : (mn 13 (s.size : Int)).toNat = s.size := by unfold mn; split <;> omega
    rw [this]
    apply ByteArray.ext
    apply Array.ext'
    rw [Lib.extract_data, Lib.extract_data, List.drop_of_length_le (by simp), List.drop_of_length_le (by simp; omega)]
    simp
theorem status_bad (s : ByteArray) : Ev (fun k => start_Status.j0 k s true) (badR 3) := by
  refine Ev.step (f := fun _ => some (badR 3)) (fun k => ?_) (Ev.now _)
  show start_Status.j0 (k + 1) s true = _
  simp only [start_Status.j0]
  rfl
theorem status_j1 (n : Int) (rs : ByteArray) (mi : Int) (b : Bool) : Ev (fun k => start_Status.j1 k n rs mi b) (if b = true then badR 12 else if Oct.valueS rs = true then (⟨#[]⟩, ⟨#[]⟩, mi, n, rs, [], 0) else badR 7) := by
  refine Ev.step (f := fun _ => some (if b = true then badR 12 else if Oct.valueS rs = true then (⟨#[]⟩, ⟨#[]⟩, mi, n, rs, [], 0) else badR 7)) (fun k => ?_) (Ev.now _)
  show start_Status.j1 (k + 1) n rs mi b = _
  simp only [start_Status.j1]
  cases b
  · rw [if_neg (by simp), if_neg (by simp)]
    unfold octet_Value.f
    simp only [Option.bind_some]
    cases Oct.valueS rs
    · rw [if_neg (by simp), if_neg (by simp)]; rfl
    · rw [if_pos rfl, if_pos rfl]
  · rw [if_pos rfl, if_pos rfl]; rfl
theorem status_rest (s : ByteArray) (h12 : 12 ≤ s.size) (hs : s.size ≤ 140737488351232) (hf : formedB (s.extract 0 8) = true) (h8 : bt s 8 = 32) (hc : (decide (s.size = 12) || decide (bt s 12 = 32)) = true) : Ev (fun k => start_Status.j0 k s false) (statS s) := by
  have hd := dec3 s h12 hs
  have hok : okS s = (dgt (bt s 9) && (dgt (bt s 10) && dgt (bt s 11))) := by
    unfold okS
    rw [decide_eq_true h12, hf, decide_eq_true h8, hc]
    simp
  have hm : 0 ≤ mn 13 (s.size : Int) ∧ mn 13 (s.size : Int) ≤ (s.size : Int) := by unfold mn; split <;> omega
  unfold statS
  rw [hok]
  by_cases hg : (dgt (bt s 9) && (dgt (bt s 10) && dgt (bt s 11))) = true
  · rw [if_pos hg] at hd
    rw [if_pos hg]
    by_cases h0 : (minorB (s.extract 0 8)).2 = 0
    · rw [if_pos h0]
      by_cases h1 : num3 s < 100
      · refine Ev.step (f := fun k => start_Status.j1 k (num3 s) (s.extract 13 s.size) (minorB (s.extract 0 8)).1 true) (fun k => ?_) (by
          have := status_j1 (num3 s) (s.extract 13 s.size) (minorB (s.extract 0 8)).1 true
          rw [if_pos rfl] at this
          rw [if_pos (.inl h1)]
          exact this)
        show start_Status.j0 (k + 1) s false = _
        simp only [start_Status.j0, hd, minor_s, Option.bind_some, ext13]
        rw [if_neg (by simp), if_pos (by omega), if_pos (by omega), if_pos trivial, if_pos hm.1, if_pos hm.2, if_pos (by omega), if_pos (by omega), if_pos h0, if_pos h1]
      · refine Ev.step (f := fun k => start_Status.j1 k (num3 s) (s.extract 13 s.size) (minorB (s.extract 0 8)).1 (decide (num3 s > 599))) (fun k => ?_) (by
          have := status_j1 (num3 s) (s.extract 13 s.size) (minorB (s.extract 0 8)).1 (decide (num3 s > 599))
          by_cases h2 : 599 < num3 s
          · rw [if_pos (.inr h2)]
            rw [if_pos (by simpa using h2)] at this
            exact this
          · rw [if_neg (by omega)]
            rw [if_neg (by simpa using h2)] at this
            exact this)
        show start_Status.j0 (k + 1) s false = _
        simp only [start_Status.j0, hd, minor_s, Option.bind_some, ext13]
        rw [if_neg (by simp), if_pos (by omega), if_pos (by omega), if_pos trivial, if_pos hm.1, if_pos hm.2, if_pos (by omega), if_pos (by omega), if_pos h0, if_neg h1]
    · rw [if_neg h0]
      refine Ev.step (f := fun _ => some (badR (minorB (s.extract 0 8)).2)) (fun k => ?_) (Ev.now _)
      show start_Status.j0 (k + 1) s false = _
      simp only [start_Status.j0, hd, minor_s, Option.bind_some, ext13]
      rw [if_neg (by simp), if_pos (by omega), if_pos (by omega), if_pos trivial, if_pos hm.1, if_pos hm.2, if_pos (by omega), if_pos (by omega), if_neg h0]
      rfl
  · rw [if_neg hg] at hd
    rw [if_neg hg]
    refine Ev.step (f := fun _ => some (badR 3)) (fun k => ?_) (Ev.now _)
    show start_Status.j0 (k + 1) s false = _
    simp only [start_Status.j0, hd, Option.bind_some]
    rw [if_neg (by simp), if_pos (by omega), if_pos (by omega), if_neg (by decide)]
    rfl
theorem status_s (s : ByteArray) (hs : s.size ≤ 140737488351232) : Ev (fun k => start_Status.f k s) (statS s) := by
  unfold start_Status.f
  have hbad : okS s = false → statS s = badR 3 := fun h => by unfold statS; rw [if_neg (by simp [h])]
  by_cases h12 : s.size < 12
  · simp only [if_pos (show (s.size : Int) < 12 by omega)]
    rw [hbad (by unfold okS; rw [decide_eq_false (by omega)]; rfl)]
    exact status_bad s
  · simp only [if_neg (show ¬ (s.size : Int) < 12 by omega), if_pos (show 8 < (s.size : Int) by omega)]
    by_cases h8 : bt s 8 = 32
    · simp only [if_pos h8]
      have fin : (decide (s.size = 12) || decide (bt s 12 = 32)) = true → Ev (fun k => if (0 : Int) ≤ 8 then (if 8 ≤ (s.size : Int) then ((start_formed.f (s.extract 0 8)).bind fun t125 => (start_Status.j0 k s (!t125))) else none) else none) (statS s) := fun hc => by
        simp only [if_pos (show (0 : Int) ≤ 8 by omega), if_pos (show 8 ≤ (s.size : Int) by omega), formed_s, Option.bind_some]
        cases hf : formedB (s.extract 0 8)
        · rw [hbad (by unfold okS; rw [hf]; simp)]
          exact status_bad s
        · exact status_rest s (by omega) hs hf h8 hc
      by_cases hz : s.size = 12
      · simp only [if_neg (show ¬ (s.size : Int) > 12 by omega)]
        exact fin (by rw [decide_eq_true hz]; rfl)
      · simp only [if_pos (show (s.size : Int) > 12 by omega), if_pos (show 12 < (s.size : Int) by omega)]
        by_cases hc : bt s 12 = 32
        · simp only [if_pos hc]
          exact fin (by rw [decide_eq_true hc]; simp)
        · simp only [if_neg hc]
          rw [hbad (by unfold okS; rw [decide_eq_false hz, decide_eq_false hc]; simp)]
          exact status_bad s
    · simp only [if_neg h8]
      rw [hbad (by unfold okS; rw [decide_eq_false h8]; simp)]
      exact status_bad s
theorem statS_fields (s : ByteArray) : (statS s).2.2.2.2.2.1 = [] := by
  unfold statS badR
  repeat' split
  all_goals rfl
end Go.Proofs.YtdbokcgjdkbknaaDoor.PSa
