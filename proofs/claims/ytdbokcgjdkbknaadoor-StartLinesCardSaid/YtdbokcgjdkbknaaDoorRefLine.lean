/- Hand walks: the reference's Pad at a width of three (layer 2), Version, Line (layer 15). -/
import Derived.Test.YtdbokcgjdkbknaaDoorLine
import Derived.Test.YtdbokcgjdkbknaaDoorRefDigD
namespace Go.Proofs.YtdbokcgjdkbknaaDoor.Hand
open Go.RowKit Go.Proofs.YtdbokcgjdkbknaaDoorW.PrintWords Go.Proofs.YtdbokcgjdkbknaaDoorW.PrintLast Go.Proofs.YtdbokcgjdkbknaaDoorW.PrintMore
set_option linter.unusedVariables false
set_option linter.unusedSimpArgs false
theorem zero_ba (j : Nat) (l : List UInt8) : (⟨#[48]⟩ : ByteArray) ++ ba (List.replicate j 48 ++ l) = ba (List.replicate (j + 1) 48 ++ l) := by
  show ba [48] ++ _ = _
  rw [ba_append]
  rfl
set_option maxHeartbeats 1000000 in
theorem refPad3_calls (n : Int) (w : World) (h0 : -9223372036854775808 ≤ n) (h1 : n ≤ 9223372036854775807) :
    Calls Tryd.prog 54 #[.int .i64 n, .int .i64 3] w fun e w' => e = .returned (.string (ba (padL n 3))) ∧ Below w.heap.size w w' := by
  have hl := textL_len h0 h1
  have cT := fun W => refText_calls n W h0 h1
  unfold padL
  generalize textL n = l at hl cT ⊢
  by_cases hn : n < 0
  · rw [if_pos hn]
    clear h0 h1
    go_enter Tryd.func54, Tryd.ntmps54
    go_wp2_with (go_at_call 41; refine (cT _).mono ?_; rintro e w1 ⟨rfl, hb⟩)
    go_loop [5] (fun v => v = .string (ba l)) (fun _ => 0)
    case atStart => rfl
    case round =>
      subst hrel
      go_wp2
      go_ret
      exact ⟨rfl, hb⟩
  · rw [if_neg hn]
    have hn2 : 0 ≤ n := by omega
    clear h0 h1
    obtain ⟨R, hR⟩ : ∃ R, ba (List.replicate (3 - l.length) 48 ++ l) = R := ⟨_, rfl⟩
    rw [hR]
    have hRH := Lib.hid hR
    have hl2 := Lib.hid hl
    clear hR hl
    have e0 : ba l = ba (List.replicate 0 48 ++ l) := rfl
    rw [e0] at cT
    clear e0
    go_enter Tryd.func54, Tryd.ntmps54
    go_wp2_with (go_at_call 41; refine (cT _).mono ?_; rintro e w1 ⟨rfl, hb⟩)
    go_loop [5] (fun v => ∃ j : Nat, v = .string (ba (List.replicate j 48 ++ l)) ∧ (j = 0 ∨ j + l.length ≤ 3)) (fun v => match v with | .string x => 3 - x.size | _ => 0)
    case atStart => exact ⟨0, rfl, .inl rfl⟩
    case round =>
      obtain ⟨j, rfl, hj⟩ := hrel
      have hz : (ba (List.replicate j (48 : UInt8) ++ l)).size = j + l.length := by rw [ba_size, List.length_append, List.length_replicate]
      have hzb := hl2.out
      have hz3 : (ba (List.replicate j (48 : UInt8) ++ l)).size ≤ 24 := by omega
      by_cases hlt : j + l.length < 3
      · have hc : (ba (List.replicate j (48 : UInt8) ++ l)).size < 3 := by omega
        have hn' := zero_ba j l
        have hz2 : (ba (List.replicate (j + 1) (48 : UInt8) ++ l)).size = j + 1 + l.length := by rw [ba_size, List.length_append, List.length_replicate]
        have hjH : Hid (j + 1 + l.length ≤ 3) := Lib.hid (by omega)
        have hzH := Lib.hid hz
        have hzH2 := Lib.hid hz2
        clear hz hz2 hj hlt hzb
        generalize ba (List.replicate j (48 : UInt8) ++ l) = s at *
        have hnH := Lib.hid hn'
        clear hn'
        go_wp2
        all_goals
          go_round
          case rel => exact ⟨j + 1, by rw [hnH.out], .inr hjH.out⟩
          case measure => (rw [hnH.out]; simp; have := hzH.out; have := hzH2.out; omega)
      · have hc : ¬ (ba (List.replicate j (48 : UInt8) ++ l)).size < 3 := by omega
        have hE : ba (List.replicate j (48 : UInt8) ++ l) = R := by
          rw [← hRH.out]
          have : j = 3 - l.length := by omega
          rw [this]
        clear hz hzb
        generalize ba (List.replicate j (48 : UInt8) ++ l) = s at *
        subst hE
        go_wp2
        all_goals
          go_ret
          exact ⟨rfl, hb⟩
theorem RVersion_calls (n : Int) (w : World) : Calls Tryd.prog 29 #[.int .i64 n] w fun e w' => e = .returned (.string (versS n)) ∧ w' = w := by
  unfold versS
  by_cases h : n ≤ 0
  · rw [if_pos h]
    go_enter Tryd.func29, Tryd.ntmps29
    go_wp2
    go_ret
    exact ⟨rfl, rfl⟩
  · rw [if_neg h]
    go_enter Tryd.func29, Tryd.ntmps29
    go_wp2
    go_ret
    exact ⟨rfl, rfl⟩
def abutmentref15_Version.f (a0 : Int) : Option ByteArray := some (versS a0)
theorem abutmentref15_Version.calls (a0 : Int) (r : ByteArray) (w : World) (h : abutmentref15_Version.f a0 = some r) :
    Calls Tryd.prog 29 #[.int .i64 a0] w fun e w' => e = .returned (.string r) ∧ Drawn0 w w' := by
  obtain rfl := Option.some.inj h
  refine (RVersion_calls a0 w).mono ?_
  rintro e w' ⟨rfl, rfl⟩
  exact ⟨rfl, Drawn0.refl _⟩
set_option maxHeartbeats 1000000 in
set_option maxRecDepth 100000 in
theorem RLine_ask (m t : ByteArray) (n st : Int) (r : ByteArray) (fv : Value) (w : World) (hm : m.size ≤ 140737488355328) (ht : t.size ≤ 140737488355328) (h : ¬ m.toList = []) (hf : fv.cells = #[fv]) :
    Calls Tryd.prog 27 #[.agg #[.string m, .string t, .int .i64 n, .int .i64 st, .string r, fv]] w fun e w' => e = .returned (.string (m ++ ⟨#[32]⟩ ++ t ++ ⟨#[32]⟩ ++ versS n)) ∧ Below w.heap.size w w' := by
  have cV := fun W => RVersion_calls n W
  have hv := versS_size n
  generalize versS n = v at cV hv ⊢
  have he : m.toList.isEmpty = false := by cases h' : m.toList <;> simp_all
  have hv2 : v.size ≤ 8 := by omega
  clear hv h
  go_enter Tryd.func27, Tryd.ntmps27
  go_wp2
  go_quiet ((go_at_call 29; exact Calls.quiet_of_same (cV _)))
  go_wp2
  go_ret
  exact ⟨rfl, pw_below_drewN ((Below.refl _ _).alloc (Nat.le_refl _) _) _⟩
set_option maxHeartbeats 1000000 in
set_option maxRecDepth 100000 in
theorem RLine_answer (m t : ByteArray) (n st : Int) (r : ByteArray) (fv : Value) (w : World) (hr : r.size ≤ 140737488355328) (h : m.toList = []) (hf : fv.cells = #[fv]) (h0 : -9223372036854775808 ≤ st) (h1 : st ≤ 9223372036854775807) :
    Calls Tryd.prog 27 #[.agg #[.string m, .string t, .int .i64 n, .int .i64 st, .string r, fv]] w fun e w' => e = .returned (.string (versS n ++ ⟨#[32]⟩ ++ ba (padL st 3) ++ ⟨#[32]⟩ ++ r)) ∧ Below w.heap.size w w' := by
  have cV := fun W => RVersion_calls n W
  have hv := versS_size n
  generalize versS n = v at cV hv ⊢
  have cP := fun W => refPad3_calls st W h0 h1
  have hp : (ba (padL st 3)).size ≤ 24 := by
    have := textL_len h0 h1
    rw [ba_size]
    unfold padL
    split
    · omega
    · simp; omega
  generalize ba (padL st 3) = pd at cP hp ⊢
  have he : m.toList.isEmpty = true := by rw [h]; rfl
  have hv2 : v.size ≤ 8 := by omega
  clear hv h h0 h1
  go_enter Tryd.func27, Tryd.ntmps27
  go_wp2
  obtain ⟨w1, hw1⟩ : ∃ W, w.alloc (.cells #[.string m, .string t, .int .i64 n, .int .i64 st, .string r, fv] 33) = W := ⟨_, rfl⟩
  have hb : w1.heap[w.heap.size]? = some (.cells #[.string m, .string t, .int .i64 n, .int .i64 st, .string r, fv] 33 (0, 0)) := hw1 ▸ blk_new w _
  have hB : Below w.heap.size w w1 := hw1 ▸ (Below.refl _ _).alloc (Nat.le_refl _) _
  rw [hw1]
  clear hw1
  have c2 : w1.cell? ⟨w.heap.size, 2, none⟩ = some (.int .i64 n) := blk_cell hb 2
  have c3 : w1.cell? ⟨w.heap.size, 3, none⟩ = some (.int .i64 st) := blk_cell hb 3
  have c4 : w1.cell? ⟨w.heap.size, 4, none⟩ = some (.string r) := blk_cell hb 4
  have q1 : (9223372036854775807 < v.size + 1) = False := eq_false (by omega)
  have q2 : (9223372036854775807 < v.size + 1 + pd.size) = False := eq_false (by omega)
  have q3 : (9223372036854775807 < v.size + 1 + pd.size + 1) = False := eq_false (by omega)
  have q4 : (9223372036854775807 < v.size + 1 + pd.size + 1 + r.size) = False := eq_false (by omega)
  go_region_held3 (fun w' => w'.cell? ⟨w.heap.size, 2, none⟩ = some (.int .i64 n) ∧ w'.cell? ⟨w.heap.size, 3, none⟩ = some (.int .i64 st) ∧ w'.cell? ⟨w.heap.size, 4, none⟩ = some (.string r) ∧ Below w.heap.size w w')
    (first
      | exact ⟨c2, c3, c4, hB.drew⟩
      | (go_split_ands; exact ⟨pw_cell_below hb3 (by assumption), pw_cell_below hb3 (by assumption), pw_cell_below hb3 (by assumption), Below.trans (by assumption) (hb3.mono (Below.size (by assumption)))⟩)
      | go_keep)
    (first | (go_at_call 29; refine (cV _).mono ?_; rintro e w2 ⟨rfl, rfl⟩) | (go_at_call 54; refine (cP _).mono ?_; rintro e w3 ⟨rfl, hb3⟩))
  all_goals
    go_wp2
    go_ret
    exact ⟨rfl, hB.drew.trans (hb3.mono hB.size)⟩
def abutmentref15_Line.f (a0_0 : ByteArray) (a0_1 : ByteArray) (a0_2 : Int) (a0_3 : Int) (a0_4 : ByteArray) (l0_5 : List S45) : Option ByteArray :=
  if a0_0.size ≤ 140737488355328 ∧ a0_1.size ≤ 140737488355328 ∧ a0_4.size ≤ 140737488355328 ∧ -9223372036854775808 ≤ a0_3 ∧ a0_3 ≤ 9223372036854775807 then some (lineS a0_0 a0_1 a0_2 a0_3 a0_4) else none
theorem abutmentref15_Line.calls (a0_0 : ByteArray) (a0_1 : ByteArray) (a0_2 : Int) (a0_3 : Int) (a0_4 : ByteArray) (A0_5 : Option Addr) (c0_5 : Nat) (l0_5 : List S45) (r : ByteArray) (w : World) (hr0_5 : Kd.C k45 w A0_5 l0_5.length l0_5) (hc0_5 : l0_5.length ≤ c0_5) (h : abutmentref15_Line.f a0_0 a0_1 a0_2 a0_3 a0_4 l0_5 = some r) :
    Calls Tryd.prog 27 #[.agg #[.string a0_0, .string a0_1, .int .i64 a0_2, .int .i64 a0_3, .string a0_4, .slice A0_5 l0_5.length c0_5]] w fun e w' => e = .returned (.string r) ∧ Below w.heap.size w w' := by
  unfold abutmentref15_Line.f at h
  by_cases hc : a0_0.size ≤ 140737488355328 ∧ a0_1.size ≤ 140737488355328 ∧ a0_4.size ≤ 140737488355328 ∧ -9223372036854775808 ≤ a0_3 ∧ a0_3 ≤ 9223372036854775807
  · rw [if_pos hc] at h
    obtain rfl := Option.some.inj h
    obtain ⟨h0, h1, h2, h3, h4⟩ := hc
    unfold lineS
    by_cases hm : a0_0.toList = []
    · rw [if_pos hm]
      exact RLine_answer _ _ _ _ _ _ w h2 hm rfl h3 h4
    · rw [if_neg hm]
      exact RLine_ask _ _ _ _ _ _ w h0 h1 hm rfl
  · rw [if_neg hc] at h
    cases h
end Go.Proofs.YtdbokcgjdkbknaaDoor.Hand
