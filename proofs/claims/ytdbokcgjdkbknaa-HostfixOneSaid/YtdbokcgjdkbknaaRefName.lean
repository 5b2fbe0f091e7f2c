/- Hand walk: the reference's Name (layer 11). -/
import Derived.Test.YtdbokcgjdkbknaaHostC
import Derived.Test.YtdbokcgjdkbknaaWWords
namespace Go.Proofs.Ytdbokcgjdkbknaa.Hand
open Go.RowKit Go.Proofs.YtdbokcgjdkbknaaW.PrintWords
set_option linter.unusedVariables false
set_option linter.unusedSimpArgs false

def val (c : UInt8) : Int := if 48 ≤ c.toNat ∧ c.toNat ≤ 57 then c.toNat - 48 else if 65 ≤ c.toNat ∧ c.toNat ≤ 70 then c.toNat - 55 else if 97 ≤ c.toNat ∧ c.toNat ≤ 102 then c.toNat - 87 else 99
theorem val_range (c : UInt8) : 0 ≤ val c ∧ val c ≤ 99 := by
  unfold val
  repeat' split
  all_goals omega
set_option maxHeartbeats 400000 in
theorem refValue_calls (c : UInt8) (w : World) :
    Calls Try.prog 86 #[.int .u8 c.toNat] w fun e w' => e = .returned (.int .i64 (val c)) ∧ w = w' := by
  have hc := UInt8.toNat_lt c
  unfold val
  repeat' split
  all_goals
    go_enter Try.func86, Try.ntmps86
    go_wp2 <;> first | (go_ret; simp; done) | omega
def hexB (c : UInt8) : Bool := decide (val c < 16)
set_option maxHeartbeats 400000 in
theorem refhex_calls (c : UInt8) (w : World) :
    Calls Try.prog 85 #[.int .u8 c.toNat] w fun e w' => e = .returned (.bool (hexB c)) ∧ w = w' := by
  have := val_range c
  unfold hexB
  go_enter Try.func85, Try.ntmps85
  go_wp2_with (go_at_call 86; refine (refValue_calls _ _).mono ?_; rintro e w' ⟨rfl, rfl⟩)
  go_ret
  exact ⟨rfl, rfl⟩
def alnum (c : UInt8) : Bool := decide ((48 ≤ (c.toNat : Int) ∧ (c.toNat : Int) ≤ 57) ∨ (65 ≤ (c.toNat : Int) ∧ (c.toNat : Int) ≤ 90) ∨ (97 ≤ (c.toNat : Int) ∧ (c.toNat : Int) ≤ 122))
def plainB (c : UInt8) : Bool := alnum c || hostSigns.contains c
def litC (c : UInt8) : Bool := hexB c || c == 58 || c == 46
def nameR : List UInt8 → Nat → Nat
  | [], n => n
  | c :: l, n => if c = 37 then (match l with | h1 :: h2 :: l' => if hexB h1 && hexB h2 then nameR l' (n + 3) else 0 | _ => 0) else if plainB c then nameR l (n + 1) else n
def nameL (l : List UInt8) : Nat :=
  match l with
  | [] => 0
  | c :: r => if c = 91 then (if (r.takeWhile litC).length = 0 ∨ r[(r.takeWhile litC).length]? ≠ some 93 then 0 else (r.takeWhile litC).length + 2) else nameR l 0
theorem litC_of {c : UInt8} {a b d : Bool} (h1 : hexB c = a) (h2 : ((c.toNat : Int) == 58) = b) (h3 : ((c.toNat : Int) == 46) = d) : litC c = (a || b || d) := by
  have e : ∀ x : UInt8, (c == x) = ((c.toNat : Int) == (x.toNat : Int)) := by
    intro x
    rw [Bool.eq_iff_iff]
    simp
    constructor
    · intro h; rw [h]
    · intro h; exact UInt8.toNat_inj.1 (by omega)
  unfold litC
  rw [h1, e 58, e 46]
  show (a || ((c.toNat : Int) == 58) || ((c.toNat : Int) == 46)) = _
  rw [h2, h3]
theorem tw_yes {c : UInt8} {l : List UInt8} (h : litC c = true) : ((c :: l).takeWhile litC).length = (l.takeWhile litC).length + 1 := by simp [List.takeWhile_cons, h]
theorem tw_no {c : UInt8} {l : List UInt8} (h : litC c = false) : ((c :: l).takeWhile litC).length = 0 := by simp [List.takeWhile_cons, h]
theorem br_yes {c : UInt8} (h : ((c.toNat : Int) != 93) = false) : c = 93 := by
  have : (c.toNat : Int) = 93 := by simpa using h
  exact UInt8.toNat_inj.1 (by show c.toNat = 93; omega)
theorem pct_yes {c : UInt8} (h : ((c.toNat : Int) == 37) = true) : c = 37 := by
  have : (c.toNat : Int) = 37 := by simpa using h
  exact UInt8.toNat_inj.1 (by show c.toNat = 37; omega)
theorem pct_no {c : UInt8} (h : ((c.toNat : Int) == 37) = false) : ¬ c = 37 := by
  rintro rfl
  exact absurd h (by decide)
theorem br_no {c : UInt8} (h : ((c.toNat : Int) != 93) = true) : ¬ c = 93 := by
  rintro rfl
  exact absurd h (by decide)
set_option maxHeartbeats 1000000 in
set_option maxRecDepth 100000 in
theorem refName_br (s : ByteArray) (w : World) (hs : s.size ≤ maxLen) (hz : 0 < s.size) (hb : s[0]'hz = 91) :
    Calls Try.prog 53 #[.string s] w fun e w' => e = .returned (.int .i64 (nameL s.data.toList)) ∧ w = w' := by
  unfold maxLen at hs
  have hb1 : (((s[0]'hz).toNat : Int) == 91) = true := by simp [hb]
  have hn : nameL s.data.toList = (if ((s.data.toList.drop 1).takeWhile litC).length = 0 ∨ (s.data.toList.drop 1)[((s.data.toList.drop 1).takeWhile litC).length]? ≠ some 93 then 0 else ((s.data.toList.drop 1).takeWhile litC).length + 2) := by
    have := drop_cons s 0 hz
    rw [List.drop_zero] at this
    conv => lhs; rw [this]
    unfold nameL
    simp only [hb, if_true]

  rw [hn]
  clear hn hb
  obtain ⟨T, hT⟩ : ∃ T, ((s.data.toList.drop 1).takeWhile litC).length = T := ⟨_, rfl⟩
  rw [hT]
  have hT' := Lib.hid hT
  clear hT
  obtain ⟨V, hV⟩ : ∃ V, (if T = 0 ∨ (s.data.toList.drop 1)[T]? ≠ some 93 then 0 else T + 2) = V := ⟨_, rfl⟩
  rw [hV]
  have hV' := Lib.hid hV
  clear hV
  go_enter Try.func53, Try.ntmps53
  go_wp2
  go_loop [3] (fun vn => ∃ k : Nat, 1 ≤ k ∧ k ≤ s.size ∧ vn = .int .i64 k ∧ Hid (k + ((s.data.toList.drop k).takeWhile litC).length = T + 1)) (fun vn => s.size - (intOf vn).toNat)
  case atStart => exact ⟨1, by omega, by omega, rfl, by have := hT'.out; unfold Hid; omega⟩
  case round =>
    obtain ⟨k, hk1, hk, rfl, hI⟩ := hrel
    by_cases hlt : k < s.size
    · have hI2 := hI.out
      rw [drop_cons s k hlt] at hI2
      clear hI
      cases c1 : hexB (s[k]'hlt)
      · cases c2 : (((s[k]'hlt).toNat : Int) == 58)
        · cases c3 : (((s[k]'hlt).toNat : Int) == 46)
          · rw [tw_no (litC_of c1 c2 c3)] at hI2
            obtain rfl : T + 1 = k := by omega
            clear hI2
            have hTk := Lib.hid (show (s.data.toList.drop 1)[T]? = some (s[T + 1]'hlt) by rw [List.getElem?_drop, Nat.add_comm 1 T]; simp [hlt]; rfl)
            cases c4 : (((s[T + 1]'hlt).toNat : Int) != 93)
            · by_cases hT0 : T = 0
              · subst hT0
                have hV2 := hV'.out.symm; rw [if_pos (.inl rfl)] at hV2; have hV3 := Lib.hid hV2; clear hV2 hV'
                go_wp2_with (go_at_call 85; refine (refhex_calls _ _).mono ?_; rintro e w' ⟨rfl, rfl⟩)
                go_ret
                exact ⟨by rw [hV3.out]; rfl, rfl⟩
              · have hV2 := hV'.out.symm; rw [if_neg (by rw [hTk.out]; have e93 := br_yes c4; simp [hT0, e93])] at hV2; have hV3 := Lib.hid hV2; clear hV2 hV'
                have hT1 : ((T : Int) + 1 == 1) = false := by simp; omega
                have hT2 : ((T : Int) + 1 == s.size) = false := by simp; omega
                go_wp2_with (go_at_call 85; refine (refhex_calls _ _).mono ?_; rintro e w' ⟨rfl, rfl⟩)
                go_ret
                exact ⟨by rw [hV3.out]; simp; omega, rfl⟩
            · have hV2 := hV'.out.symm; rw [if_pos (.inr (by rw [hTk.out]; have e93 := br_no c4; simp [e93]))] at hV2; have hV3 := Lib.hid hV2; clear hV2 hV'
              cases hT1 : ((T : Int) + 1 == 1) <;> cases hT2 : ((T : Int) + 1 == s.size)
              all_goals
                go_wp2_with (go_at_call 85; refine (refhex_calls _ _).mono ?_; rintro e w' ⟨rfl, rfl⟩)
                go_ret
                exact ⟨by rw [hV3.out]; rfl, rfl⟩
          · rw [tw_yes (litC_of c1 c2 c3)] at hI2
            have hI3 := Lib.hid hI2
            clear hI2
            go_wp2_with (go_at_call 85; refine (refhex_calls _ _).mono ?_; rintro e w' ⟨rfl, rfl⟩)
            go_round
            case rel => exact ⟨k + 1, by omega, by omega, by go_num, by have := hI3.out; unfold Hid; omega⟩
            case measure => simp [intOf]; omega
        · rw [tw_yes (litC_of c1 c2 rfl)] at hI2
          have hI3 := Lib.hid hI2
          clear hI2
          go_wp2_with (go_at_call 85; refine (refhex_calls _ _).mono ?_; rintro e w' ⟨rfl, rfl⟩)
          go_round
          case rel => exact ⟨k + 1, by omega, by omega, by go_num, by have := hI3.out; unfold Hid; omega⟩
          case measure => simp [intOf]; omega
      · rw [tw_yes (litC_of c1 rfl rfl)] at hI2
        have hI3 := Lib.hid hI2
        clear hI2
        go_wp2_with (go_at_call 85; refine (refhex_calls _ _).mono ?_; rintro e w' ⟨rfl, rfl⟩)
        go_round
        case rel => exact ⟨k + 1, by omega, by omega, by go_num, by have := hI3.out; unfold Hid; omega⟩
        case measure => simp [intOf]; omega
    · obtain rfl : k = s.size := by omega
      have hI2 := hI.out
      rw [List.drop_of_length_le (by simp)] at hI2
      have hI2 : s.size = T + 1 := by simpa using hI2
      clear hI
      have hV2 := hV'.out.symm; rw [if_pos (.inr (by rw [List.getElem?_drop, List.getElem?_eq_none (by simp; omega)]; simp))] at hV2; have hV3 := Lib.hid hV2; clear hV2 hV'
      have hI3 := Lib.hid hI2
      clear hI2
      cases hT1 : ((s.size : Int) == 1)
      all_goals
        go_wp2
        go_ret
        exact ⟨by rw [hV3.out]; rfl, rfl⟩
theorem nameR_pct2 {l : List UInt8} {n : Nat} {h1 h2 : UInt8} : nameR (37 :: h1 :: h2 :: l) n = if hexB h1 && hexB h2 then nameR l (n + 3) else 0 := by simp [nameR]
theorem nameR_pct0 {n : Nat} : nameR [37] n = 0 := by simp [nameR]
theorem nameR_pct1 {n : Nat} {h1 : UInt8} : nameR [37, h1] n = 0 := by simp [nameR]
theorem nameR_yes {c : UInt8} {l : List UInt8} {n : Nat} (h : ¬ c = 37) (h2 : plainB c = true) : nameR (c :: l) n = nameR l (n + 1) := by
  conv => lhs; unfold nameR
  show (if c = 37 then _ else _) = _
  rw [if_neg h, if_pos h2]
theorem nameR_no {c : UInt8} {l : List UInt8} {n : Nat} (h : ¬ c = 37) (h2 : plainB c = false) : nameR (c :: l) n = n := by
  conv => lhs; unfold nameR
  show (if c = 37 then _ else _) = _
  rw [if_neg h, if_neg (by simp [h2])]
theorem sign_step {c : UInt8} {i : Nat} (hi : i < 15) (h : false = (alnum c || (hostSigns.take i).contains c)) :
    (alnum c || (hostSigns.take (i + 1)).contains c) = (((hostSigns[i]'hi).toNat : Int) == c.toNat) := by
  have h1 : alnum c = false := by cases e : alnum c <;> simp_all
  have h2 : (hostSigns.take i).contains c = false := by rw [h1] at h; exact h.symm
  rw [h1, List.take_succ_eq_append_getElem (by exact hi), Bool.false_or, Bool.eq_iff_iff]
  have h3 : ¬ c ∈ hostSigns.take i := by simpa using h2
  simp only [List.contains_eq_mem, List.mem_append, decide_eq_true_eq, h3, false_or, List.mem_singleton, beq_iff_eq]
  constructor
  · intro e
    rw [← e]
  · intro e
    exact UInt8.toNat_inj.1 (by omega)
theorem sign_keep {c : UInt8} {i : Nat} (hi : i < 15) (h : true = (alnum c || (hostSigns.take i).contains c)) : true = (alnum c || (hostSigns.take (i + 1)).contains c) := by
  rw [List.take_succ_eq_append_getElem (by exact hi)]
  cases h1 : alnum c
  · rw [h1] at h
    have h3 : c ∈ hostSigns.take i := by simpa using h.symm
    simp [h3]
  · rfl
theorem sign_fact {c : UInt8} {i : Nat} {x : Bool} (hi : i < 15) (h : (((hostSigns[i]'hi).toNat : Int) == c.toNat) = x) :
    (((((⟨#[45, 46, 95, 126, 33, 36, 38, 39, 40, 41, 42, 43, 44, 59, 61]⟩ : ByteArray)[i]'hi).toNat : Int)) == c.toNat) = x := h
set_option maxHeartbeats 4000000 in
set_option maxRecDepth 100000 in
theorem refName_no (s : ByteArray) (w : World) (hs : s.size ≤ 140737488355328) (R : Nat) (hR : Hid (nameR s.data.toList 0 = R)) (hcase : s.size = 0 ∨ ∃ hz : 0 < s.size, (((s[0]'hz).toNat : Int) == 91) = false) :
    Calls Try.prog 53 #[.string s] w fun e w' => e = .returned (.int .i64 R) ∧ w = w' := by
  rcases hcase with hz | ⟨hz, hb1⟩
  · have hsz : s.toList.isEmpty = true := by
      have : s.data.toList = [] := by apply List.eq_nil_of_length_eq_zero; simpa using hz
      exact empty_yes this
    have hR0 : Hid (R = 0) := by
      have : s.data.toList = [] := by apply List.eq_nil_of_length_eq_zero; simpa using hz
      rw [this] at hR
      exact hR.out.symm
    clear hR
    go_enter Try.func53, Try.ntmps53
    go_wp2
    go_loop [3] (fun vn => vn = .int .i64 0) (fun _ => 0)
    case atStart => rfl
    case round =>
      subst hrel
      go_wp2
      go_ret
      exact ⟨by rw [hR0.out]; rfl, rfl⟩
  · go_enter Try.func53, Try.ntmps53
    go_wp2
    go_loop [3] (fun vn => ∃ k : Nat, k ≤ s.size ∧ vn = .int .i64 k ∧ Hid (nameR (s.data.toList.drop k) k = R)) (fun vn => s.size - (intOf vn).toNat)
    case atStart => exact ⟨0, by omega, rfl, hR⟩
    case round =>
      obtain ⟨k, hk, rfl, hI⟩ := hrel
      clear hR
      by_cases hlt : k < s.size
      · have hI2 := hI.out
        rw [drop_cons s k hlt] at hI2
        clear hI
        cases c1 : (((s[k]'hlt).toNat : Int) == 37)
        · have hcn := pct_no c1
          obtain ⟨q, hq⟩ : ∃ q, plainB (s[k]'hlt) = q := ⟨_, rfl⟩
          have hI3 : Hid ((if q = true then nameR (s.data.toList.drop (k + 1)) (k + 1) else k) = R) := by
            unfold Hid
            rw [← hI2]
            cases q
            · rw [nameR_no hcn hq]; rfl
            · rw [nameR_yes hcn hq]; rfl
          clear hI2 hcn
          have hq' := Lib.hid hq
          clear hq
          have hcu := UInt8.toNat_lt (s[k]'hlt)
          go_wp2
          all_goals
            go_loop [5, 7] (fun v5 v7 => ∃ (i : Nat) (b : Bool), i ≤ 15 ∧ v7 = .int .i64 i ∧ v5 = .bool b ∧ Hid (b = (alnum (s[k]'hlt) || (hostSigns.take i).contains (s[k]'hlt)))) (fun _ v7 => 15 - (intOf v7).toNat)
            case atStart => exact ⟨0, _, by omega, rfl, rfl, by unfold Hid; rw [Bool.eq_iff_iff]; simp [alnum]; try omega⟩
            case round =>
              obtain ⟨i, b, hi, rfl, rfl, hB⟩ := hrel
              by_cases hil : i < 15
              · cases b
                · have hB2 := sign_step hil hB.out
                  clear hB
                  cases hsc : (((hostSigns[i]'hil).toNat : Int) == (s[k]'hlt).toNat)
                  all_goals
                    have hsc' := sign_fact hil hsc
                    go_wp2
                    go_round
                    case rel => exact ⟨i + 1, _, by omega, by go_num, rfl, by unfold Hid; rw [hB2, hsc]⟩
                    case measure => simp [intOf]; omega
                · have hB2 := Lib.hid (sign_keep hil hB.out)
                  clear hB
                  go_wp2
                  go_round
                  case rel => exact ⟨i + 1, true, by omega, by go_num, rfl, hB2⟩
                  case measure => simp [intOf]; omega
              · obtain rfl : i = 15 := by omega
                have hbq : Hid (b = q) := hB.out.trans hq'.out
                clear hB
                cases b
                · go_wp2
                  go_ret
                  exact ⟨by have h5 := hI3.out; rw [← hbq.out] at h5; rw [← h5]; rfl, rfl⟩
                · go_wp2
                  go_round
                  case rel => exact ⟨k + 1, by omega, by go_num, by have h5 := hI3.out; rw [← hbq.out] at h5; exact h5⟩
                  case measure => simp [intOf]; omega
        · have hc := pct_yes c1
          rw [hc] at hI2
          by_cases hl2 : k + 2 < s.size
          · rw [drop_cons s (k + 1) (by omega), drop_cons s (k + 1 + 1) (by omega), nameR_pct2] at hI2
            have hI3 := Lib.hid hI2
            clear hI2 hc
            cases d1 : hexB (s[k + 1]'(by omega))
            · go_wp2_with (go_at_call 85; refine (refhex_calls _ _).mono ?_; rintro e w' ⟨rfl, rfl⟩)
              go_ret
              have h5 := hI3.out
              rw [d1] at h5
              exact ⟨by rw [← h5]; rfl, rfl⟩
            cases d2 : hexB (s[k + 2]'(by omega))
            · go_wp2_with (go_at_call 85; refine (refhex_calls _ _).mono ?_; rintro e w' ⟨rfl, rfl⟩)
              go_ret
              have h5 := hI3.out
              rw [d1, show s[k + 1 + 1] = s[k + 2]'(by omega) from rfl, d2] at h5
              exact ⟨by rw [← h5]; rfl, rfl⟩
            · go_wp2_with (go_at_call 85; refine (refhex_calls _ _).mono ?_; rintro e w' ⟨rfl, rfl⟩)
              go_round
              case rel => exact ⟨k + 3, by omega, by go_num, by have h5 := hI3.out; rw [d1, show s[k + 1 + 1] = s[k + 2]'(by omega) from rfl, d2] at h5; exact h5⟩
              case measure => simp [intOf]; omega
          · have hR0 : Hid (R = 0) := by
              unfold Hid
              rw [← hI2]
              by_cases hl1 : k + 1 < s.size
              · rw [drop_cons s (k + 1) hl1, List.drop_of_length_le (by simp; omega)]
                exact nameR_pct1
              · rw [List.drop_of_length_le (by simp; omega)]
                exact nameR_pct0
            have hl3 : s.size ≤ k + 2 := by omega
            clear hI2 hc hl2
            go_wp2_with (go_at_call 85; refine (refhex_calls _ _).mono ?_; rintro e w' ⟨rfl, rfl⟩)
            go_ret
            exact ⟨by rw [hR0.out]; rfl, rfl⟩
      · have hI2 := hI.out
        rw [List.drop_of_length_le (by simp; omega)] at hI2
        have hI3 : Hid (R = k) := hI2.symm
        clear hI hI2
        go_wp2
        go_ret
        exact ⟨by rw [hI3.out]; rfl, rfl⟩
end Go.Proofs.Ytdbokcgjdkbknaa.Hand
