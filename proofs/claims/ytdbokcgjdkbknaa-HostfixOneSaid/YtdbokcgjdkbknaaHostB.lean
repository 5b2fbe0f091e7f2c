/- Hand walks: host.registered, host.literal. -/
import Derived.Test.YtdbokcgjdkbknaaHostA
namespace Go.Proofs.Ytdbokcgjdkbknaa.Hand
open Go.RowKit
set_option linter.unusedVariables false
set_option linter.unusedSimpArgs false

/-! host.registered -/
def regL : List UInt8 → Int → Bool
  | [], left => left == 0
  | c :: l, left =>
    if 0 < left then (if hexI c.toNat = true then regL l (left - 1) else false)
    else if (c.toNat : Int) = 37 then regL l 2
    else if plainI c.toNat = true then regL l left else false
theorem reg_hex {c : UInt8} {l : List UInt8} {left : Int} (h : 0 < left) (h2 : hexI c.toNat = true) : regL (c :: l) left = regL l (left - 1) := by rw [regL, if_pos h, if_pos h2]
theorem reg_nohex {c : UInt8} {l : List UInt8} {left : Int} (h : 0 < left) (h2 : hexI c.toNat = false) : regL (c :: l) left = false := by rw [regL, if_pos h, if_neg (by simp [h2])]
theorem reg_pct {c : UInt8} {l : List UInt8} {left : Int} (h : ¬ 0 < left) (h2 : (c.toNat : Int) = 37) : regL (c :: l) left = regL l 2 := by rw [regL, if_neg h, if_pos h2]
theorem reg_plain {c : UInt8} {l : List UInt8} {left : Int} (h : ¬ 0 < left) (h2 : ¬ (c.toNat : Int) = 37) (h3 : plainI c.toNat = true) : regL (c :: l) left = regL l left := by rw [regL, if_neg h, if_neg h2, if_pos h3]
theorem reg_noplain {c : UInt8} {l : List UInt8} {left : Int} (h : ¬ 0 < left) (h2 : ¬ (c.toNat : Int) = 37) (h3 : plainI c.toNat = false) : regL (c :: l) left = false := by rw [regL, if_neg h, if_neg h2, if_neg (by simp [h3])]
def regS (s : ByteArray) : Bool := !s.toList.isEmpty && regL s.data.toList 0

set_option maxHeartbeats 1000000 in
theorem registered_calls (s : ByteArray) (w : World) (hs : s.size ≤ maxLen) :
    Calls Try.prog 50 #[.string s] w fun e w' => e = .returned (.bool (regS s)) ∧ Below w.heap.size w w' := by
  unfold maxLen at hs
  obtain ⟨R, hR⟩ : ∃ R, regL s.data.toList 0 = R := ⟨_, rfl⟩
  unfold regS
  rw [hR]
  have hR' := Lib.hid hR
  clear hR
  go_enter Try.func50, Try.ntmps50
  go_wp2
  go_loopw [3] (fun vl w' => ∃ (pos : Nat) (left : Int), pos ≤ s.size ∧ w' = w.iter s pos ∧ vl = .int .i64 left ∧ 0 ≤ left ∧ left ≤ 2 ∧ Hid (regL (s.data.toList.drop pos) left = R)) (fun _ w' => s.size - w'.iterPos w.heap.size)
  case atStart => exact ⟨0, 0, Nat.zero_le _, rfl, rfl, by omega, by omega, hR'⟩
  case round =>
    clear hR'
    obtain ⟨pos, left, hpos, rfl, rfl, hl0, hl1, hR⟩ := hrel
    have hR2 := hR.out
    clear hR
    by_cases hp : pos < s.size
    · rw [drop_cons s pos hp] at hR2
      by_cases ha : (s[pos]'hp).toNat < 128
      · have hnx : ∀ ty, (Instr.next (.pointer (some ⟨w.heap.size, 0, none⟩)) true ty).run Try.prog (w.iter s pos) = _ := fun ty => run_next_ascii w s pos ty hp ha
        by_cases c1 : 0 < left
        · cases c2 : hexI (s[pos]'hp).toNat
          · have hR3 := Lib.hid ((reg_nohex c1 c2).symm.trans hR2)
            clear hR2
            go_wp2_with (first | (go_at_call 80; refine (hex_calls _ _ (by omega) (by omega)).mono ?_; rintro e w' ⟨rfl, rfl⟩) | (go_at_call 81; refine (plain_calls _ _ (by omega) (by omega)).mono ?_; rintro e w' ⟨rfl, rfl⟩))
            go_ret
            exact ⟨by rw [← hR3.out]; simp, Below.iter _ _ _⟩
          · have hR3 := Lib.hid ((reg_hex c1 c2).symm.trans hR2)
            clear hR2
            go_wp2_with (first | (go_at_call 80; refine (hex_calls _ _ (by omega) (by omega)).mono ?_; rintro e w' ⟨rfl, rfl⟩) | (go_at_call 81; refine (plain_calls _ _ (by omega) (by omega)).mono ?_; rintro e w' ⟨rfl, rfl⟩))
            go_roundw
            case rel => exact ⟨pos + 1, left - 1, by omega, rfl, rfl, by omega, by omega, hR3⟩
            case measure => simp; omega
        · by_cases c3 : ((s[pos]'hp).toNat : Int) = 37
          · have hR3 := Lib.hid ((reg_pct c1 c3).symm.trans hR2)
            clear hR2
            have c4 : (((s[pos]'hp).toNat : Int) == 37) = true := by simp [c3]
            have c3' := Lib.hid c3
            clear c3
            go_wp2_with (first | (go_at_call 80; refine (hex_calls _ _ (by omega) (by omega)).mono ?_; rintro e w' ⟨rfl, rfl⟩) | (go_at_call 81; refine (plain_calls _ _ (by omega) (by omega)).mono ?_; rintro e w' ⟨rfl, rfl⟩))
            go_roundw
            case rel => exact ⟨pos + 1, 2, by omega, rfl, rfl, by omega, by omega, hR3⟩
            case measure => simp; omega
          · have c4 : (((s[pos]'hp).toNat : Int) == 37) = false := by simp [c3]
            cases c5 : plainI (s[pos]'hp).toNat
            · have hR3 := Lib.hid ((reg_noplain c1 c3 c5).symm.trans hR2)
              clear hR2 c3
              go_wp2_with (first | (go_at_call 80; refine (hex_calls _ _ (by omega) (by omega)).mono ?_; rintro e w' ⟨rfl, rfl⟩) | (go_at_call 81; refine (plain_calls _ _ (by omega) (by omega)).mono ?_; rintro e w' ⟨rfl, rfl⟩))
              go_ret
              exact ⟨by rw [← hR3.out]; simp, Below.iter _ _ _⟩
            · have hR3 := Lib.hid ((reg_plain c1 c3 c5).symm.trans hR2)
              clear hR2 c3
              go_wp2_with (first | (go_at_call 80; refine (hex_calls _ _ (by omega) (by omega)).mono ?_; rintro e w' ⟨rfl, rfl⟩) | (go_at_call 81; refine (plain_calls _ _ (by omega) (by omega)).mono ?_; rintro e w' ⟨rfl, rfl⟩))
              go_roundw
              case rel => exact ⟨pos + 1, left, by omega, rfl, rfl, by omega, by omega, hR3⟩
              case measure => simp; omega
      · have hnx : ∀ ty, (Instr.next (.pointer (some ⟨w.heap.size, 0, none⟩)) true ty).run Try.prog (w.iter s pos) = _ := fun ty => run_next_any w s pos ty hp
        have hh := decode_high s pos hp (by omega)
        have hl := decode_le s pos
        have d1 := hexI_hi (Utf8.decode s pos).1 (by omega)
        have d2 := plainI_hi (Utf8.decode s pos).1 (by omega)
        have d3 : (((Utf8.decode s pos).1 : Int) == 37) = false := by simp; omega
        by_cases c1 : 0 < left
        · have hR3 := Lib.hid ((reg_nohex c1 (hexI_hi _ (by omega))).symm.trans hR2)
          clear hR2
          go_wp2_with (first | (go_at_call 80; refine (hex_calls _ _ (by omega) (by omega)).mono ?_; rintro e w' ⟨rfl, rfl⟩) | (go_at_call 81; refine (plain_calls _ _ (by omega) (by omega)).mono ?_; rintro e w' ⟨rfl, rfl⟩))
          go_ret
          exact ⟨by rw [← hR3.out]; simp, Below.iter _ _ _⟩
        · have hR3 := Lib.hid ((reg_noplain c1 (by omega) (plainI_hi _ (by omega))).symm.trans hR2)
          clear hR2
          go_wp2_with (first | (go_at_call 80; refine (hex_calls _ _ (by omega) (by omega)).mono ?_; rintro e w' ⟨rfl, rfl⟩) | (go_at_call 81; refine (plain_calls _ _ (by omega) (by omega)).mono ?_; rintro e w' ⟨rfl, rfl⟩))
          go_ret
          exact ⟨by rw [← hR3.out]; simp, Below.iter _ _ _⟩
    · have hnx : ∀ ty, (Instr.next (.pointer (some ⟨w.heap.size, 0, none⟩)) true ty).run Try.prog (w.iter s pos) = _ := fun ty => run_next_end w s pos ty hp
      rw [List.drop_of_length_le (by simp; omega)] at hR2
      have hR3 := Lib.hid hR2
      clear hR2
      by_cases he : s.toList = []
      · have he' : s.toList.isEmpty = true := by rw [he]; rfl
        have he2 := Lib.hid he
        clear he
        go_wp2
        go_ret
        exact ⟨by rw [← hR3.out]; simp [regL, he2.out], Below.iter _ _ _⟩
      · have he' : s.toList.isEmpty = false := by cases h : s.toList <;> simp_all
        have he2 := Lib.hid he
        clear he
        go_wp2
        go_ret
        exact ⟨by rw [← hR3.out]; simp [regL, he2.out], Below.iter _ _ _⟩

/-! strings.CutPrefix, CutSuffix -/
def hasPre (s p : ByteArray) : Bool := p.data.toList.isPrefixOf s.data.toList
theorem hasPre_lt {s p : ByteArray} (h : s.size < p.size) : hasPre s p = false := by
  unfold hasPre
  rw [Bool.eq_false_iff]
  intro hx
  have := (List.isPrefixOf_iff_prefix.1 hx).length_le
  simp at this
  omega
theorem hasPre_ge {s p : ByteArray} (h : ¬ s.size < p.size) : hasPre s p = ((s.extract 0 p.size).toList == p.toList) := by
  unfold hasPre
  have e : (s.extract 0 p.size).toList = s.data.toList.take p.size := by rw [toList_eq]; simp
  rw [e, toList_eq, Bool.eq_iff_iff, List.isPrefixOf_iff_prefix, List.prefix_iff_eq_take, beq_iff_eq]
  have : p.data.toList.length = p.size := by simp
  rw [this]
  constructor <;> (intro h; exact h.symm)
set_option maxHeartbeats 1000000 in
theorem hasPrefix_calls (s p : ByteArray) (w : World) (hs : s.size ≤ maxLen) (hp : p.size ≤ maxLen) :
    Calls Try.prog 110 #[.string s, .string p] w fun e w' => e = .returned (.bool (hasPre s p)) ∧ w = w' := by
  unfold maxLen at hs hp
  by_cases h : s.size < p.size
  · rw [hasPre_lt h]
    go_enter Try.func110, Try.ntmps110
    go_wp2
    go_ret
    exact ⟨by first | rfl | (simp; done) | (simp; omega), rfl⟩
  · rw [hasPre_ge h]
    go_enter Try.func110, Try.ntmps110
    go_wp2
    go_ret
    exact ⟨by first | rfl | (simp; done) | (simp; omega), rfl⟩
def hasSuf (s p : ByteArray) : Bool := p.data.toList.isSuffixOf s.data.toList
theorem hasSuf_lt {s p : ByteArray} (h : s.size < p.size) : hasSuf s p = false := by
  unfold hasSuf
  rw [Bool.eq_false_iff]
  intro hx
  have := (List.isSuffixOf_iff_suffix.1 hx).length_le
  simp at this
  omega
theorem hasSuf_ge {s p : ByteArray} (h : ¬ s.size < p.size) : hasSuf s p = ((s.extract (s.size - p.size) s.size).toList == p.toList) := by
  unfold hasSuf
  have e : (s.extract (s.size - p.size) s.size).toList = s.data.toList.drop (s.size - p.size) := by rw [toList_eq]; simp [ByteArray.data_extract]; apply List.take_of_length_le; simp
  rw [e, toList_eq, Bool.eq_iff_iff, List.isSuffixOf_iff_suffix, List.suffix_iff_eq_drop, beq_iff_eq]
  have : p.data.toList.length = p.size := by simp
  have h2 : s.data.toList.length = s.size := by simp
  rw [this, h2]
  constructor <;> (intro h; exact h.symm)
set_option maxHeartbeats 1000000 in
theorem hasSuffix_calls (s p : ByteArray) (w : World) (hs : s.size ≤ maxLen) (hp : p.size ≤ maxLen) :
    Calls Try.prog 111 #[.string s, .string p] w fun e w' => e = .returned (.bool (hasSuf s p)) ∧ w = w' := by
  unfold maxLen at hs hp
  by_cases h : s.size < p.size
  · rw [hasSuf_lt h]
    go_enter Try.func111, Try.ntmps111
    go_wp2
    go_ret
    exact ⟨by first | rfl | (simp; done) | (simp; omega), rfl⟩
  · rw [hasSuf_ge h]
    have e1 : ((s.size : Int) - (p.size : Int)) = ((s.size - p.size : Nat) : Int) := by omega
    go_enter Try.func111, Try.ntmps111
    go_wp2
    go_ret
    exact ⟨by first | rfl | (simp; done) | (simp; omega), rfl⟩
def cutPre (s p : ByteArray) : ByteArray × Bool := if hasPre s p = true then (s.extract p.size s.size, true) else (s, false)
def cutSuf (s p : ByteArray) : ByteArray × Bool := if hasSuf s p = true then (s.extract 0 (s.size - p.size), true) else (s, false)
theorem hasPre_le {s p : ByteArray} (h : hasPre s p = true) : p.size ≤ s.size := by
  have := (List.isPrefixOf_iff_prefix.1 h).length_le
  simpa using this
theorem hasSuf_le {s p : ByteArray} (h : hasSuf s p = true) : p.size ≤ s.size := by
  have := (List.isSuffixOf_iff_suffix.1 h).length_le
  simpa using this
set_option maxHeartbeats 1000000 in
theorem cutPrefix_calls (s p : ByteArray) (w : World) (hs : s.size ≤ maxLen) (hp : p.size ≤ maxLen) :
    Calls Try.prog 82 #[.string s, .string p] w fun e w' => e = .returned (.tuple #[.string (cutPre s p).1, .bool (cutPre s p).2]) ∧ w = w' := by
  have hs' := hs
  have hp' := hp
  unfold maxLen at hs hp
  cases h : hasPre s p
  · rw [cutPre, if_neg (by simp [h])]
    go_enter Try.func82, Try.ntmps82
    go_wp2_with (first | (go_at_call 110; refine (hasPrefix_calls _ _ _ hs' hp').mono ?_; rintro e w' ⟨rfl, rfl⟩) | go_in)
    go_ret2
    exact ⟨rfl, rfl⟩
  · rw [cutPre, if_pos h]
    have hle := hasPre_le h
    go_enter Try.func82, Try.ntmps82
    go_wp2_with (first | (go_at_call 110; refine (hasPrefix_calls _ _ _ hs' hp').mono ?_; rintro e w' ⟨rfl, rfl⟩) | go_in)
    go_ret2
    exact ⟨rfl, rfl⟩
set_option maxHeartbeats 1000000 in
theorem cutSuffix_calls (s p : ByteArray) (w : World) (hs : s.size ≤ maxLen) (hp : p.size ≤ maxLen) :
    Calls Try.prog 83 #[.string s, .string p] w fun e w' => e = .returned (.tuple #[.string (cutSuf s p).1, .bool (cutSuf s p).2]) ∧ w = w' := by
  have hs' := hs
  have hp' := hp
  unfold maxLen at hs hp
  cases h : hasSuf s p
  · rw [cutSuf, if_neg (by simp [h])]
    go_enter Try.func83, Try.ntmps83
    go_wp2_with (first | (go_at_call 111; refine (hasSuffix_calls _ _ _ hs' hp').mono ?_; rintro e w' ⟨rfl, rfl⟩) | go_in)
    go_ret2
    exact ⟨rfl, rfl⟩
  · rw [cutSuf, if_pos h]
    have hle := hasSuf_le h
    have e1 : ((s.size : Int) - (p.size : Int)) = ((s.size - p.size : Nat) : Int) := by omega
    go_enter Try.func83, Try.ntmps83
    go_wp2_with (first | (go_at_call 111; refine (hasSuffix_calls _ _ _ hs' hp').mono ?_; rintro e w' ⟨rfl, rfl⟩) | go_in)
    go_ret2
    exact ⟨rfl, rfl⟩

theorem one_le (a : UInt8) : (⟨#[a]⟩ : ByteArray).size ≤ maxLen := by show 1 ≤ maxLen; unfold maxLen; omega
theorem cutPre_le (s p : ByteArray) : (cutPre s p).1.size ≤ s.size := by unfold cutPre; split <;> simp
theorem cutSuf_le (s p : ByteArray) : (cutSuf s p).1.size ≤ s.size := by unfold cutSuf; split <;> simp
/-! host.literal -/
def litB (r : Int) : Bool := hexI r || (r == 58) || (r == 46)
theorem litB_hi (r : Int) (h : 128 ≤ r) : litB r = false := by unfold litB; rw [hexI_hi r h]; simp; omega
def litL (l : List UInt8) : Bool := l.all fun c => litB c.toNat
def inBr (s : ByteArray) : ByteArray := (cutSuf (cutPre s ⟨#[91]⟩).1 ⟨#[93]⟩).1
def litS (s : ByteArray) : Bool := (cutPre s ⟨#[91]⟩).2 && litL (inBr s).data.toList && (cutSuf (cutPre s ⟨#[91]⟩).1 ⟨#[93]⟩).2 && !(inBr s).toList.isEmpty
set_option maxHeartbeats 1000000 in
theorem literal_calls (s : ByteArray) (w : World) (hs : s.size ≤ maxLen) :
    Calls Try.prog 51 #[.string s] w fun e w' => e = .returned (.bool (litS s)) ∧ Below w.heap.size w w' := by
  have hs1 : (cutPre s ⟨#[91]⟩).1.size ≤ maxLen := Nat.le_trans (cutPre_le _ _) hs
  have hs2 : (inBr s).size ≤ maxLen := Nat.le_trans (cutSuf_le _ _) hs1
  unfold litS
  generalize hi : inBr s = i at hs2 ⊢
  have hi' := Lib.hid hi
  clear hi
  obtain ⟨ok, hok⟩ : ∃ b, (cutPre s ⟨#[91]⟩).2 = b := ⟨_, rfl⟩
  obtain ⟨fin, hfin⟩ : ∃ b, (cutSuf (cutPre s ⟨#[91]⟩).1 ⟨#[93]⟩).2 = b := ⟨_, rfl⟩
  rw [hok, hfin]
  have hc1 : cutPre s ⟨#[91]⟩ = ((cutPre s ⟨#[91]⟩).1, ok) := by rw [← hok]
  have hc2 : cutSuf (cutPre s ⟨#[91]⟩).1 ⟨#[93]⟩ = (i, fin) := by rw [← hfin, ← hi'.out]; rfl
  generalize (cutPre s ⟨#[91]⟩).1 = s1 at hc1 hc2 hs1
  have hd1 := Lib.hid hc1
  have hd2 := Lib.hid hc2
  clear hok hfin hc1 hc2 hi'
  obtain ⟨T, hT⟩ : ∃ T, (ok && litL i.data.toList) = T := ⟨_, rfl⟩
  rw [hT]
  have hT' := Lib.hid hT
  clear hT
  go_enter Try.func51, Try.ntmps51
  go_wp2_with (first | (go_at_call 82; refine (cutPrefix_calls _ _ _ hs (one_le _)).mono ?_; rw [hd1.out]; rintro e w' ⟨rfl, rfl⟩) | (go_at_call 83; refine (cutSuffix_calls _ _ _ hs1 (one_le _)).mono ?_; rw [hd2.out]; rintro e w' ⟨rfl, rfl⟩))
  go_loopw [4] (fun vo w' => ∃ (pos : Nat) (b : Bool), w' = w.iter i pos ∧ vo = .bool b ∧ Hid ((b && litL (i.data.toList.drop pos)) = T)) (fun _ w' => i.size - w'.iterPos w.heap.size)
  case atStart => exact ⟨0, ok, rfl, rfl, hT'⟩
  case round =>
    clear hT'
    obtain ⟨pos, b, rfl, rfl, hR⟩ := hrel
    have hR2 := hR.out
    clear hR
    unfold maxLen at hs hs1 hs2
    by_cases hp : pos < i.size
    · rw [drop_cons i pos hp] at hR2
      by_cases ha : (i[pos]'hp).toNat < 128
      · have hnx : ∀ ty, (Instr.next (.pointer (some ⟨w.heap.size, 0, none⟩)) true ty).run Try.prog (w.iter i pos) = _ := fun ty => run_next_ascii w i pos ty hp ha
        cases b
        · have hR3 := Lib.hid hR2
          clear hR2
          go_wp2_with (first | (go_at_call 80; refine (hex_calls _ _ (by omega) (by omega)).mono ?_; rintro e w' ⟨rfl, rfl⟩))
          go_roundw
          case rel => exact ⟨pos + 1, false, rfl, rfl, hR3.out⟩
          case measure => simp; omega
        · have hR3 := Lib.hid (show (litB (i[pos]'hp).toNat && litL (i.data.toList.drop (pos + 1))) = T from hR2)
          clear hR2
          cases c2 : hexI (i[pos]'hp).toNat
          · cases c3 : (((i[pos]'hp).toNat : Int) == 58)
            · go_wp2_with (first | (go_at_call 80; refine (hex_calls _ _ (by omega) (by omega)).mono ?_; rintro e w' ⟨rfl, rfl⟩))
              go_roundw
              case rel => exact ⟨pos + 1, _, rfl, rfl, by rw [← hR3.out]; unfold litB; rw [c2, c3]; rfl⟩
              case measure => simp; omega
            · go_wp2_with (first | (go_at_call 80; refine (hex_calls _ _ (by omega) (by omega)).mono ?_; rintro e w' ⟨rfl, rfl⟩))
              go_roundw
              case rel => exact ⟨pos + 1, true, rfl, rfl, by rw [← hR3.out]; unfold litB; rw [c2, c3]; rfl⟩
              case measure => simp; omega
          · go_wp2_with (first | (go_at_call 80; refine (hex_calls _ _ (by omega) (by omega)).mono ?_; rintro e w' ⟨rfl, rfl⟩))
            go_roundw
            case rel => exact ⟨pos + 1, true, rfl, rfl, by rw [← hR3.out]; unfold litB; rw [c2]; rfl⟩
            case measure => simp; omega
      · have hnx : ∀ ty, (Instr.next (.pointer (some ⟨w.heap.size, 0, none⟩)) true ty).run Try.prog (w.iter i pos) = _ := fun ty => run_next_any w i pos ty hp
        have hh := decode_high i pos hp (by omega)
        have hl := decode_le i pos
        have d1 := hexI_hi (Utf8.decode i pos).1 (by omega)
        have d3 : (((Utf8.decode i pos).1 : Int) == 58) = false := by simp; omega
        have d4 : (((Utf8.decode i pos).1 : Int) == 46) = false := by simp; omega
        have hR3 := Lib.hid (show (b && (litB (i[pos]'hp).toNat && litL (i.data.toList.drop (pos + 1)))) = T from hR2)
        clear hR2
        cases b
        all_goals
          go_wp2_with (first | (go_at_call 80; refine (hex_calls _ _ (by omega) (by omega)).mono ?_; rintro e w' ⟨rfl, rfl⟩))
          go_roundw
          case rel => exact ⟨_, false, rfl, rfl, by unfold Hid; rw [← hR3.out, litB_hi _ (by omega)]; simp⟩
          case measure => simp; omega
    · have hnx : ∀ ty, (Instr.next (.pointer (some ⟨w.heap.size, 0, none⟩)) true ty).run Try.prog (w.iter i pos) = _ := fun ty => run_next_end w i pos ty hp
      rw [List.drop_of_length_le (by simp; omega)] at hR2
      have hR3 := Lib.hid hR2
      clear hR2
      by_cases he : i.toList = []
      · have he' : i.toList.isEmpty = true := by rw [he]; rfl
        have he2 := Lib.hid he
        clear he
        cases b <;> cases fin
        all_goals
          go_wp2
          go_ret
          exact ⟨by rw [← hR3.out]; simp [litL, he2.out], Below.iter _ _ _⟩
      · have he' : i.toList.isEmpty = false := by cases h : i.toList <;> simp_all
        have he2 := Lib.hid he
        clear he
        cases b <;> cases fin
        all_goals
          go_wp2
          go_ret
          exact ⟨by rw [← hR3.out]; simp [litL, he2.out], Below.iter _ _ _⟩
end Go.Proofs.Ytdbokcgjdkbknaa.Hand
