/- Hand walks: digits.figures, octet.lower, octet.Lower. -/
import Derived.Test.YtdbokcgjdkbknaaHostB
import Derived.Lib.ConvBytes
import Derived.Laws.IdiomStrings
import Derived.OwnWalk
namespace Go.Proofs.Ytdbokcgjdkbknaa.Hand
open Go.RowKit
set_option linter.unusedVariables false
set_option linter.unusedSimpArgs false

/-! digits.figures -/
def sg (d : Nat) : UInt8 := if d < 10 then (48 + d).toUInt8 else (87 + d).toUInt8
def digL (b : Nat) (n : Nat) : List UInt8 := if h : b < 2 ∨ n < b then [sg n] else digL b (n / b) ++ [sg (n % b)]
termination_by n
decreasing_by
  have : 2 ≤ b := by omega
  exact Nat.div_lt_self (by omega) (by omega)
theorem addr_add (g k j : Nat) : (⟨g, k, none⟩ : Addr).add j = ⟨g, k + j, none⟩ := by unfold Addr.add; split <;> simp_all
theorem max_tmod (m : Int) (b : Nat) : max (Int.tmod m b) (-Int.tmod m b) = ((m.natAbs % b : Nat) : Int) := by
  rcases Int.natAbs_eq m with h | h
  · generalize m.natAbs = q at h
    subst h
    rw [← Int.ofNat_tmod]
    omega
  · generalize m.natAbs = q at h
    subst h
    rw [Int.neg_tmod, ← Int.ofNat_tmod]
    omega
theorem natAbs_tdiv (m : Int) (b : Nat) : (Int.tdiv m b).natAbs = m.natAbs / b := by
  rw [Int.natAbs_tdiv, Int.natAbs_natCast]
  rfl
theorem sg_at (d : Nat) (h : d < 16) : ((⟨#[48, 49, 50, 51, 52, 53, 54, 55, 56, 57, 97, 98, 99, 100, 101, 102]⟩ : ByteArray)[d]'h) = sg d := by
  have : ∀ d : Fin 16, ((⟨#[48, 49, 50, 51, 52, 53, 54, 55, 56, 57, 97, 98, 99, 100, 101, 102]⟩ : ByteArray)[d.val]'d.isLt) = sg d.val := by decide
  exact this ⟨d, h⟩
theorem cells_push {C : Array Value} {k : Nat} {ds : List UInt8} {c : UInt8} {v : Value} (hv : v = .int .u8 c.toNat) (hk : 1 ≤ k) (hC : k ≤ C.size) (h : ∀ j (hj : j < ds.length), C[k + j]? = some (.int .u8 ds[j].toNat)) :
    ∀ j (hj : j < (c :: ds).length), (C.setIfInBounds (k - 1) v)[k - 1 + j]? = some (.int .u8 (c :: ds)[j].toNat) := by
  intro j hj
  subst hv
  cases j with
  | zero => rw [Nat.add_zero, Array.getElem?_setIfInBounds_self_of_lt (by omega)]; rfl
  | succ j =>
    rw [Array.getElem?_setIfInBounds_ne (by omega), show k - 1 + (j + 1) = k + j from by omega, h j (by simpa using hj)]
    rfl
theorem dig_pow {m m' b n : Nat} (hm : m' = m / b) (hb : 10 ≤ b) (h : m * 10 ^ n ≤ 9223372036854775808) : m' * 10 ^ (n + 1) ≤ 9223372036854775808 := by
  rw [hm]
  have h1 : m / b * 10 ≤ m := Nat.le_trans (Nat.mul_le_mul_left _ hb) (Nat.div_mul_le_self m b)
  calc m / b * 10 ^ (n + 1) = (m / b * 10) * 10 ^ n := by rw [Nat.pow_succ, Nat.mul_comm (10 ^ n) 10, Nat.mul_assoc]
    _ ≤ m * 10 ^ n := Nat.mul_le_mul_right _ h1
    _ ≤ _ := h
theorem dig_room {m n : Nat} (hm : m ≠ 0) (h : m * 10 ^ n ≤ 9223372036854775808) : n ≤ 18 := by
  apply Decidable.byContradiction
  intro hn
  have h1 : 10 ^ 19 ≤ 10 ^ n := Nat.pow_le_pow_right (by omega) (by omega)
  have h2 : 1 * 10 ^ n ≤ m * 10 ^ n := Nat.mul_le_mul_right _ (by omega)
  have : (10 : Nat) ^ 19 = 10000000000000000000 := by rfl
  omega
theorem digL_step {b : Nat} (hb : 2 ≤ b) (n : Nat) (ds : List UInt8) : digL b n ++ ds = (if n / b ≠ 0 then digL b (n / b) ++ (sg (n % b) :: ds) else sg (n % b) :: ds) := by
  rw [digL]
  by_cases h : n < b
  · rw [dif_pos (.inr h), if_neg (by simp [Nat.div_eq_of_lt h]), Nat.mod_eq_of_lt h]
    rfl
  · have : 0 < n / b := Nat.div_pos (by omega) (by omega)
    rw [dif_neg (by omega), if_pos (by omega), List.append_assoc]
    rfl
theorem fig_rel {b k : Nat} {m m' : Int} {ds R : List UInt8} (hb : 2 ≤ b) (hk : k ≤ 64) (hk1 : 1 ≤ k) (hm : m'.natAbs = m.natAbs / b) (h : digL b m.natAbs ++ ds = R) : (if k - 1 = 64 ∨ m' ≠ 0 then digL b m'.natAbs ++ (sg (m.natAbs % b) :: ds) = R else sg (m.natAbs % b) :: ds = R) := by
  rw [digL_step hb] at h
  by_cases hz : m.natAbs / b ≠ 0
  · rw [if_pos hz] at h
    have : m' ≠ 0 := by omega
    rw [if_pos (.inr this), hm]
    exact h
  · rw [if_neg hz] at h
    have : ¬ (k - 1 = 64 ∨ m' ≠ 0) := by omega
    rw [if_neg this]
    exact h
theorem tdiv_range {m : Int} {b : Nat} (h0 : -9223372036854775808 ≤ m) (h1 : m ≤ 9223372036854775807) (hb : 2 ≤ b) : -9223372036854775808 ≤ Int.tdiv m b ∧ Int.tdiv m b ≤ 9223372036854775807 := by
  have e := natAbs_tdiv m b
  have : m.natAbs / b ≤ m.natAbs / 2 := Nat.div_le_div_left hb (by omega)
  omega
set_option maxHeartbeats 1000000 in
set_option maxRecDepth 100000 in
theorem figures_calls (n base : Int) (w : World) (hb : base = 10 ∨ base = 16) (h0 : -9223372036854775808 ≤ n) (h1 : n ≤ 9223372036854775807) :
    Calls Try.prog 88 #[.int .i64 n, .int .i64 base] w fun e w' => e = .returned (.string ⟨(digL base.toNat n.natAbs).toArray⟩) ∧ Below w.heap.size w w' := by
  obtain ⟨R, hR⟩ : ∃ R, digL base.toNat n.natAbs = R := ⟨_, rfl⟩
  rw [hR]
  have hR' := Lib.hid hR
  clear hR
  go_enter Try.func88, Try.ntmps88
  go_wp2
  go_loopw [0, 6] (fun vn va w' => ∃ (m : Int) (at_ : Nat) (C : Array Value) (ds : List UInt8), vn = .int .i64 m ∧ va = .int .i64 at_ ∧ w' = w.alloc (.cells C 109) ∧ C.size = 64 ∧ at_ + ds.length = 64 ∧ Hid (m.natAbs * 10 ^ ds.length ≤ 9223372036854775808) ∧ -9223372036854775808 ≤ m ∧ m ≤ 9223372036854775807 ∧ Hid (∀ j (h : j < ds.length), C[at_ + j]? = some (.int .u8 ds[j].toNat)) ∧ Hid (if at_ = 64 ∨ m ≠ 0 then digL base.toNat m.natAbs ++ ds = R else ds = R)) (fun vn va _ => (intOf va).toNat)
  case atStart => exact ⟨n, 64, _, [], rfl, rfl, rfl, by rfl, rfl, by unfold Hid; simp; omega, h0, h1, fun j h => absurd h (by simp), by unfold Hid; rw [if_pos (.inl rfl), List.append_nil]; exact hR'.out⟩
  case round =>
    clear hR' h0 h1 n
    obtain ⟨m, k, C, ds, rfl, rfl, rfl, hC, hk, hm, h0, h1, hds, hR⟩ := hrel
    by_cases hgo : k = 64 ∨ m ≠ 0
    · have hR2 := hR.out
      rw [if_pos hgo] at hR2
      have hR3 := Lib.hid hR2
      clear hR hR2
      have hk1 : 1 ≤ k := by
        rcases hgo with h | h
        · omega
        · have := dig_room (by omega : m.natAbs ≠ 0) hm.out
          omega
      have hk2 : k ≤ 64 := by omega
      have hds' := Lib.hid hds.out
      clear hds
      have hk' := Lib.hid hk
      clear hk
      have hcase : ((k : Int) == 64) = true ∨ (((k : Int) == 64) = false ∧ (m != 0) = true) := by
        by_cases hg : k = 64
        · exact .inl (by simp [hg])
        · exact .inr ⟨by simp; omega, by rcases hgo with h | h; exact absurd h hg; simpa using h⟩
      clear hgo
      rcases hb with rfl | rfl
      · obtain ⟨u, hu⟩ : ∃ u, C[k - 1]? = some u := ⟨C[k - 1]'(by omega), by simp⟩
        have hq : max (Int.tmod m 10) (-Int.tmod m 10) = ((m.natAbs % 10 : Nat) : Int) := max_tmod m 10
        have hr := Lib.hid (tdiv_range (b := 10) h0 h1 (by omega))
        rcases hcase with hg1 | ⟨hg1, hg2⟩
        all_goals
          go_wp2
          go_roundw
          case rel =>
            exact ⟨_, k - 1, _, sg (m.natAbs % 10) :: ds, rfl, by rw [show ((k - 1 : Nat) : Int) = (k : Int) - 1 from by omega], rfl, by simp [hC], by have := hk'.out; simp; omega, dig_pow (natAbs_tdiv m 10) (by omega) hm.out, hr.out.1, hr.out.2, cells_push (by rw [sg_at _ (by omega)]) hk1 (by omega) hds'.out, fig_rel (b := 10) (by omega) hk2 hk1 (natAbs_tdiv m 10) hR3.out⟩
          case measure => simp [intOf]; omega
      · obtain ⟨u, hu⟩ : ∃ u, C[k - 1]? = some u := ⟨C[k - 1]'(by omega), by simp⟩
        have hq : max (Int.tmod m 16) (-Int.tmod m 16) = ((m.natAbs % 16 : Nat) : Int) := max_tmod m 16
        have hr := Lib.hid (tdiv_range (b := 16) h0 h1 (by omega))
        rcases hcase with hg1 | ⟨hg1, hg2⟩
        all_goals
          go_wp2
          go_roundw
          case rel =>
            exact ⟨_, k - 1, _, sg (m.natAbs % 16) :: ds, rfl, by rw [show ((k - 1 : Nat) : Int) = (k : Int) - 1 from by omega], rfl, by simp [hC], by have := hk'.out; simp; omega, dig_pow (natAbs_tdiv m 16) (by omega) hm.out, hr.out.1, hr.out.2, cells_push (by rw [sg_at _ (by omega)]) hk1 (by omega) hds'.out, fig_rel (b := 16) (by omega) hk2 hk1 (natAbs_tdiv m 16) hR3.out⟩
          case measure => simp [intOf]; omega
    · have hR2 := hR.out
      rw [if_neg hgo] at hR2
      clear hR
      have hk2 : k ≤ 64 := by omega
      have hk3 : ¬ k = 64 := fun h => hgo (.inl h)
      obtain rfl : m = 0 := Decidable.byContradiction fun h => hgo (.inr h)
      have hg1 : ((k : Int) == 64) = false := by simp; omega
      clear hgo hm h0 h1
      have hcell : ∀ j (hj : j < ds.length), (w.alloc (.cells C 109)).cell? ((⟨w.heap.size, k, none⟩ : Addr).add j) = some (.int .u8 (ds[j].toNat : Int)) := by
        intro j hj
        rw [addr_add, World.cell?_alloc_mark]
        exact hds.out j hj
      have hcv := run_convert_bytes_back (P := Try.prog) (w.alloc (.cells C 109)) 71 9 5 ⟨w.heap.size, k, none⟩ (64 - k) ds Try.underlying71 Try.underlying5 Try.underlying9 hcell
      rw [show ds.length = 64 - k from by omega] at hcv
      have hR3 := Lib.hid hR2
      clear hR2
      have hds' := Lib.hid hds
      have hk' := Lib.hid hk
      clear hds hk hcell
      have hsl : ∀ W, (Instr.sliceAt 109 (.pointer (some ⟨w.heap.size, 0, none⟩)) (some (.int .i64 k)) none none).run Try.prog W = .ok (.slice (some ⟨w.heap.size, k, none⟩) (64 - k) (64 - k)) W := by
        intro W
        rw [run_sliceAt_array_l W 109 _ Try.underlying109 .i64 k (by omega) (show (k : Int) ≤ 64 by omega)]
        go_simp
        intro h
        omega
      go_wp2
      go_ret
      exact ⟨by rw [← hR3.out]; rfl, (Below.refl _ _).alloc (Nat.le_refl _) _⟩

/-! octet.lower, octet.Lower -/
def lowB (c : UInt8) : UInt8 := if 65 ≤ c ∧ c ≤ 90 then c + 32 else c
def lowL (l : List UInt8) : List UInt8 := l.map lowB
theorem lowB_up {c : UInt8} (h : 65 ≤ (c.toNat : Int) ∧ (c.toNat : Int) ≤ 90) : ((lowB c).toNat : Int) = c.toNat + 32 := by
  have : ∀ c : UInt8, 65 ≤ c.toNat ∧ c.toNat ≤ 90 → (lowB c).toNat = c.toNat + 32 := by
    intro c hc
    unfold lowB
    rw [if_pos (by simp [UInt8.le_iff_toNat_le]; omega), UInt8.toNat_add]
    simp
    omega
  have := this c (by omega)
  omega
theorem lowB_no {c : UInt8} (h : ¬ (65 ≤ (c.toNat : Int) ∧ (c.toNat : Int) ≤ 90)) : lowB c = c := by
  unfold lowB
  rw [if_neg (by simp [UInt8.le_iff_toNat_le]; omega)]
set_option maxHeartbeats 400000 in
theorem lower_calls (c : UInt8) (w : World) :
    Calls Try.prog 87 #[.int .u8 c.toNat] w fun e w' => e = .returned (.int .u8 (lowB c).toNat) ∧ w = w' := by
  have hc := UInt8.toNat_lt c
  by_cases h : 65 ≤ (c.toNat : Int) ∧ (c.toNat : Int) ≤ 90
  · rw [lowB_up h]
    obtain ⟨h1, h2⟩ := h
    go_enter Try.func87, Try.ntmps87
    go_wp2 <;> (go_ret; try simp; try omega)
  · rw [lowB_no h]
    go_enter Try.func87, Try.ntmps87
    go_wp2 <;> (go_ret; try simp; try omega)
theorem heap_set {w : World} {g : Nat} {t : TypeId} {cs : Array Value} {fr : Nat × Nat} (h : w.heap[g]? = some (.cells cs t fr)) (i : Nat) (u : Value) :
    (w.setCell ⟨g, i, none⟩ u).heap[g]? = some (.cells (cs.setIfInBounds i u) t fr) := by
  simp only [World.setCell, Array.getElem?_modify, if_pos]
  rw [h]
  rfl
theorem heap_cell {w : World} {g : Nat} {t : TypeId} {cs : Array Value} {fr : Nat × Nat} (h : w.heap[g]? = some (.cells cs t fr)) (i : Nat) : w.cell? ⟨g, i, none⟩ = cs[i]? := cell_of_row w g i cs t fr h
theorem low_start (w : World) (s : ByteArray) : ∀ j (h : j < s.size), (Lib.bytesCells w 5 s)[j]? = some (.int .u8 (if j < 0 then lowB (s[j]'h) else s[j]'h).toNat) := by
  intro j h
  have : j < s.data.size := h
  simp [Lib.bytesCells, Array.getElem?_append, h, this]
  rfl
theorem low_below (w : World) (s : ByteArray) : Below w.heap.size w (Lib.bytesWorld w 5 s) :=
  ⟨rfl, rfl, rfl, by rw [Lib.bytesWorld_size]; omega, fun i hi => Lib.bytesWorld_at_old w _ s i hi⟩
theorem low_step {s : ByteArray} {C : Array Value} {k : Nat} (hC : ∀ j (h : j < s.size), C[j]? = some (.int .u8 (if j < k then lowB (s[j]'h) else s[j]'h).toNat)) (hk : k < s.size) :
    ∀ j (h : j < s.size), (C.setIfInBounds k (.int .u8 (lowB (s[k]'hk)).toNat))[j]? = some (.int .u8 (if j < k + 1 then lowB (s[j]'h) else s[j]'h).toNat) := by
  intro j h
  have hkC : k < C.size := by
    have := hC k hk
    exact (Array.getElem?_eq_some_iff.1 this).1
  by_cases e : k = j
  · subst e
    rw [Array.getElem?_setIfInBounds_self_of_lt hkC, if_pos (by omega)]
  · rw [Array.getElem?_setIfInBounds_ne e, hC j h]
    by_cases h1 : j < k
    · rw [if_pos h1, if_pos (by omega)]
    · rw [if_neg h1, if_neg (by omega)]
set_option maxHeartbeats 1000000 in
set_option maxRecDepth 100000 in
theorem Lower_calls (s : ByteArray) (w : World) (hs : s.size ≤ maxLen) :
    Calls Try.prog 55 #[.string s] w fun e w' => e = .returned (.string ⟨(lowL s.data.toList).toArray⟩) ∧ Below w.heap.size w w' := by
  have kb := fun W => Lib.run_convert_string_bytes (P := Try.prog) W 9 71 5 s Try.underlying9 Try.underlying71 Try.underlying5
  go_enter Try.func55, Try.ntmps55
  go_wp2
  go_loopw [10] (fun vi wr => ∃ (k : Nat) (C : Array Value), k ≤ s.size ∧ vi = .int .i64 k ∧ Hid (wr.heap[w.heap.size]? = some (.cells C 5 ((Lib.bytesCells w 5 s).size, (Lib.bytesCells w 5 s).size + 1))) ∧ Hid (∀ j (h : j < s.size), C[j]? = some (.int .u8 (if j < k then lowB (s[j]'h) else s[j]'h).toNat)) ∧ Below w.heap.size w wr) (fun vi _ => s.size - (intOf vi).toNat)
  case atStart => exact ⟨0, _, Nat.zero_le _, rfl, Lib.bytesWorld_at_new w _ s, low_start w s, low_below w s⟩
  case round =>
    obtain ⟨k, C, hk, rfl, hh, hC, hb⟩ := hrel
    clear kb
    have hN : s.size ≤ (Lib.bytesCells w 5 s).size := by unfold Lib.bytesCells; simp
    by_cases hlt : k < s.size
    · have hc : wr.cell? ⟨w.heap.size, k, none⟩ = some (.int .u8 (s[k]'hlt).toNat) := by
        rw [heap_cell hh.out, hC.out k hlt, if_neg (by omega)]
      have hf : wr.frozen? ⟨w.heap.size, k, none⟩ = false := by
        simp only [World.frozen?, hh.out]
        simp
        omega
      have hC' := Lib.hid hC.out
      have hh' := Lib.hid hh.out
      clear hC hh
      unfold maxLen at hs
      go_wp2_with (go_at_call 87; refine (lower_calls _ _).mono ?_; rintro e w' ⟨rfl, rfl⟩)
      go_roundw
      case rel => exact ⟨k + 1, _, by omega, by go_num, heap_set hh'.out _ _, low_step hC'.out hlt, hb.setCell (Nat.le_refl _) _⟩
      case measure => simp [intOf]; omega
    · obtain rfl : k = s.size := by omega
      have hl : (lowL s.data.toList).length = s.size := by simp [lowL]
      have hcells : ∀ j (hj : j < (lowL s.data.toList).length), wr.cell? ((⟨w.heap.size, 0, none⟩ : Addr).add j) = some (.int .u8 ((lowL s.data.toList)[j].toNat : Int)) := by
        intro j hj
        rw [addr_add, Nat.zero_add, heap_cell hh.out, hC.out j (by omega), if_pos (by omega)]
        simp [lowL]
        rfl
      have hcv := run_convert_bytes_back (P := Try.prog) wr 71 9 5 ⟨w.heap.size, 0, none⟩ (grownCap w s.size 0 5) (lowL s.data.toList) Try.underlying71 Try.underlying5 Try.underlying9 hcells
      rw [hl] at hcv
      clear hcells hC hh hl
      go_wp2
      go_ret
      exact ⟨rfl, hb⟩
end Go.Proofs.Ytdbokcgjdkbknaa.Hand
