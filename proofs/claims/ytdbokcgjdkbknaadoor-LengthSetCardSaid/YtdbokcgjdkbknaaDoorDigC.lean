/- Hand walk: digits.figures. -/
import Derived.Test.YtdbokcgjdkbknaaDoorDigA
import Derived.Lib.ConvBytes
import Derived.Laws.IdiomStrings
import Derived.OwnWalk
namespace Go.Proofs.YtdbokcgjdkbknaaDoor.Hand
open Go.RowKit
set_option linter.unusedVariables false
set_option linter.unusedSimpArgs false

/-! digits.figures -/
def sg (d : Nat) : UInt8 := if d < 10 then (48 + d).toUInt8 else (87 + d).toUInt8
def digL (b : Nat) (n : Nat) : List UInt8 := if h : b < 2 ∨ n < b then [sg n] else digL b (n / b) ++ [sg (n % b)]
termination_by n
decreasing_by
  have : 2 ≤ b := by omega
  exact Nat.div_lt_self (by omega) (by omega)
theorem addr_add (g k j : Nat) : (⟨g, k, none⟩ : Addr).add j = ⟨g, k + j, none⟩ := by unfold Addr.add; split <;> simp_all
theorem max_tmod (m : Int) (b : Nat) : max (Int.tmod m b) (-Int.tmod m b) = ((m.natAbs % b : Nat) : Int) := by
  rcases Int.natAbs_eq m with h | h
  · generalize m.natAbs = q at h
    subst h
    rw [← Int.ofNat_tmod]
    omega
  · generalize m.natAbs = q at h
    subst h
    rw [Int.neg_tmod, ← Int.ofNat_tmod]
    omega
theorem natAbs_tdiv (m : Int) (b : Nat) : (Int.tdiv m b).natAbs = m.natAbs / b := by
  rw [Int.natAbs_tdiv, Int.natAbs_natCast]
  rfl
theorem sg_at (d : Nat) (h : d < 16) : ((⟨#[48, 49, 50, 51, 52, 53, 54, 55, 56, 57, 97, 98, 99, 100, 101, 102]⟩ : ByteArray)[d]'h) = sg d := by
  have : ∀ d : Fin 16, ((⟨#[48, 49, 50, 51, 52, 53, 54, 55, 56, 57, 97, 98, 99, 100, 101, 102]⟩ : ByteArray)[d.val]'d.isLt) = sg d.val := by decide
  exact this ⟨d, h⟩
theorem cells_push {C : Array Value} {k : Nat} {ds : List UInt8} {c : UInt8} {v : Value} (hv : v = .int .u8 c.toNat) (hk : 1 ≤ k) (hC : k ≤ C.size) (h : ∀ j (hj : j < ds.length), C[k + j]? = some (.int .u8 ds[j].toNat)) :
    ∀ j (hj : j < (c :: ds).length), (C.setIfInBounds (k - 1) v)[k - 1 + j]? = some (.int .u8 (c :: ds)[j].toNat) := by
  intro j hj
  subst hv
  cases j with
  | zero => rw [Nat.add_zero, Array.getElem?_setIfInBounds_self_of_lt (by omega)]; rfl
  | succ j =>
    rw [Array.getElem?_setIfInBounds_ne (by omega), show k - 1 + (j + 1) = k + j from by omega, h j (by simpa using hj)]
    rfl
theorem dig_pow {m m' b n : Nat} (hm : m' = m / b) (hb : 10 ≤ b) (h : m * 10 ^ n ≤ 9223372036854775808) : m' * 10 ^ (n + 1) ≤ 9223372036854775808 := by
  rw [hm]
  have h1 : m / b * 10 ≤ m := Nat.le_trans (Nat.mul_le_mul_left _ hb) (Nat.div_mul_le_self m b)
  calc m / b * 10 ^ (n + 1) = (m / b * 10) * 10 ^ n := by rw [Nat.pow_succ, Nat.mul_comm (10 ^ n) 10, Nat.mul_assoc]
    _ ≤ m * 10 ^ n := Nat.mul_le_mul_right _ h1
    _ ≤ _ := h
theorem dig_room {m n : Nat} (hm : m ≠ 0) (h : m * 10 ^ n ≤ 9223372036854775808) : n ≤ 18 := by
  apply Decidable.byContradiction
  intro hn
  have h1 : 10 ^ 19 ≤ 10 ^ n := Nat.pow_le_pow_right (by omega) (by omega)
  have h2 : 1 * 10 ^ n ≤ m * 10 ^ n := Nat.mul_le_mul_right _ (by omega)
  have : (10 : Nat) ^ 19 = 10000000000000000000 := by rfl
  omega
theorem digL_step {b : Nat} (hb : 2 ≤ b) (n : Nat) (ds : List UInt8) : digL b n ++ ds = (if n / b ≠ 0 then digL b (n / b) ++ (sg (n % b) :: ds) else sg (n % b) :: ds) := by
  rw [digL]
  by_cases h : n < b
  · rw [dif_pos (.inr h), if_neg (by simp [Nat.div_eq_of_lt h]), Nat.mod_eq_of_lt h]
    rfl
  · have : 0 < n / b := Nat.div_pos (by omega) (by omega)
    rw [dif_neg (by omega), if_pos (by omega), List.append_assoc]
    rfl
theorem fig_rel {b k : Nat} {m m' : Int} {ds R : List UInt8} (hb : 2 ≤ b) (hk : k ≤ 64) (hk1 : 1 ≤ k) (hm : m'.natAbs = m.natAbs / b) (h : digL b m.natAbs ++ ds = R) : (if k - 1 = 64 ∨ m' ≠ 0 then digL b m'.natAbs ++ (sg (m.natAbs % b) :: ds) = R else sg (m.natAbs % b) :: ds = R) := by
  rw [digL_step hb] at h
  by_cases hz : m.natAbs / b ≠ 0
  · rw [if_pos hz] at h
    have : m' ≠ 0 := by omega
    rw [if_pos (.inr this), hm]
    exact h
  · rw [if_neg hz] at h
    have : ¬ (k - 1 = 64 ∨ m' ≠ 0) := by omega
    rw [if_neg this]
    exact h
theorem tdiv_range {m : Int} {b : Nat} (h0 : -9223372036854775808 ≤ m) (h1 : m ≤ 9223372036854775807) (hb : 2 ≤ b) : -9223372036854775808 ≤ Int.tdiv m b ∧ Int.tdiv m b ≤ 9223372036854775807 := by
  have e := natAbs_tdiv m b
  have : m.natAbs / b ≤ m.natAbs / 2 := Nat.div_le_div_left hb (by omega)
  omega
set_option maxHeartbeats 1000000 in
set_option maxRecDepth 100000 in
theorem figures_calls (n base : Int) (w : World) (hb : base = 10 ∨ base = 16) (h0 : -9223372036854775808 ≤ n) (h1 : n ≤ 9223372036854775807) :
    Calls Tryd.prog 65 #[.int .i64 n, .int .i64 base] w fun e w' => e = .returned (.string ⟨(digL base.toNat n.natAbs).toArray⟩) ∧ Below w.heap.size w w' := by
  obtain ⟨R, hR⟩ : ∃ R, digL base.toNat n.natAbs = R := ⟨_, rfl⟩
  rw [hR]
  have hR' := Lib.hid hR
  clear hR
  go_enter Tryd.func65, Tryd.ntmps65
  go_wp2
  go_loopw [0, 6] (fun vn va w' => ∃ (m : Int) (at_ : Nat) (C : Array Value) (ds : List UInt8), vn = .int .i64 m ∧ va = .int .i64 at_ ∧ w' = w.alloc (.cells C 80) ∧ C.size = 64 ∧ at_ + ds.length = 64 ∧ Hid (m.natAbs * 10 ^ ds.length ≤ 9223372036854775808) ∧ -9223372036854775808 ≤ m ∧ m ≤ 9223372036854775807 ∧ Hid (∀ j (h : j < ds.length), C[at_ + j]? = some (.int .u8 ds[j].toNat)) ∧ Hid (if at_ = 64 ∨ m ≠ 0 then digL base.toNat m.natAbs ++ ds = R else ds = R)) (fun vn va _ => (intOf va).toNat)
  case atStart => exact ⟨n, 64, _, [], rfl, rfl, rfl, by rfl, rfl, by unfold Hid; simp; omega, h0, h1, fun j h => absurd h (by simp), by unfold Hid; rw [if_pos (.inl rfl), List.append_nil]; exact hR'.out⟩
  case round =>
    clear hR' h0 h1 n
    obtain ⟨m, k, C, ds, rfl, rfl, rfl, hC, hk, hm, h0, h1, hds, hR⟩ := hrel
    by_cases hgo : k = 64 ∨ m ≠ 0
    · have hR2 := hR.out
      rw [if_pos hgo] at hR2
      have hR3 := Lib.hid hR2
      clear hR hR2
      have hk1 : 1 ≤ k := by
        rcases hgo with h | h
        · omega
        · have := dig_room (by omega : m.natAbs ≠ 0) hm.out
          omega
      have hk2 : k ≤ 64 := by omega
      have hds' := Lib.hid hds.out
      clear hds
      have hk' := Lib.hid hk
      clear hk
      have hcase : ((k : Int) == 64) = true ∨ (((k : Int) == 64) = false ∧ (m != 0) = true) := by
        by_cases hg : k = 64
        · exact .inl (by simp [hg])
        · exact .inr ⟨by simp; omega, by rcases hgo with h | h; exact absurd h hg; simpa using h⟩
      clear hgo
      rcases hb with rfl | rfl
      · obtain ⟨u, hu⟩ : ∃ u, C[k - 1]? = some u := ⟨C[k - 1]'(by omega), by simp⟩
        have hq : max (Int.tmod m 10) (-Int.tmod m 10) = ((m.natAbs % 10 : Nat) : Int) := max_tmod m 10
        have hr := Lib.hid (tdiv_range (b := 10) h0 h1 (by omega))
        rcases hcase with hg1 | ⟨hg1, hg2⟩
        all_goals
          go_wp2
          go_roundw
          case rel =>
            exact ⟨_, k - 1, _, sg (m.natAbs % 10) :: ds, rfl, by rw [show ((k - 1 : Nat) : Int) = (k : Int) - 1 from by omega], rfl, by simp [hC], by have := hk'.out; simp; omega, dig_pow (natAbs_tdiv m 10) (by omega) hm.out, hr.out.1, hr.out.2, cells_push (by rw [sg_at _ (by omega)]) hk1 (by omega) hds'.out, fig_rel (b := 10) (by omega) hk2 hk1 (natAbs_tdiv m 10) hR3.out⟩
          case measure => simp [intOf]; omega
      · obtain ⟨u, hu⟩ : ∃ u, C[k - 1]? = some u := ⟨C[k - 1]'(by omega), by simp⟩
        have hq : max (Int.tmod m 16) (-Int.tmod m 16) = ((m.natAbs % 16 : Nat) : Int) := max_tmod m 16
        have hr := Lib.hid (tdiv_range (b := 16) h0 h1 (by omega))
        rcases hcase with hg1 | ⟨hg1, hg2⟩
        all_goals
          go_wp2
          go_roundw
          case rel =>
            exact ⟨_, k - 1, _, sg (m.natAbs % 16) :: ds, rfl, by rw [show ((k - 1 : Nat) : Int) = (k : Int) - 1 from by omega], rfl, by simp [hC], by have := hk'.out; simp; omega, dig_pow (natAbs_tdiv m 16) (by omega) hm.out, hr.out.1, hr.out.2, cells_push (by rw [sg_at _ (by omega)]) hk1 (by omega) hds'.out, fig_rel (b := 16) (by omega) hk2 hk1 (natAbs_tdiv m 16) hR3.out⟩
          case measure => simp [intOf]; omega
    · have hR2 := hR.out
      rw [if_neg hgo] at hR2
      clear hR
      have hk2 : k ≤ 64 := by omega
      have hk3 : ¬ k = 64 := fun h => hgo (.inl h)
      obtain rfl : m = 0 := Decidable.byContradiction fun h => hgo (.inr h)
      have hg1 : ((k : Int) == 64) = false := by simp; omega
      clear hgo hm h0 h1
      have hcell : ∀ j (hj : j < ds.length), (w.alloc (.cells C 80)).cell? ((⟨w.heap.size, k, none⟩ : Addr).add j) = some (.int .u8 (ds[j].toNat : Int)) := by
        intro j hj
        rw [addr_add, World.cell?_alloc_mark]
        exact hds.out j hj
      have hcv := run_convert_bytes_back (P := Tryd.prog) (w.alloc (.cells C 80)) 81 9 5 ⟨w.heap.size, k, none⟩ (64 - k) ds Tryd.underlying81 Tryd.underlying5 Tryd.underlying9 hcell
      rw [show ds.length = 64 - k from by omega] at hcv
      have hR3 := Lib.hid hR2
      clear hR2
      have hds' := Lib.hid hds
      have hk' := Lib.hid hk
      clear hds hk hcell
      have hsl : ∀ W, (Instr.sliceAt 80 (.pointer (some ⟨w.heap.size, 0, none⟩)) (some (.int .i64 k)) none none).run Tryd.prog W = .ok (.slice (some ⟨w.heap.size, k, none⟩) (64 - k) (64 - k)) W := by
        intro W
        rw [run_sliceAt_array_l W 80 _ Tryd.underlying80 .i64 k (by omega) (show (k : Int) ≤ 64 by omega)]
        go_simp
        intro h
        omega
      go_wp2
      go_ret
      exact ⟨by rw [← hR3.out]; rfl, (Below.refl _ _).alloc (Nat.le_refl _) _⟩

end Go.Proofs.YtdbokcgjdkbknaaDoor.Hand
