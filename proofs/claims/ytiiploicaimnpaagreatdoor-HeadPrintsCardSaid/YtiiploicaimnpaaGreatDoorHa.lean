/- Printed by wip/bin/hyb.py by way of the kit's print program: the kinds. Not trusted: Lean checks it. | Hand walks: digits.digit, digits.number. | Hand walk: digits.figures. | The hand walks of package digits in the printer form: name.f tells the answer, name.calls is the contract. | Hand walk: digits.Text. | Printed walks of some functions, cut out of a print by wip/bin/take.py. | Hand walks: octet.tchar, all, Token, Value, Visible. | Hand walks: octet.tchar, Token, Value, Visible. | Hand walk: octet.Visible. | Hand walk: the reference's Tchar (layer 1). | Frames: what a call may write. -/
import Derived.Test.YtiiploicaimnpaaGreatDoorProg
import Derived.Below
import Derived.Deep.Draws
import Derived.Deep.AppendLies
import Derived.Maps.AppendAt
import Derived.OwnWalk
import Derived.Laws.BytesArg
import Derived.Laws.MakeOwn
import Derived.Laws.OwnMore
import Derived.Deep.OwnRows
import Derived.Tactics
import Derived.Lib.ConvBytes
import Derived.Laws.Slices
import Derived.WalkKit
import Derived.KernelRfl
import Derived.RowKit3
import Derived.Deep.LoopGhost
import Derived.Deep.QuietTactic
import Derived.BigQuiet
import Derived.WideLaws
import Derived.Deep.DeepCutAuto
import Derived.Deep.CutBlock
import Derived.Deep.RegionHeld3
import Derived.Laws.Rows
import Derived.Lib.AppendStr
import Derived.ArgAppend
import Derived.Laws.IdiomCopy
import Derived.OrdersHeld
import Derived.Laws.BitsLemmas
import Derived.RowKit
import Derived.Test.YtiiploicaimnpaaGreatDoorHw
import Derived.Lib.Hide
import Derived.Lib.Bytealg
import Derived.Laws.RangeAny
import Derived.Outline
import Derived.WalkSpells
import Derived.Lib.Walk
import Derived.Lib.Strings
import Derived.BigCall
import Derived.Laws.IdiomStrings
import Derived.Laws.Concat
import Derived.Lib.OthersKept
import Derived.BigGuard
import Derived.Shelf.Abstract
namespace Go.Proofs.YtiiploicaimnpaaGreatDoor.Hand
open Go.RowKit Go.Proofs.YtiiploicaimnpaaGreatDoorW.PrintWords Go.Proofs.YtiiploicaimnpaaGreatDoorW.PrintLast Go.Proofs.YtiiploicaimnpaaGreatDoorW.PrintMore
set_option linter.unusedVariables false
set_option linter.unusedSimpArgs false
def errW : Option Int → Value
  | none => .nilIface
  | some c => .iface 0 (.int .i64 c)
theorem errW_none : errW none = .nilIface := rfl
theorem errW_some (c : Int) : errW (some c) = .iface 0 (.int .i64 c) := rfl
theorem info9 : (Tryz.prog.info? 9).map (fun i => (i.zero, i.size, i.bytes)) = some (some (.string ⟨#[]⟩), 1, 16) := by kernel_rfl
theorem info85 : (Tryz.prog.info? 85).map (fun i => (i.zero, i.size, i.bytes)) = some (some (.agg #[(.string ⟨#[]⟩), (.string ⟨#[]⟩)]), 2, 32) := by kernel_rfl
structure S85 where
  f0 : ByteArray
  f1 : ByteArray
def z85 : S85 := ⟨(⟨#[]⟩ : ByteArray), (⟨#[]⟩ : ByteArray)⟩
def k85 : Kd S85 := Kd.iso (Kd.pair Kd.string Kd.string) (fun x : S85 => (x.f0, x.f1))
theorem k85_open {w : World} {x : S85} {cs : List Value} (h : k85.K w x cs) : cs = [.string x.f0, .string x.f1] := by
  obtain ⟨_, _, rfl, rfl, rfl⟩ := h
  exact rfl
theorem k85_openM {w : World} {base : Nat} {ok : Nat → Prop} {x : S85} {cs : List Value} (h : k85.M w base ok x cs) : cs = [.string x.f0, .string x.f1] := by
  obtain ⟨_, _, rfl, rfl, rfl⟩ := h
  exact rfl
theorem k85_mk (w : World) (x : S85)  : k85.K w x [.string x.f0, .string x.f1] := ⟨[.string x.f0], [.string x.f1], rfl, rfl, rfl⟩
theorem k85_mkM (w : World) (base : Nat) (ok : Nat → Prop) (x : S85)  : k85.M w base ok x [.string x.f0, .string x.f1] := ⟨[.string x.f0], [.string x.f1], rfl, rfl, rfl⟩
def rd_T85 (xs : List S85) (i : Int) : S85 := xs.getD i.toNat z85
theorem at_T85 {w : World} {A : Option Addr} {n : Nat} {xs : List S85} (h : Kd.C k85 w A n xs) (i : Int) (h0 : 0 ≤ i) (h1 : i < n) : ∃ ad , A = some ad ∧ w.cell? (ad.add (i.toNat * 2)) = some (.string (rd_T85 xs i).f0) ∧ w.cell? ⟨(ad.add (i.toNat * 2)).block, (ad.add (i.toNat * 2)).off + 1, none⟩ = some (.string (rd_T85 xs i).f1) := by
  obtain ⟨ad, c, e, _, hK, hc0⟩ := Kd.C_get h z85 i h0 h1
  have hc : ∀ j u, c[j]? = some u → w.cell? (ad.add (i.toNat * 2 + j)) = some u := hc0
  obtain rfl := k85_open hK
  exact ⟨ad, e, hc 0 _ rfl, by rw [← add_field _ _ 1 (by omega)]; exact hc 1 _ rfl⟩
end Go.Proofs.YtiiploicaimnpaaGreatDoor.Hand
namespace Go.Proofs.YtiiploicaimnpaaGreatDoor.Hand
open Go.RowKit
set_option linter.unusedVariables false
set_option linter.unusedSimpArgs false
theorem toList_eq (s : ByteArray) : s.toList = s.data.toList := Lib.toList_data s
theorem empty_yes {s : ByteArray} (h : s.data.toList = []) : s.toList.isEmpty = true := by rw [toList_eq, h]; rfl
theorem empty_no {s : ByteArray} (h : ¬ s.data.toList = []) : s.toList.isEmpty = false := by
  rw [toList_eq]; cases e : s.data.toList with
  | nil => exact absurd e h
  | cons a l => rfl
theorem drop_cons (s : ByteArray) (k : Nat) (h : k < s.size) : s.data.toList.drop k = s[k] :: s.data.toList.drop (k + 1) := by
  rw [List.drop_eq_getElem_cons (by simpa using h)]; rfl
theorem Below.iter (w : World) (s : ByteArray) (p : Nat) : Below w.heap.size w (w.iter s p) := (Below.refl _ _).alloc (Nat.le_refl _) _
def dig (c : Int) : Int := if 48 ≤ c ∧ c ≤ 57 then c - 48 else if 97 ≤ c ∧ c ≤ 102 then c - 97 + 10 else if 65 ≤ c ∧ c ≤ 70 then c - 65 + 10 else -1
theorem dig_lt (c : Int) : -1 ≤ dig c ∧ dig c ≤ 15 := by unfold dig; repeat' split <;> omega
theorem dig_hi (c : Int) (h : 128 ≤ c) : dig c = -1 := by unfold dig; repeat' split <;> omega
set_option maxHeartbeats 400000 in
theorem digit_calls (r : Int) (w : World) (h0 : 0 ≤ r) (h1 : r ≤ 2147483647) :
    Calls Tryz.prog 163 #[.int .i32 r] w fun e w' => e = .returned (.int .i64 (dig r)) ∧ w = w' := by
  by_cases a : 48 ≤ r ∧ r ≤ 57
  · have hd : dig r = r - 48 := by unfold dig; simp [a]
    rw [hd]; clear hd
    obtain ⟨a1, a2⟩ := a
    go_enter Tryz.func163, Tryz.ntmps163
    go_wp2
    go_ret
    simp
  by_cases b : 97 ≤ r ∧ r ≤ 102
  · have hd : dig r = r - 97 + 10 := by unfold dig; simp [a, b]
    rw [hd]; clear hd
    obtain ⟨a1, a2⟩ := b
    go_enter Tryz.func163, Tryz.ntmps163
    go_wp2 <;> go_ret <;> simp
  by_cases c : 65 ≤ r ∧ r ≤ 70
  · have hd : dig r = r - 65 + 10 := by unfold dig; simp [a, b, c]
    rw [hd]; clear hd
    obtain ⟨a1, a2⟩ := c
    go_enter Tryz.func163, Tryz.ntmps163
    go_wp2 <;> go_ret <;> simp
  · have hd : dig r = -1 := by unfold dig; simp [a, b, c]
    rw [hd]; clear hd
    go_enter Tryz.func163, Tryz.ntmps163
    go_wp2 <;> first | (go_ret; simp; done) | omega
def numL (base most : Int) : List UInt8 → Int → Bool → Int × Int
  | [], n, over => if over then (0, 5) else (n, 0)
  | c :: l, n, over =>
    if dig c.toNat < 0 ∨ base ≤ dig c.toNat then (0, 3)
    else if over = true ∨ most < dig c.toNat ∨ (most - dig c.toNat) / base < n then numL base most l n true
    else numL base most l (n * base + dig c.toNat) false
theorem num_bad {base most n : Int} {over : Bool} {c : UInt8} {l : List UInt8} (h : dig c.toNat < 0 ∨ base ≤ dig c.toNat) : numL base most (c :: l) n over = (0, 3) := by simp only [numL]; rw [if_pos h]
theorem num_over {base most n : Int} {over : Bool} {c : UInt8} {l : List UInt8} (h : ¬ (dig c.toNat < 0 ∨ base ≤ dig c.toNat)) (h2 : over = true ∨ most < dig c.toNat ∨ (most - dig c.toNat) / base < n) : numL base most (c :: l) n over = numL base most l n true := by rw [numL, if_neg h, if_pos h2]
theorem num_ok {base most n : Int} {over : Bool} {c : UInt8} {l : List UInt8} (h : ¬ (dig c.toNat < 0 ∨ base ≤ dig c.toNat)) (h2 : ¬ (over = true ∨ most < dig c.toNat ∨ (most - dig c.toNat) / base < n)) : numL base most (c :: l) n over = numL base most l (n * base + dig c.toNat) false := by rw [numL, if_neg h, if_neg h2]
theorem num_bd {base most n d : Int} (hb : base = 10 ∨ base = 16) (hn0 : 0 ≤ n) (h0 : ¬ d < 0) (h1 : ¬ base ≤ d) (h2 : ¬ most < d) (h3 : ¬ (most - d) / base < n) (hm1 : most ≤ 4611686018427387904) : 0 ≤ n * base ∧ 0 ≤ n * base + d ∧ n * base + d ≤ most := by
  rcases hb with rfl | rfl <;> omega
set_option maxHeartbeats 400000 in
theorem number_calls (s : ByteArray) (base most : Int) (w : World) (hs : s.size ≤ maxLen) (hb : base = 10 ∨ base = 16) (hm0 : 0 ≤ most) (hm1 : most ≤ 4611686018427387904) :
    Calls Tryz.prog 144 #[.string s, .int .i64 base, .int .i64 most] w fun e w' =>
      e = .returned (.tuple #[.int .i64 (if s.data.toList = [] then (0, 2) else numL base most s.data.toList 0 false).1, .int .i64 (if s.data.toList = [] then (0, 2) else numL base most s.data.toList 0 false).2]) ∧ Below w.heap.size w w' := by
  unfold maxLen at hs
  by_cases hz : s.data.toList = []
  · rw [if_pos hz]
    have hz0 := empty_yes hz
    clear hz
    go_enter Tryz.func144, Tryz.ntmps144
    go_wp2
    go_ret2
    exact ⟨rfl, Below.refl _ _⟩
  · rw [if_neg hz]
    obtain ⟨R, hR⟩ : ∃ R, numL base most s.data.toList 0 false = R := ⟨_, rfl⟩
    rw [hR]
    have hR' := Lib.hid hR
    clear hR
    have hz0 := empty_no hz
    clear hz
    go_enter Tryz.func144, Tryz.ntmps144
    go_wp2
    go_loopw [8, 9] (fun vn vo w' => ∃ (pos : Nat) (n : Int) (over : Bool), pos ≤ s.size ∧ w' = w.iter s pos ∧ vn = .int .i64 n ∧ vo = .bool over ∧ 0 ≤ n ∧ n ≤ most ∧ Hid (numL base most (s.data.toList.drop pos) n over = R)) (fun _ _ w' => s.size - w'.iterPos w.heap.size)
    case atStart => exact ⟨0, 0, false, Nat.zero_le _, rfl, rfl, rfl, Int.le_refl _, hm0, hR'⟩
    case round =>
      clear hR'
      obtain ⟨pos, n, over, hpos, rfl, rfl, rfl, hn0, hn1, hR⟩ := hrel
      by_cases hp : pos < s.size
      · by_cases ha : (s[pos]'hp).toNat < 128
        · have hnx : ∀ ty, (Instr.next (.pointer (some ⟨w.heap.size, 0, none⟩)) true ty).run Tryz.prog (w.iter s pos) = _ := fun ty => run_next_ascii w s pos ty hp ha
          have hx := dig_lt (s[pos]'hp).toNat
          have hR2 := hR.out
          rw [drop_cons s pos hp] at hR2
          clear hR
          by_cases hg : dig (s[pos]'hp).toNat < 0 ∨ base ≤ dig (s[pos]'hp).toNat
          · have hR3 := Lib.hid ((num_bad hg).symm.trans hR2)
            clear hR2
            by_cases hg0 : dig (s[pos]'hp).toNat < 0
            · clear hg
              go_wp2_with (go_at_call 163; refine (digit_calls _ _ (by omega) (by omega)).mono ?_; rintro e w' ⟨rfl, rfl⟩)
              go_ret2
              exact ⟨by rw [← hR3.out]; rfl, Below.iter _ _ _⟩
            · have hg1 : base ≤ dig (s[pos]'hp).toNat := hg.resolve_left hg0
              clear hg
              go_wp2_with (go_at_call 163; refine (digit_calls _ _ (by omega) (by omega)).mono ?_; rintro e w' ⟨rfl, rfl⟩)
              go_ret2
              exact ⟨by rw [← hR3.out]; rfl, Below.iter _ _ _⟩
          · have hg0 : ¬ dig (s[pos]'hp).toNat < 0 := fun h => hg (.inl h)
            have hg1 : ¬ base ≤ dig (s[pos]'hp).toNat := fun h => hg (.inr h)
            by_cases hv : over = true ∨ most < dig (s[pos]'hp).toNat ∨ (most - dig (s[pos]'hp).toNat) / base < n
            · have hR3 := Lib.hid ((num_over hg hv).symm.trans hR2)
              clear hR2 hg
              by_cases hv0 : over = true
              · subst hv0
                clear hv
                go_wp2_with (go_at_call 163; refine (digit_calls _ _ (by omega) (by omega)).mono ?_; rintro e w' ⟨rfl, rfl⟩)
                go_roundw
                case rel => exact ⟨pos + 1, n, true, by omega, rfl, rfl, rfl, hn0, hn1, hR3⟩
                case measure => simp; omega
              have hv0 : over = false := by cases over <;> simp_all
              subst hv0
              by_cases hv1 : most < dig (s[pos]'hp).toNat
              · clear hv
                go_wp2_with (go_at_call 163; refine (digit_calls _ _ (by omega) (by omega)).mono ?_; rintro e w' ⟨rfl, rfl⟩)
                go_roundw
                case rel => exact ⟨pos + 1, n, true, by omega, rfl, rfl, rfl, hn0, hn1, hR3⟩
                case measure => simp; omega
              · have hv2 : (most - dig (s[pos]'hp).toNat) / base < n := by rcases hv with h | h | h; exact absurd h (by decide); exact absurd h hv1; exact h
                have hv3 : decide (most < dig (s[pos]'hp).toNat) = false := decide_eq_false hv1
                have hv4 : decide ((most - dig (s[pos]'hp).toNat) / base < n) = true := decide_eq_true hv2
                clear hv
                go_wp2_with (go_at_call 163; refine (digit_calls _ _ (by omega) (by omega)).mono ?_; rintro e w' ⟨rfl, rfl⟩)
                go_roundw
                case rel => exact ⟨pos + 1, n, true, by omega, rfl, rfl, rfl, hn0, hn1, hR3⟩
                case measure => simp; omega
            · have hv0 : over = false := by cases over <;> simp_all
              subst hv0
              have hv1 : ¬ most < dig (s[pos]'hp).toNat := fun h => hv (.inr (.inl h))
              have hv2 : ¬ (most - dig (s[pos]'hp).toNat) / base < n := fun h => hv (.inr (.inr h))
              have hR3 := Lib.hid ((num_ok hg hv).symm.trans hR2)
              have hbd := num_bd hb hn0 hg0 hg1 hv1 hv2 hm1
              have hv3 : decide (most < dig (s[pos]'hp).toNat) = false := decide_eq_false hv1
              have hv4 : decide ((most - dig (s[pos]'hp).toNat) / base < n) = false := decide_eq_false hv2
              clear hR2 hg hv
              go_wp2_with (go_at_call 163; refine (digit_calls _ _ (by omega) (by omega)).mono ?_; rintro e w' ⟨rfl, rfl⟩)
              go_roundw
              case rel => exact ⟨pos + 1, _, false, by omega, rfl, rfl, rfl, hbd.2.1, hbd.2.2, hR3⟩
              case measure => simp; omega
        · have hnx : ∀ ty, (Instr.next (.pointer (some ⟨w.heap.size, 0, none⟩)) true ty).run Tryz.prog (w.iter s pos) = _ := fun ty => run_next_any w s pos ty hp
          have hh := decode_high s pos hp (by omega)
          have hl := decode_le s pos
          have hR2 := hR.out
          rw [drop_cons s pos hp] at hR2
          clear hR
          have hg : dig (s[pos]'hp).toNat < 0 ∨ base ≤ dig (s[pos]'hp).toNat := .inl (by rw [dig_hi _ (by omega)]; omega)
          have hR3 := Lib.hid ((num_bad hg).symm.trans hR2)
          have hdg := dig_hi (Utf8.decode s pos).1 (by omega)
          clear hR2 hg
          go_wp2_with (go_at_call 163; refine (digit_calls _ _ (by omega) (by omega)).mono ?_; rintro e w' ⟨rfl, rfl⟩)
          all_goals go_ret2
          all_goals exact ⟨by rw [← hR3.out]; rfl, Below.iter _ _ _⟩
      · have hnx : ∀ ty, (Instr.next (.pointer (some ⟨w.heap.size, 0, none⟩)) true ty).run Tryz.prog (w.iter s pos) = _ := fun ty => run_next_end w s pos ty hp
        have hR2 := hR.out
        rw [List.drop_of_length_le (by simp; omega)] at hR2
        clear hR
        have hR3 := Lib.hid hR2
        clear hR2
        cases over
        all_goals
          go_wp2
          go_ret2
          exact ⟨by rw [← hR3.out]; rfl, Below.iter _ _ _⟩
/-- The result of digits.number. -/
def numS (base most : Int) (s : ByteArray) : Int × Int := if s.data.toList = [] then (0, 2) else numL base most s.data.toList 0 false
end Go.Proofs.YtiiploicaimnpaaGreatDoor.Hand
namespace Go.Proofs.YtiiploicaimnpaaGreatDoor.Hand
open Go.RowKit
set_option linter.unusedVariables false
set_option linter.unusedSimpArgs false
def sg (d : Nat) : UInt8 := if d < 10 then (48 + d).toUInt8 else (87 + d).toUInt8
def digL (b : Nat) (n : Nat) : List UInt8 := if h : b < 2 ∨ n < b then [sg n] else digL b (n / b) ++ [sg (n % b)]
termination_by n
decreasing_by
  have : 2 ≤ b := by omega
  exact Nat.div_lt_self (by omega) (by omega)
theorem addr_add (g k j : Nat) : (⟨g, k, none⟩ : Addr).add j = ⟨g, k + j, none⟩ := by unfold Addr.add; split <;> simp_all
theorem max_tmod (m : Int) (b : Nat) : max (Int.tmod m b) (-Int.tmod m b) = ((m.natAbs % b : Nat) : Int) := by
  rcases Int.natAbs_eq m with h | h
  · generalize m.natAbs = q at h
    subst h
    rw [← Int.ofNat_tmod]
    omega
  · generalize m.natAbs = q at h
    subst h
    rw [Int.neg_tmod, ← Int.ofNat_tmod]
    omega
theorem natAbs_tdiv (m : Int) (b : Nat) : (Int.tdiv m b).natAbs = m.natAbs / b := by
  rw [Int.natAbs_tdiv, Int.natAbs_natCast]
  rfl
theorem sg_at (d : Nat) (h : d < 16) : ((⟨#[48, 49, 50, 51, 52, 53, 54, 55, 56, 57, 97, 98, 99, 100, 101, 102]⟩ : ByteArray)[d]'h) = sg d := by
  have : ∀ d : Fin 16, ((⟨#[48, 49, 50, 51, 52, 53, 54, 55, 56, 57, 97, 98, 99, 100, 101, 102]⟩ : ByteArray)[d.val]'d.isLt) = sg d.val := by decide
  exact this ⟨d, h⟩
theorem cells_push {C : Array Value} {k : Nat} {ds : List UInt8} {c : UInt8} {v : Value} (hv : v = .int .u8 c.toNat) (hk : 1 ≤ k) (hC : k ≤ C.size) (h : ∀ j (hj : j < ds.length), C[k + j]? = some (.int .u8 ds[j].toNat)) :
    ∀ j (hj : j < (c :: ds).length), (C.setIfInBounds (k - 1) v)[k - 1 + j]? = some (.int .u8 (c :: ds)[j].toNat) := by
  intro j hj
  subst hv
  cases j with
  | zero => rw [Nat.add_zero, Array.getElem?_setIfInBounds_self_of_lt (by omega)]; rfl
  | succ j =>
    rw [Array.getElem?_setIfInBounds_ne (by omega), show k - 1 + (j + 1) = k + j from by omega, h j (by simpa using hj)]
    rfl
theorem dig_pow {m m' b n : Nat} (hm : m' = m / b) (hb : 10 ≤ b) (h : m * 10 ^ n ≤ 9223372036854775808) : m' * 10 ^ (n + 1) ≤ 9223372036854775808 := by
  rw [hm]
  have h1 : m / b * 10 ≤ m := Nat.le_trans (Nat.mul_le_mul_left _ hb) (Nat.div_mul_le_self m b)
  calc m / b * 10 ^ (n + 1) = (m / b * 10) * 10 ^ n := by rw [Nat.pow_succ, Nat.mul_comm (10 ^ n) 10, Nat.mul_assoc]
    _ ≤ m * 10 ^ n := Nat.mul_le_mul_right _ h1
    _ ≤ _ := h
theorem dig_room {m n : Nat} (hm : m ≠ 0) (h : m * 10 ^ n ≤ 9223372036854775808) : n ≤ 18 := by
  apply Decidable.byContradiction
  intro hn
  have h1 : 10 ^ 19 ≤ 10 ^ n := Nat.pow_le_pow_right (by omega) (by omega)
  have h2 : 1 * 10 ^ n ≤ m * 10 ^ n := Nat.mul_le_mul_right _ (by omega)
  have : (10 : Nat) ^ 19 = 10000000000000000000 := by rfl
  omega
theorem digL_step {b : Nat} (hb : 2 ≤ b) (n : Nat) (ds : List UInt8) : digL b n ++ ds = (if n / b ≠ 0 then digL b (n / b) ++ (sg (n % b) :: ds) else sg (n % b) :: ds) := by
  rw [digL]
  by_cases h : n < b
  · rw [dif_pos (.inr h), if_neg (by simp [Nat.div_eq_of_lt h]), Nat.mod_eq_of_lt h]
    rfl
  · have : 0 < n / b := Nat.div_pos (by omega) (by omega)
    rw [dif_neg (by omega), if_pos (by omega), List.append_assoc]
    rfl
theorem fig_rel {b k : Nat} {m m' : Int} {ds R : List UInt8} (hb : 2 ≤ b) (hk : k ≤ 64) (hk1 : 1 ≤ k) (hm : m'.natAbs = m.natAbs / b) (h : digL b m.natAbs ++ ds = R) : (if k - 1 = 64 ∨ m' ≠ 0 then digL b m'.natAbs ++ (sg (m.natAbs % b) :: ds) = R else sg (m.natAbs % b) :: ds = R) := by
  rw [digL_step hb] at h
  by_cases hz : m.natAbs / b ≠ 0
  · rw [if_pos hz] at h
    have : m' ≠ 0 := by omega
    rw [if_pos (.inr this), hm]
    exact h
  · rw [if_neg hz] at h
    have : ¬ (k - 1 = 64 ∨ m' ≠ 0) := by omega
    rw [if_neg this]
    exact h
theorem tdiv_range {m : Int} {b : Nat} (h0 : -9223372036854775808 ≤ m) (h1 : m ≤ 9223372036854775807) (hb : 2 ≤ b) : -9223372036854775808 ≤ Int.tdiv m b ∧ Int.tdiv m b ≤ 9223372036854775807 := by
  have e := natAbs_tdiv m b
  have : m.natAbs / b ≤ m.natAbs / 2 := Nat.div_le_div_left hb (by omega)
  omega
set_option maxHeartbeats 1000000 in
set_option maxRecDepth 100000 in
theorem figures_calls (n base : Int) (w : World) (hb : base = 10 ∨ base = 16) (h0 : -9223372036854775808 ≤ n) (h1 : n ≤ 9223372036854775807) :
    Calls Tryz.prog 150 #[.int .i64 n, .int .i64 base] w fun e w' => e = .returned (.string ⟨(digL base.toNat n.natAbs).toArray⟩) ∧ Below w.heap.size w w' := by
  obtain ⟨R, hR⟩ : ∃ R, digL base.toNat n.natAbs = R := ⟨_, rfl⟩
  rw [hR]
  have hR' := Lib.hid hR
  clear hR
  go_enter Tryz.func150, Tryz.ntmps150
  go_wp2
  go_loopw [0, 6] (fun vn va w' => ∃ (m : Int) (at_ : Nat) (C : Array Value) (ds : List UInt8), vn = .int .i64 m ∧ va = .int .i64 at_ ∧ w' = w.alloc (.cells C 173) ∧ C.size = 64 ∧ at_ + ds.length = 64 ∧ Hid (m.natAbs * 10 ^ ds.length ≤ 9223372036854775808) ∧ -9223372036854775808 ≤ m ∧ m ≤ 9223372036854775807 ∧ Hid (∀ j (h : j < ds.length), C[at_ + j]? = some (.int .u8 ds[j].toNat)) ∧ Hid (if at_ = 64 ∨ m ≠ 0 then digL base.toNat m.natAbs ++ ds = R else ds = R)) (fun vn va _ => (intOf va).toNat)
  case atStart => exact ⟨n, 64, _, [], rfl, rfl, rfl, by rfl, rfl, by unfold Hid; simp; omega, h0, h1, fun j h => absurd h (by simp), by unfold Hid; rw [if_pos (.inl rfl), List.append_nil]; exact hR'.out⟩
  case round =>
    clear hR' h0 h1 n
    obtain ⟨m, k, C, ds, rfl, rfl, rfl, hC, hk, hm, h0, h1, hds, hR⟩ := hrel
    by_cases hgo : k = 64 ∨ m ≠ 0
    · have hR2 := hR.out
      rw [if_pos hgo] at hR2
      have hR3 := Lib.hid hR2
      clear hR hR2
      have hk1 : 1 ≤ k := by
        rcases hgo with h | h
        · omega
        · have := dig_room (by omega : m.natAbs ≠ 0) hm.out
          omega
      have hk2 : k ≤ 64 := by omega
      have hds' := Lib.hid hds.out
      clear hds
      have hk' := Lib.hid hk
      clear hk
      have hcase : ((k : Int) == 64) = true ∨ (((k : Int) == 64) = false ∧ (m != 0) = true) := by
        by_cases hg : k = 64
        · exact .inl (by simp [hg])
        · exact .inr ⟨by simp; omega, by rcases hgo with h | h; exact absurd h hg; simpa using h⟩
      clear hgo
      rcases hb with rfl | rfl
      · obtain ⟨u, hu⟩ : ∃ u, C[k - 1]? = some u := ⟨C[k - 1]'(by omega), by simp⟩
        have hq : max (Int.tmod m 10) (-Int.tmod m 10) = ((m.natAbs % 10 : Nat) : Int) := max_tmod m 10
        have hr := Lib.hid (tdiv_range (b := 10) h0 h1 (by omega))
        rcases hcase with hg1 | ⟨hg1, hg2⟩
        all_goals
          go_wp2
          go_roundw
          case rel =>
            exact ⟨_, k - 1, _, sg (m.natAbs % 10) :: ds, rfl, by rw [show ((k - 1 : Nat) : Int) = (k : Int) - 1 from by omega], rfl, by simp [hC], by have := hk'.out; simp; omega, dig_pow (natAbs_tdiv m 10) (by omega) hm.out, hr.out.1, hr.out.2, cells_push (by rw [sg_at _ (by omega)]) hk1 (by omega) hds'.out, fig_rel (b := 10) (by omega) hk2 hk1 (natAbs_tdiv m 10) hR3.out⟩
          case measure => simp [intOf]; omega
      · obtain ⟨u, hu⟩ : ∃ u, C[k - 1]? = some u := ⟨C[k - 1]'(by omega), by simp⟩
        have hq : max (Int.tmod m 16) (-Int.tmod m 16) = ((m.natAbs % 16 : Nat) : Int) := max_tmod m 16
        have hr := Lib.hid (tdiv_range (b := 16) h0 h1 (by omega))
        rcases hcase with hg1 | ⟨hg1, hg2⟩
        all_goals
          go_wp2
          go_roundw
          case rel =>
            exact ⟨_, k - 1, _, sg (m.natAbs % 16) :: ds, rfl, by rw [show ((k - 1 : Nat) : Int) = (k : Int) - 1 from by omega], rfl, by simp [hC], by have := hk'.out; simp; omega, dig_pow (natAbs_tdiv m 16) (by omega) hm.out, hr.out.1, hr.out.2, cells_push (by rw [sg_at _ (by omega)]) hk1 (by omega) hds'.out, fig_rel (b := 16) (by omega) hk2 hk1 (natAbs_tdiv m 16) hR3.out⟩
          case measure => simp [intOf]; omega
    · have hR2 := hR.out
      rw [if_neg hgo] at hR2
      clear hR
      have hk2 : k ≤ 64 := by omega
      have hk3 : ¬ k = 64 := fun h => hgo (.inl h)
      obtain rfl : m = 0 := Decidable.byContradiction fun h => hgo (.inr h)
      have hg1 : ((k : Int) == 64) = false := by simp; omega
      clear hgo hm h0 h1
      have hcell : ∀ j (hj : j < ds.length), (w.alloc (.cells C 173)).cell? ((⟨w.heap.size, k, none⟩ : Addr).add j) = some (.int .u8 (ds[j].toNat : Int)) := by
        intro j hj
        rw [addr_add, World.cell?_alloc_mark]
        exact hds.out j hj
      have hcv := run_convert_bytes_back (P := Tryz.prog) (w.alloc (.cells C 173)) 88 9 5 ⟨w.heap.size, k, none⟩ (64 - k) ds Tryz.underlying88 Tryz.underlying5 Tryz.underlying9 hcell
      rw [show ds.length = 64 - k from by omega] at hcv
      have hR3 := Lib.hid hR2
      clear hR2
      have hds' := Lib.hid hds
      have hk' := Lib.hid hk
      clear hds hk hcell
      have hsl : ∀ W, (Instr.sliceAt 173 (.pointer (some ⟨w.heap.size, 0, none⟩)) (some (.int .i64 k)) none none).run Tryz.prog W = .ok (.slice (some ⟨w.heap.size, k, none⟩) (64 - k) (64 - k)) W := by
        intro W
        rw [run_sliceAt_array_l W 173 _ Tryz.underlying173 .i64 k (by omega) (show (k : Int) ≤ 64 by omega)]
        go_simp
        intro h
        omega
      go_wp2
      go_ret
      exact ⟨by rw [← hR3.out]; rfl, (Below.refl _ _).alloc (Nat.le_refl _) _⟩
end Go.Proofs.YtiiploicaimnpaaGreatDoor.Hand
namespace Go.Proofs.YtiiploicaimnpaaGreatDoor.Hand
open Go.RowKit Go.Proofs.YtiiploicaimnpaaGreatDoorW.PrintWords
set_option linter.unusedVariables false
set_option linter.unusedSimpArgs false
def digits_number.f (a0 : ByteArray) (a1 a2 : Int) : Option (Int × Int) := if a0.size ≤ 9223372036854775807 ∧ (a1 = 10 ∨ a1 = 16) ∧ 0 ≤ a2 ∧ a2 ≤ 4611686018427387904 then some (numS a1 a2 a0) else none
theorem digits_number.calls (a0 : ByteArray) (a1 a2 : Int) (r1 r2 : Int) (w : World) (h : digits_number.f a0 a1 a2 = some (r1, r2)) :
    Calls Tryz.prog 144 #[.string a0, .int .i64 a1, .int .i64 a2] w fun e w' => e = .returned (.tuple #[.int .i64 r1, .int .i64 r2]) ∧ Below w.heap.size w w' := by
  unfold digits_number.f at h
  split at h
  · rename_i hc
    refine (number_calls a0 a1 a2 w (by unfold maxLen; omega) hc.2.1 hc.2.2.1 hc.2.2.2).mono ?_
    rintro e w' ⟨rfl, hb⟩
    have h2 := Option.some.inj h
    unfold numS at h2
    rw [h2]
    exact ⟨rfl, hb⟩
  · exact absurd h (by simp)
end Go.Proofs.YtiiploicaimnpaaGreatDoor.Hand
namespace Go.Proofs.YtiiploicaimnpaaGreatDoor.Hand
open Go.RowKit Go.Proofs.YtiiploicaimnpaaGreatDoorW.PrintWords
set_option linter.unusedVariables false
set_option linter.unusedSimpArgs false
def ba (l : List UInt8) : ByteArray := ⟨l.toArray⟩
theorem ba_size (l : List UInt8) : (ba l).size = l.length := by show l.toArray.size = _; simp
theorem ba_append (x y : List UInt8) : ba x ++ ba y = ba (x ++ y) := by unfold ba; rw [ByteArray.mk_append_mk]
def textL (n : Int) : List UInt8 := if n < 0 then 45 :: digL 10 n.natAbs else digL 10 n.natAbs
theorem digL_le : ∀ (k b n : Nat), 10 ≤ b → n < 10 ^ k → 1 ≤ k → (digL b n).length ≤ k
  | 0, _, _, _, _, h => absurd h (by omega)
  | k + 1, b, n, hb, hn, _ => by
    rw [digL]
    split
    · simp
    · rw [List.length_append]
      have h1 : n / b < 10 ^ k := by
        have : n / b ≤ n / 10 := Nat.div_le_div_left hb (by omega)
        rw [Nat.pow_succ] at hn
        omega
      cases k with
      | zero => simp at h1; omega
      | succ k =>
        have := digL_le (k + 1) b (n / b) hb h1 (by omega)
        simp
        omega
theorem digL_len {b : Nat} {n : Int} (hb : 10 ≤ b) (h0 : -9223372036854775808 ≤ n) (h1 : n ≤ 9223372036854775807) : (digL b n.natAbs).length ≤ 20 := digL_le 20 b _ hb (by omega) (by omega)
set_option maxHeartbeats 400000 in
theorem Text_calls (n : Int) (w : World) (h0 : -9223372036854775808 ≤ n) (h1 : n ≤ 9223372036854775807) :
    Calls Tryz.prog 127 #[.int .i64 n] w fun e w' => e = .returned (.string (ba (textL n))) ∧ Below w.heap.size w w' := by
  have hl := digL_len (b := 10) (by omega) h0 h1
  by_cases hn : n < 0
  · have e : ba (textL n) = ⟨#[45]⟩ ++ ba (digL 10 n.natAbs) := by unfold textL; rw [if_pos hn]; rfl
    rw [e]
    clear e
    obtain ⟨t, ht⟩ : ∃ t, ba (digL 10 n.natAbs) = t := ⟨_, rfl⟩
    have hts : t.size ≤ 20 := by rw [← ht, ba_size]; exact hl
    have H := Lib.hid ht
    rw [ht]
    clear ht hl
    go_enter Tryz.func127, Tryz.ntmps127
    go_wp2_with (go_at_call 150; refine (figures_calls _ _ _ (.inl rfl) h0 h1).mono ?_; rw [show (⟨(digL (Int.toNat 10) n.natAbs).toArray⟩ : ByteArray) = t from H.out]; rintro e w' ⟨rfl, hb⟩)
    go_ret
    exact ⟨rfl, hb⟩
  · have e : ba (textL n) = ba (digL 10 n.natAbs) := by unfold textL; rw [if_neg hn]
    rw [e]
    clear e
    obtain ⟨t, ht⟩ : ∃ t, ba (digL 10 n.natAbs) = t := ⟨_, rfl⟩
    have H := Lib.hid ht
    rw [ht]
    clear ht hl
    go_enter Tryz.func127, Tryz.ntmps127
    go_wp2_with (go_at_call 150; refine (figures_calls _ _ _ (.inl rfl) h0 h1).mono ?_; rw [show (⟨(digL (Int.toNat 10) n.natAbs).toArray⟩ : ByteArray) = t from H.out]; rintro e w' ⟨rfl, hb⟩)
    go_ret
    exact ⟨rfl, hb⟩
theorem textL_len {n : Int} (h0 : -9223372036854775808 ≤ n) (h1 : n ≤ 9223372036854775807) : (textL n).length ≤ 21 := by
  have := digL_len (b := 10) (by omega) h0 h1
  unfold textL
  split <;> simp <;> omega
end Go.Proofs.YtiiploicaimnpaaGreatDoor.Hand
namespace Go.Proofs.YtiiploicaimnpaaGreatDoor.Hand
open Go.RowKit Go.Proofs.YtiiploicaimnpaaGreatDoorW.PrintWords Go.Proofs.YtiiploicaimnpaaGreatDoorW.PrintLast Go.Proofs.YtiiploicaimnpaaGreatDoorW.PrintMore
attribute [local go_sem] max2_int min2_int max_two min_two max_three min_three max_four min_four
set_option linter.unusedVariables false
set_option linter.unusedSimpArgs false
def stringslite_HasPrefix.f (a0 : ByteArray) (a1 : ByteArray) : Option (Bool) := if (a0.size : Int) ≥ (a1.size : Int) then (if 0 ≤ (a1.size : Int) then (if (a1.size : Int) ≤ (a0.size : Int) then (some ((a0.extract 0 ((a1.size : Int) : Int).toNat).toList == a1.toList)) else (none)) else (none)) else (some false)
set_option maxHeartbeats 8000000 in
set_option maxRecDepth 100000 in
theorem stringslite_HasPrefix.calls (a0 : ByteArray) (a1 : ByteArray) (r : Bool) (w : World) (h : stringslite_HasPrefix.f a0 a1 = some r) :
    Calls Tryz.prog 162 #[.string a0, .string a1] w fun e w' => e = .returned (.bool r) ∧ Drawn0 w w' := by
  have H : (if (a0.size : Int) ≥ (a1.size : Int) then (if 0 ≤ (a1.size : Int) then (if (a1.size : Int) ≤ (a0.size : Int) then (some ((a0.extract 0 ((a1.size : Int) : Int).toNat).toList == a1.toList)) else (none)) else (none)) else (some false)) = some r := h
  clear h
  by_cases c3 : (a0.size : Int) ≥ (a1.size : Int)
  · rw [if_pos c3] at H
    have c3b0 : decide ((a1.size : Int) ≤ (a0.size : Int)) = true := decide_eq_true c3
    have c3b1 : decide (a1.size ≤ a0.size) = true := decide_eq_true (Int.ofNat_le.mp c3)
    clear c3
    by_cases c4 : 0 ≤ (a1.size : Int)
    · rw [if_pos c4] at H
      have c4b0 := eq_true c4
      have c4b1 : decide (0 ≤ (a1.size : Int)) = true := decide_eq_true c4
      clear c4
      by_cases c5 : (a1.size : Int) ≤ (a0.size : Int)
      · rw [if_pos c5] at H
        have c5b0 := eq_true c5
        have c5b1 : decide ((a1.size : Int) ≤ (a0.size : Int)) = true := decide_eq_true c5
        clear c5
        obtain rfl := Option.some.inj H
        go_enter Tryz.func162, Tryz.ntmps162
        go_wp2
        go_ret
        exact ⟨by first | rfl | (simp; done) | (simp [*]; done), by repeat (first | exact Drawn0.refl _ | apply Drawn0.step)⟩
      · rw [if_neg c5] at H
        exact absurd H (by simp)
    · rw [if_neg c4] at H
      exact absurd H (by simp)
  · rw [if_neg c3] at H
    have c3b0 : decide ((a1.size : Int) ≤ (a0.size : Int)) = false := decide_eq_false c3
    have c3b1 : decide (a1.size ≤ a0.size) = false := decide_eq_false (fun h => c3 (Int.ofNat_le.mpr h))
    clear c3
    obtain rfl := Option.some.inj H
    go_enter Tryz.func162, Tryz.ntmps162
    go_wp2
    go_ret
    exact ⟨by first | rfl | (simp; done) | (simp [*]; done), by repeat (first | exact Drawn0.refl _ | apply Drawn0.step)⟩
def strings_HasPrefix.f (a0 : ByteArray) (a1 : ByteArray) : Option (Bool) := (stringslite_HasPrefix.f a0 a1).bind fun t103 => (some t103)
set_option maxHeartbeats 8000000 in
set_option maxRecDepth 100000 in
theorem strings_HasPrefix.calls (a0 : ByteArray) (a1 : ByteArray) (r : Bool) (w : World) (h : strings_HasPrefix.f a0 a1 = some r) :
    Calls Tryz.prog 142 #[.string a0, .string a1] w fun e w' => e = .returned (.bool r) ∧ Drawn0 w w' := by
  have H : ((stringslite_HasPrefix.f a0 a1).bind fun t103 => (some t103)) = some r := h
  clear h
  replace H := Option.bind_eq_some_iff.mp H
  obtain ⟨t103, A30, H⟩ := H
  replace H : (some t103) = some r := H
  have A3 := Aside0.mk A30
  clear A30
  obtain rfl := Option.some.inj H
  go_enter Tryz.func142, Tryz.ntmps142
  go_wp2_with (first | ((with_reducible refine gate_callee (f := 162) rfl ?_); refine goesL_ (some 7) rfl rfl Tryz.func162 (by kernel_rfl) rfl #[.string a0, .string a1] rfl (by (try simp only [List.map_toArray, List.map_cons, List.map_nil]); first | done | rfl | (simp only [List.length_drop, List.length_take]; rfl)) ?_; (with_reducible refine (stringslite_HasPrefix.calls a0 a1 t103 _ A3.out).mono ?_); rintro e w' ⟨rfl, ⟨nd, rfl⟩⟩; refine ⟨_, rfl, ?_⟩))
  go_ret
  exact ⟨by first | rfl | (simp; done) | (simp [*]; done), by repeat (first | exact Drawn0.refl _ | apply Drawn0.step)⟩
def start_digit.f (a0 : Int) : Option (Bool) := if a0 ≥ 48 then (some (decide (a0 ≤ 57))) else (some false)
set_option maxHeartbeats 8000000 in
set_option maxRecDepth 100000 in
theorem start_digit.calls (a0 : Int) (r : Bool) (w : World) (h : start_digit.f a0 = some r) :
    Calls Tryz.prog 143 #[.int .u8 a0] w fun e w' => e = .returned (.bool r) ∧ Drawn0 w w' := by
  have H : (if a0 ≥ 48 then (some (decide (a0 ≤ 57))) else (some false)) = some r := h
  clear h
  by_cases c2 : a0 ≥ 48
  · rw [if_pos c2] at H
    have c2b0 : decide (48 ≤ a0) = true := decide_eq_true c2
    clear c2
    obtain rfl := Option.some.inj H
    go_enter Tryz.func143, Tryz.ntmps143
    go_wp2
    go_ret
    exact ⟨by first | rfl | (simp; done) | (simp [*]; done), by repeat (first | exact Drawn0.refl _ | apply Drawn0.step)⟩
  · rw [if_neg c2] at H
    have c2b0 : decide (48 ≤ a0) = false := decide_eq_false c2
    clear c2
    obtain rfl := Option.some.inj H
    go_enter Tryz.func143, Tryz.ntmps143
    go_wp2
    go_ret
    exact ⟨by first | rfl | (simp; done) | (simp [*]; done), by repeat (first | exact Drawn0.refl _ | apply Drawn0.step)⟩
def start_formed.f (a0 : ByteArray) : Option (Bool) := if (a0.size : Int) = 8 then ((strings_HasPrefix.f a0 (⟨#[72, 84, 84, 80, 47]⟩ : ByteArray)).bind fun t112 => (if t112 = true then (if 5 < (a0.size : Int) then ((start_digit.f (bt a0 5)).bind fun t113 => (if t113 = true then (if 6 < (a0.size : Int) then (if (bt a0 6) = 46 then (if 7 < (a0.size : Int) then ((start_digit.f (bt a0 7)).bind fun t114 => (some t114)) else (none)) else (some false)) else (none)) else (some false))) else (none)) else (some false))) else (some false)
set_option maxHeartbeats 8000000 in
set_option maxRecDepth 100000 in
theorem start_formed.calls (a0 : ByteArray) (r : Bool) (w : World) (h : start_formed.f a0 = some r) :
    Calls Tryz.prog 117 #[.string a0] w fun e w' => e = .returned (.bool r) ∧ Drawn0 w w' := by
  have H : (if (a0.size : Int) = 8 then ((strings_HasPrefix.f a0 (⟨#[72, 84, 84, 80, 47]⟩ : ByteArray)).bind fun t112 => (if t112 = true then (if 5 < (a0.size : Int) then ((start_digit.f (bt a0 5)).bind fun t113 => (if t113 = true then (if 6 < (a0.size : Int) then (if (bt a0 6) = 46 then (if 7 < (a0.size : Int) then ((start_digit.f (bt a0 7)).bind fun t114 => (some t114)) else (none)) else (some false)) else (none)) else (some false))) else (none)) else (some false))) else (some false)) = some r := h
  clear h
  by_cases c2 : (a0.size : Int) = 8
  · rw [if_pos c2] at H
    have c2b0 : ((a0.size : Int) == 8) = true := beq_iff_eq.mpr c2
    have c2b1 : ((a0.size : Int) != 8) = false := bne_eq_false_iff_eq.mpr c2
    clear c2
    replace H := Option.bind_eq_some_iff.mp H
    obtain ⟨t112, A30, H⟩ := H
    replace H : (if t112 = true then (if 5 < (a0.size : Int) then ((start_digit.f (bt a0 5)).bind fun t113 => (if t113 = true then (if 6 < (a0.size : Int) then (if (bt a0 6) = 46 then (if 7 < (a0.size : Int) then ((start_digit.f (bt a0 7)).bind fun t114 => (some t114)) else (none)) else (some false)) else (none)) else (some false))) else (none)) else (some false)) = some r := H
    have A3 := Aside0.mk A30
    clear A30
    by_cases c4 : t112 = true
    · subst c4
      have H1 : (if 5 < (a0.size : Int) then ((start_digit.f (bt a0 5)).bind fun t113 => (if t113 = true then (if 6 < (a0.size : Int) then (if (bt a0 6) = 46 then (if 7 < (a0.size : Int) then ((start_digit.f (bt a0 7)).bind fun t114 => (some t114)) else (none)) else (some false)) else (none)) else (some false))) else (none)) = some r := by rw [if_pos rfl] at H; exact H
      clear H
      have H := H1
      clear H1
      by_cases c5 : 5 < (a0.size : Int)
      · rw [if_pos c5] at H
        have c5b0 : decide (5 < (a0.size : Int)) = true := decide_eq_true c5
        have c5b1 : decide (5 < a0.size) = true := decide_eq_true (by omega)
        clear c5
        replace H := Option.bind_eq_some_iff.mp H
        obtain ⟨t113, A70, H⟩ := H
        replace H : (if t113 = true then (if 6 < (a0.size : Int) then (if (bt a0 6) = 46 then (if 7 < (a0.size : Int) then ((start_digit.f (bt a0 7)).bind fun t114 => (some t114)) else (none)) else (some false)) else (none)) else (some false)) = some r := H
        have A7 := Aside0.mk A70
        clear A70
        by_cases c8 : t113 = true
        · subst c8
          have H1 : (if 6 < (a0.size : Int) then (if (bt a0 6) = 46 then (if 7 < (a0.size : Int) then ((start_digit.f (bt a0 7)).bind fun t114 => (some t114)) else (none)) else (some false)) else (none)) = some r := by rw [if_pos rfl] at H; exact H
          clear H
          have H := H1
          clear H1
          by_cases c9 : 6 < (a0.size : Int)
          · rw [if_pos c9] at H
            have c9b0 : decide (6 < (a0.size : Int)) = true := decide_eq_true c9
            have c9b1 : decide (6 < a0.size) = true := decide_eq_true (by omega)
            clear c9
            by_cases c11 : (bt a0 6) = 46
            · rw [if_pos c11] at H
              have c11b0 : ((bt a0 6) == 46) = true := beq_iff_eq.mpr c11
              have c11b1 : ((bt a0 6) != 46) = false := bne_eq_false_iff_eq.mpr c11
              clear c11
              by_cases c12 : 7 < (a0.size : Int)
              · rw [if_pos c12] at H
                have c12b0 : decide (7 < (a0.size : Int)) = true := decide_eq_true c12
                have c12b1 : decide (7 < a0.size) = true := decide_eq_true (by omega)
                clear c12
                replace H := Option.bind_eq_some_iff.mp H
                obtain ⟨t114, A140, H⟩ := H
                replace H : (some t114) = some r := H
                have A14 := Aside0.mk A140
                clear A140
                obtain rfl := Option.some.inj H
                go_enter Tryz.func117, Tryz.ntmps117
                go_wp2_with (first | (go_at_call 142; (with_reducible refine (strings_HasPrefix.calls a0 (⟨#[72, 84, 84, 80, 47]⟩ : ByteArray) true _ A3.out).mono ?_); rintro e w' ⟨rfl, ⟨nd, rfl⟩⟩; have p6 : 0 ≤ (5 : Int) := (by omega); have q6 : 5 < a0.size := (by have : (5 : Int) < (a0.size : Int) := of_decide_eq_true (by first | (with_reducible assumption) | assumption); omega); have hx6 : ∀ h : 5 < a0.size, ((a0[5]'h).toNat : Int) = bt a0 5 := bt_at a0 5; clear p6; have qi6 : (5 < (a0.size : Int)) = True := eq_true (of_decide_eq_true (by first | (with_reducible assumption) | assumption)); replace q6 := eq_true q6) | (go_at_call 143; (with_reducible refine (start_digit.calls (bt a0 5) true _ A7.out).mono ?_); rintro e w' ⟨rfl, ⟨nd, rfl⟩⟩; have p10 : 0 ≤ (6 : Int) := (by omega); have q10 : 6 < a0.size := (by have : (6 : Int) < (a0.size : Int) := of_decide_eq_true (by first | (with_reducible assumption) | assumption); omega); have hx10 : ∀ h : 6 < a0.size, ((a0[6]'h).toNat : Int) = bt a0 6 := bt_at a0 6; clear p10; have qi10 : (6 < (a0.size : Int)) = True := eq_true (of_decide_eq_true (by first | (with_reducible assumption) | assumption)); replace q10 := eq_true q10; have p13 : 0 ≤ (7 : Int) := (by omega); have q13 : 7 < a0.size := (by have : (7 : Int) < (a0.size : Int) := of_decide_eq_true (by first | (with_reducible assumption) | assumption); omega); have hx13 : ∀ h : 7 < a0.size, ((a0[7]'h).toNat : Int) = bt a0 7 := bt_at a0 7; clear p13; have qi13 : (7 < (a0.size : Int)) = True := eq_true (of_decide_eq_true (by first | (with_reducible assumption) | assumption)); replace q13 := eq_true q13) | (go_at_call 143; (with_reducible refine (start_digit.calls (bt a0 7) t114 _ A14.out).mono ?_); rintro e w' ⟨rfl, ⟨nd, rfl⟩⟩))
                go_ret
                exact ⟨by first | rfl | (simp; done) | (simp [*]; done), by repeat (first | exact Drawn0.refl _ | apply Drawn0.step)⟩
              · rw [if_neg c12] at H
                exact absurd H (by simp)
            · rw [if_neg c11] at H
              have c11b0 : ((bt a0 6) == 46) = false := beq_eq_false_iff_ne.mpr c11
              have c11b1 : ((bt a0 6) != 46) = true := bne_iff_ne.mpr c11
              obtain rfl := Option.some.inj H
              go_enter Tryz.func117, Tryz.ntmps117
              go_wp2_with (first | (go_at_call 142; (with_reducible refine (strings_HasPrefix.calls a0 (⟨#[72, 84, 84, 80, 47]⟩ : ByteArray) true _ A3.out).mono ?_); rintro e w' ⟨rfl, ⟨nd, rfl⟩⟩; have p6 : 0 ≤ (5 : Int) := (by omega); have q6 : 5 < a0.size := (by have : (5 : Int) < (a0.size : Int) := of_decide_eq_true (by first | (with_reducible assumption) | assumption); omega); have hx6 : ∀ h : 5 < a0.size, ((a0[5]'h).toNat : Int) = bt a0 5 := bt_at a0 5; clear p6; have qi6 : (5 < (a0.size : Int)) = True := eq_true (of_decide_eq_true (by first | (with_reducible assumption) | assumption)); replace q6 := eq_true q6) | (go_at_call 143; (with_reducible refine (start_digit.calls (bt a0 5) true _ A7.out).mono ?_); rintro e w' ⟨rfl, ⟨nd, rfl⟩⟩; have p10 : 0 ≤ (6 : Int) := (by omega); have q10 : 6 < a0.size := (by have : (6 : Int) < (a0.size : Int) := of_decide_eq_true (by first | (with_reducible assumption) | assumption); omega); have hx10 : ∀ h : 6 < a0.size, ((a0[6]'h).toNat : Int) = bt a0 6 := bt_at a0 6; clear p10; have qi10 : (6 < (a0.size : Int)) = True := eq_true (of_decide_eq_true (by first | (with_reducible assumption) | assumption)); replace q10 := eq_true q10))
              go_ret
              exact ⟨by first | rfl | (simp; done) | (simp [*]; done), by repeat (first | exact Drawn0.refl _ | apply Drawn0.step)⟩
          · rw [if_neg c9] at H
            exact absurd H (by simp)
        · replace c8 := Bool.eq_false_iff.mpr c8
          subst c8
          have H1 : (some false) = some r := by rw [if_neg (show ¬ (false = true) by decide)] at H; exact H
          clear H
          have H := H1
          clear H1
          obtain rfl := Option.some.inj H
          go_enter Tryz.func117, Tryz.ntmps117
          go_wp2_with (first | (go_at_call 142; (with_reducible refine (strings_HasPrefix.calls a0 (⟨#[72, 84, 84, 80, 47]⟩ : ByteArray) true _ A3.out).mono ?_); rintro e w' ⟨rfl, ⟨nd, rfl⟩⟩; have p6 : 0 ≤ (5 : Int) := (by omega); have q6 : 5 < a0.size := (by have : (5 : Int) < (a0.size : Int) := of_decide_eq_true (by first | (with_reducible assumption) | assumption); omega); have hx6 : ∀ h : 5 < a0.size, ((a0[5]'h).toNat : Int) = bt a0 5 := bt_at a0 5; clear p6; have qi6 : (5 < (a0.size : Int)) = True := eq_true (of_decide_eq_true (by first | (with_reducible assumption) | assumption)); replace q6 := eq_true q6) | (go_at_call 143; (with_reducible refine (start_digit.calls (bt a0 5) false _ A7.out).mono ?_); rintro e w' ⟨rfl, ⟨nd, rfl⟩⟩))
          go_ret
          exact ⟨by first | rfl | (simp; done) | (simp [*]; done), by repeat (first | exact Drawn0.refl _ | apply Drawn0.step)⟩
      · rw [if_neg c5] at H
        exact absurd H (by simp)
    · replace c4 := Bool.eq_false_iff.mpr c4
      subst c4
      have H1 : (some false) = some r := by rw [if_neg (show ¬ (false = true) by decide)] at H; exact H
      clear H
      have H := H1
      clear H1
      obtain rfl := Option.some.inj H
      go_enter Tryz.func117, Tryz.ntmps117
      go_wp2_with (first | (go_at_call 142; (with_reducible refine (strings_HasPrefix.calls a0 (⟨#[72, 84, 84, 80, 47]⟩ : ByteArray) false _ A3.out).mono ?_); rintro e w' ⟨rfl, ⟨nd, rfl⟩⟩))
      go_ret
      exact ⟨by first | rfl | (simp; done) | (simp [*]; done), by repeat (first | exact Drawn0.refl _ | apply Drawn0.step)⟩
  · rw [if_neg c2] at H
    have c2b0 : ((a0.size : Int) == 8) = false := beq_eq_false_iff_ne.mpr c2
    have c2b1 : ((a0.size : Int) != 8) = true := bne_iff_ne.mpr c2
    obtain rfl := Option.some.inj H
    go_enter Tryz.func117, Tryz.ntmps117
    go_wp2
    go_ret
    exact ⟨by first | rfl | (simp; done) | (simp [*]; done), by repeat (first | exact Drawn0.refl _ | apply Drawn0.step)⟩
def start_Minor.f (a0 : ByteArray) : Option (Int × Int) := (start_formed.f a0).bind fun t115 => (if t115 = true then (if 5 < (a0.size : Int) then (if (bt a0 5) = 49 then (if 7 < (a0.size : Int) then (if (bt a0 7) = 48 then (some (0, 0)) else (some (1, 0))) else (none)) else (some (0, 9))) else (none)) else (some (0, 3)))
set_option maxHeartbeats 8000000 in
set_option maxRecDepth 100000 in
theorem start_Minor.calls (a0 : ByteArray) (r1 : Int) (r2 : Int) (w : World) (h : start_Minor.f a0 = some (r1, r2)) :
    Calls Tryz.prog 116 #[.string a0] w fun e w' => e = .returned (.tuple #[.int .i64 r1, .int .i64 r2]) ∧ Drawn0 w w' := by
  have H : ((start_formed.f a0).bind fun t115 => (if t115 = true then (if 5 < (a0.size : Int) then (if (bt a0 5) = 49 then (if 7 < (a0.size : Int) then (if (bt a0 7) = 48 then (some (0, 0)) else (some (1, 0))) else (none)) else (some (0, 9))) else (none)) else (some (0, 3)))) = some (r1, r2) := h
  clear h
  replace H := Option.bind_eq_some_iff.mp H
  obtain ⟨t115, A20, H⟩ := H
  replace H : (if t115 = true then (if 5 < (a0.size : Int) then (if (bt a0 5) = 49 then (if 7 < (a0.size : Int) then (if (bt a0 7) = 48 then (some (0, 0)) else (some (1, 0))) else (none)) else (some (0, 9))) else (none)) else (some (0, 3))) = some (r1, r2) := H
  have A2 := Aside0.mk A20
  clear A20
  by_cases c3 : t115 = true
  · subst c3
    have H1 : (if 5 < (a0.size : Int) then (if (bt a0 5) = 49 then (if 7 < (a0.size : Int) then (if (bt a0 7) = 48 then (some (0, 0)) else (some (1, 0))) else (none)) else (some (0, 9))) else (none)) = some (r1, r2) := by rw [if_pos rfl] at H; exact H
    clear H
    have H := H1
    clear H1
    by_cases c4 : 5 < (a0.size : Int)
    · rw [if_pos c4] at H
      have c4b0 : decide (5 < (a0.size : Int)) = true := decide_eq_true c4
      have c4b1 : decide (5 < a0.size) = true := decide_eq_true (by omega)
      clear c4
      by_cases c6 : (bt a0 5) = 49
      · rw [if_pos c6] at H
        have c6b0 : ((bt a0 5) == 49) = true := beq_iff_eq.mpr c6
        have c6b1 : ((bt a0 5) != 49) = false := bne_eq_false_iff_eq.mpr c6
        clear c6
        by_cases c7 : 7 < (a0.size : Int)
        · rw [if_pos c7] at H
          have c7b0 : decide (7 < (a0.size : Int)) = true := decide_eq_true c7
          have c7b1 : decide (7 < a0.size) = true := decide_eq_true (by omega)
          clear c7
          by_cases c9 : (bt a0 7) = 48
          · rw [if_pos c9] at H
            have c9b0 : ((bt a0 7) == 48) = true := beq_iff_eq.mpr c9
            have c9b1 : ((bt a0 7) != 48) = false := bne_eq_false_iff_eq.mpr c9
            clear c9
            simp only [Option.some.injEq, Prod.mk.injEq] at H
            obtain ⟨rfl, rfl⟩ := H
            go_enter Tryz.func116, Tryz.ntmps116
            go_wp2_with (first | ((with_reducible refine gate_callee (f := 117) rfl ?_); refine goesL_ (some 6) rfl rfl Tryz.func117 (by kernel_rfl) rfl #[.string a0] rfl (by (try simp only [List.map_toArray, List.map_cons, List.map_nil]); first | done | rfl | (simp only [List.length_drop, List.length_take]; rfl)) ?_; (with_reducible refine (start_formed.calls a0 true _ A2.out).mono ?_); rintro e w' ⟨rfl, ⟨nd, rfl⟩⟩; refine ⟨_, rfl, ?_⟩; have p5 : 0 ≤ (5 : Int) := (by omega); have q5 : 5 < a0.size := (by have : (5 : Int) < (a0.size : Int) := of_decide_eq_true (by first | (with_reducible assumption) | assumption); omega); have hx5 : ∀ h : 5 < a0.size, ((a0[5]'h).toNat : Int) = bt a0 5 := bt_at a0 5; clear p5; have qi5 : (5 < (a0.size : Int)) = True := eq_true (of_decide_eq_true (by first | (with_reducible assumption) | assumption)); replace q5 := eq_true q5; have p8 : 0 ≤ (7 : Int) := (by omega); have q8 : 7 < a0.size := (by have : (7 : Int) < (a0.size : Int) := of_decide_eq_true (by first | (with_reducible assumption) | assumption); omega); have hx8 : ∀ h : 7 < a0.size, ((a0[7]'h).toNat : Int) = bt a0 7 := bt_at a0 7; clear p8; have qi8 : (7 < (a0.size : Int)) = True := eq_true (of_decide_eq_true (by first | (with_reducible assumption) | assumption)); replace q8 := eq_true q8))
            go_ret2
            exact ⟨by first | rfl | (simp; done) | (simp [*]; done), by repeat (first | exact Drawn0.refl _ | apply Drawn0.step)⟩
          · rw [if_neg c9] at H
            have c9b0 : ((bt a0 7) == 48) = false := beq_eq_false_iff_ne.mpr c9
            have c9b1 : ((bt a0 7) != 48) = true := bne_iff_ne.mpr c9
            simp only [Option.some.injEq, Prod.mk.injEq] at H
            obtain ⟨rfl, rfl⟩ := H
            go_enter Tryz.func116, Tryz.ntmps116
            go_wp2_with (first | ((with_reducible refine gate_callee (f := 117) rfl ?_); refine goesL_ (some 6) rfl rfl Tryz.func117 (by kernel_rfl) rfl #[.string a0] rfl (by (try simp only [List.map_toArray, List.map_cons, List.map_nil]); first | done | rfl | (simp only [List.length_drop, List.length_take]; rfl)) ?_; (with_reducible refine (start_formed.calls a0 true _ A2.out).mono ?_); rintro e w' ⟨rfl, ⟨nd, rfl⟩⟩; refine ⟨_, rfl, ?_⟩; have p5 : 0 ≤ (5 : Int) := (by omega); have q5 : 5 < a0.size := (by have : (5 : Int) < (a0.size : Int) := of_decide_eq_true (by first | (with_reducible assumption) | assumption); omega); have hx5 : ∀ h : 5 < a0.size, ((a0[5]'h).toNat : Int) = bt a0 5 := bt_at a0 5; clear p5; have qi5 : (5 < (a0.size : Int)) = True := eq_true (of_decide_eq_true (by first | (with_reducible assumption) | assumption)); replace q5 := eq_true q5; have p8 : 0 ≤ (7 : Int) := (by omega); have q8 : 7 < a0.size := (by have : (7 : Int) < (a0.size : Int) := of_decide_eq_true (by first | (with_reducible assumption) | assumption); omega); have hx8 : ∀ h : 7 < a0.size, ((a0[7]'h).toNat : Int) = bt a0 7 := bt_at a0 7; clear p8; have qi8 : (7 < (a0.size : Int)) = True := eq_true (of_decide_eq_true (by first | (with_reducible assumption) | assumption)); replace q8 := eq_true q8))
            go_ret2
            exact ⟨by first | rfl | (simp; done) | (simp [*]; done), by repeat (first | exact Drawn0.refl _ | apply Drawn0.step)⟩
        · rw [if_neg c7] at H
          exact absurd H (by simp)
      · rw [if_neg c6] at H
        have c6b0 : ((bt a0 5) == 49) = false := beq_eq_false_iff_ne.mpr c6
        have c6b1 : ((bt a0 5) != 49) = true := bne_iff_ne.mpr c6
        simp only [Option.some.injEq, Prod.mk.injEq] at H
        obtain ⟨rfl, rfl⟩ := H
        go_enter Tryz.func116, Tryz.ntmps116
        go_wp2_with (first | ((with_reducible refine gate_callee (f := 117) rfl ?_); refine goesL_ (some 6) rfl rfl Tryz.func117 (by kernel_rfl) rfl #[.string a0] rfl (by (try simp only [List.map_toArray, List.map_cons, List.map_nil]); first | done | rfl | (simp only [List.length_drop, List.length_take]; rfl)) ?_; (with_reducible refine (start_formed.calls a0 true _ A2.out).mono ?_); rintro e w' ⟨rfl, ⟨nd, rfl⟩⟩; refine ⟨_, rfl, ?_⟩; have p5 : 0 ≤ (5 : Int) := (by omega); have q5 : 5 < a0.size := (by have : (5 : Int) < (a0.size : Int) := of_decide_eq_true (by first | (with_reducible assumption) | assumption); omega); have hx5 : ∀ h : 5 < a0.size, ((a0[5]'h).toNat : Int) = bt a0 5 := bt_at a0 5; clear p5; have qi5 : (5 < (a0.size : Int)) = True := eq_true (of_decide_eq_true (by first | (with_reducible assumption) | assumption)); replace q5 := eq_true q5))
        go_ret2
        exact ⟨by first | rfl | (simp; done) | (simp [*]; done), by repeat (first | exact Drawn0.refl _ | apply Drawn0.step)⟩
    · rw [if_neg c4] at H
      exact absurd H (by simp)
  · replace c3 := Bool.eq_false_iff.mpr c3
    subst c3
    have H1 : (some (0, 3)) = some (r1, r2) := by rw [if_neg (show ¬ (false = true) by decide)] at H; exact H
    clear H
    have H := H1
    clear H1
    simp only [Option.some.injEq, Prod.mk.injEq] at H
    obtain ⟨rfl, rfl⟩ := H
    go_enter Tryz.func116, Tryz.ntmps116
    go_wp2_with (first | ((with_reducible refine gate_callee (f := 117) rfl ?_); refine goesL_ (some 6) rfl rfl Tryz.func117 (by kernel_rfl) rfl #[.string a0] rfl (by (try simp only [List.map_toArray, List.map_cons, List.map_nil]); first | done | rfl | (simp only [List.length_drop, List.length_take]; rfl)) ?_; (with_reducible refine (start_formed.calls a0 false _ A2.out).mono ?_); rintro e w' ⟨rfl, ⟨nd, rfl⟩⟩; refine ⟨_, rfl, ?_⟩))
    go_ret2
    exact ⟨by first | rfl | (simp; done) | (simp [*]; done), by repeat (first | exact Drawn0.refl _ | apply Drawn0.step)⟩
end Go.Proofs.YtiiploicaimnpaaGreatDoor.Hand
namespace Go.Proofs.YtiiploicaimnpaaGreatDoor.Hand
open Go.RowKit Go.Proofs.YtiiploicaimnpaaGreatDoorW.PrintWords
set_option linter.unusedVariables false
set_option linter.unusedSimpArgs false
namespace Oct
theorem toList_eq (s : ByteArray) : s.toList = s.data.toList := Lib.toList_data s
theorem drop_cons (s : ByteArray) (k : Nat) (h : k < s.size) : s.data.toList.drop k = s[k] :: s.data.toList.drop (k + 1) := by
  rw [List.drop_eq_getElem_cons (by simpa using h)]; rfl
theorem Below.iter (w : World) (s : ByteArray) (p : Nat) : Below w.heap.size w (w.iter s p) := (Below.refl _ _).alloc (Nat.le_refl _) _
/-- What a function value from runes to bool gives, in every world. -/
def RunePred (P : Program) (g : Nat) (lb : Array Value) (p : Int → Bool) : Prop :=
  ∀ (W : World) (r : Int), 0 ≤ r → r ≤ 2147483647 → Calls P g (#[.int .i32 r] ++ lb) W fun e w' => e = .returned (.bool (p r)) ∧ Below W.heap.size W w'
theorem get_at (s : ByteArray) (k : Nat) (h : k < s.size) : s.get! k = s[k]'h := by
  simp [ByteArray.get!, getElem!_pos, h]
  rfl
/-- The octets of a rune that is none of ASCII are all above 127. -/
theorem decode_bytes (s : ByteArray) (pos : Nat) (h : pos < s.size) (ha : ¬ (s[pos]'h).toNat < 128) :
    pos + (Utf8.decode s pos).2 ≤ s.size ∧ ∀ j, pos ≤ j → j < pos + (Utf8.decode s pos).2 → ∀ hj : j < s.size, 128 ≤ (s[j]'hj).toNat := by
  have h0 : (s.get! (pos + 0)).toNat = (s[pos]'h).toNat := by rw [Nat.add_zero, get_at s pos h]
  have hc : ∀ k, (decide (pos + k < s.size) && (s.get! (pos + k)).toNat / 64 == 2) = true → ∃ hk : pos + k < s.size, 128 ≤ (s[pos + k]'hk).toNat := by
    intro k hk
    simp at hk
    refine ⟨hk.1, ?_⟩
    have := hk.2
    rw [get_at s _ hk.1] at this
    omega
  have one : pos + 1 ≤ s.size ∧ ∀ j, pos ≤ j → j < pos + 1 → ∀ hj : j < s.size, 128 ≤ (s[j]'hj).toNat := by
    refine ⟨h, fun j h1 h2 hj => ?_⟩
    obtain rfl : j = pos := by omega
    omega
  unfold Utf8.decode
  simp only []
  rw [if_neg (by rw [h0]; exact ha)]
  split
  · rename_i h2
    simp only [Bool.and_eq_true] at h2
    obtain ⟨k1, g1⟩ := hc 1 (by simpa using h2.2)
    split
    · refine ⟨by omega, fun j h3 h4 hj => ?_⟩
      have : j = pos ∨ j = pos + 1 := by simp at h4; omega
      rcases this with rfl | rfl <;> omega
    · exact one
  split
  · rename_i h2
    simp only [Bool.and_eq_true] at h2
    obtain ⟨k1, g1⟩ := hc 1 (by simpa using h2.1.2)
    obtain ⟨k2, g2⟩ := hc 2 (by simpa using h2.2)
    split
    · refine ⟨by omega, fun j h3 h4 hj => ?_⟩
      have : j = pos ∨ j = pos + 1 ∨ j = pos + 2 := by simp at h4; omega
      rcases this with rfl | rfl | rfl <;> omega
    · exact one
  split
  · rename_i h2
    simp only [Bool.and_eq_true] at h2
    obtain ⟨k1, g1⟩ := hc 1 (by simpa using h2.1.1.2)
    obtain ⟨k2, g2⟩ := hc 2 (by simpa using h2.1.2)
    obtain ⟨k3, g3⟩ := hc 3 (by simpa using h2.2)
    split
    · refine ⟨by omega, fun j h3 h4 hj => ?_⟩
      have : j = pos ∨ j = pos + 1 ∨ j = pos + 2 ∨ j = pos + 3 := by simp at h4; omega
      rcases this with rfl | rfl | rfl | rfl <;> omega
    · exact one
  · exact one
theorem all_skip {s : ByteArray} {q : UInt8 → Bool} (hq : ∀ c : UInt8, 128 ≤ c.toNat → q c = true) : ∀ (d i : Nat), i + d ≤ s.size → (∀ j, i ≤ j → j < i + d → ∀ hj : j < s.size, 128 ≤ (s[j]'hj).toNat) →
    (s.data.toList.drop i).all q = (s.data.toList.drop (i + d)).all q
  | 0, i, _, _ => rfl
  | d + 1, i, h, hb => by
    have hi : i < s.size := by omega
    rw [drop_cons s i hi, List.all_cons, hq _ (hb i (Nat.le_refl _) (by omega) hi), Bool.true_and, show i + (d + 1) = (i + 1) + d by omega]
    exact all_skip hq d (i + 1) (by omega) (fun j h1 h2 hj => hb j (by omega) (by omega) hj)
theorem width_pos (s : ByteArray) (pos : Nat) (h : pos < s.size) : 1 ≤ (Utf8.decode s pos).2 := by
  by_cases ha : (s[pos]'h).toNat < 128
  · rw [decode_ascii s pos h ha]
    exact Nat.le_refl _
  · exact (decode_high s pos h (by omega)).2
set_option maxHeartbeats 1000000 in
theorem all_calls (s : ByteArray) (g : Nat) (lb : Array Value) (p : Int → Bool) (b : Bool) (w : World) (hf : RunePred Tryz.prog g lb p) (hb : ∀ r, 128 ≤ r → p r = b) (eg : ∀ args w, (callFunc g args).run Tryz.prog w = .ok (.enter g args) w) :
    Calls Tryz.prog 130 #[.string s, .func (.func g) #[] lb] w fun e w' => e = .returned (.bool (s.data.toList.all fun c => p c.toNat)) ∧ Below w.heap.size w w' := by
  obtain ⟨R, hR⟩ : ∃ R, (s.data.toList.all fun c => p c.toNat) = R := ⟨_, rfl⟩
  rw [hR]
  have hR' := Lib.hid hR
  clear hR
  have hf' := Lib.hid hf
  have hb' := Lib.hid hb
  clear hf hb
  go_enter Tryz.func130, Tryz.ntmps130
  go_wp2
  go_loopg [] (s.size + 1) (fun gf wx => ∃ pos : Nat, Hid (wx.heap[w.heap.size]? = some (.stringIter s pos)) ∧ Below w.heap.size w wx ∧ Hid (((s.data.toList.drop pos).all fun c => p c.toNat) = R) ∧ s.size < pos + gf)
  case atStart => exact ⟨0, World.iter_heap w s 0, (Below.refl _ w).alloc (Nat.le_refl _) _, hR', by omega⟩
  case round =>
    clear hR'
    obtain ⟨pos, hit', hbw, hR, hfu⟩ := hrel
    have hit := hit'.out
    clear hit'
    by_cases hp : pos < s.size
    · obtain ⟨g', rfl⟩ : ∃ g', gk = g' + 1 := ⟨gk - 1, by omega⟩
      have hnx : ∀ ty, (Instr.next (.pointer (some ⟨w.heap.size, 0, none⟩)) true ty).run Tryz.prog wr = _ := fun ty => Lib.run_next_any_at wr w.heap.size s pos ty hit hp
      have hwd := width_pos s pos hp
      obtain ⟨r, hr⟩ : ∃ r, (Utf8.decode s pos).1 = r := ⟨_, rfl⟩
      obtain ⟨K, hK⟩ : ∃ K, (Utf8.decode s pos).2 = K := ⟨_, rfl⟩
      have hrle : r ≤ 2147483647 := by rw [← hr]; exact decode_le s pos
      have hstep : Hid (if p r = true then ((s.data.toList.drop (pos + K)).all fun c => p c.toNat) = R else R = false) := by
        unfold Hid
        have h1 := hR.out
        by_cases ha : (s[pos]'hp).toNat < 128
        · have hd := decode_ascii s pos hp ha
          rw [hd] at hr hK
          subst hr hK
          rw [drop_cons s pos hp, List.all_cons] at h1
          cases hpc : p (s[pos]'hp).toNat
          · rw [hpc] at h1
            rw [if_neg (by simp)]
            exact h1.symm
          · rw [hpc] at h1
            rw [if_pos rfl]
            exact h1
        · have hh := decode_high s pos hp (by omega)
          obtain ⟨g1, g2⟩ := decode_bytes s pos hp ha
          rw [hr] at hh
          rw [hK] at g1 g2
          rw [hb'.out r (by omega)]
          cases b
          · rw [if_neg (by simp), ← h1, drop_cons s pos hp, List.all_cons, hb'.out _ (by omega)]
            rfl
          · rw [if_pos rfl, ← h1]
            exact (all_skip (fun c hc => hb'.out _ (by omega)) K pos g1 g2).symm
      clear hR
      rw [hr, hK] at hnx
      rw [hK] at hwd
      clear hr hK
      have hit2 := Lib.iterAt_heap wr w.heap.size s pos (pos + K) hit
      have hbw2 := Lib.below_iterAt hbw (k := w.heap.size) (Nat.le_refl _) s (pos + K)
      obtain ⟨W, hWd⟩ : ∃ W, wr.iterAt w.heap.size s (pos + K) = W := ⟨_, rfl⟩
      rw [hWd] at hnx hit2 hbw2
      have hltW : w.heap.size < W.heap.size := (Array.getElem?_eq_some_iff.1 hit2).1
      have cS := hf'.out W r (by omega) (by omega)
      have hit3 := Lib.hid hit2
      clear hWd hit2
      cases hsp : p r
      · rw [hsp] at cS
        have hR2 : Hid (R = false) := by have := hstep.out; rw [hsp, if_neg (by simp)] at this; exact this
        clear hstep hsp
        go_wp2_with (go_at_fn g; refine cS.mono ?_; rintro e W' ⟨rfl, hbc⟩)
        go_ret
        exact ⟨by rw [hR2.out]; rfl, hbw2.trans (hbc.mono hbw2.size)⟩
      · rw [hsp] at cS
        have hR2 : Hid (((s.data.toList.drop (pos + K)).all fun c => p c.toNat) = R) := by have := hstep.out; rw [hsp, if_pos rfl] at this; exact this
        clear hstep hsp
        go_wp2_with (go_at_fn g; refine cS.mono ?_; rintro e W' ⟨rfl, hbc⟩)
        go_roundg g'
        case measure => omega
        case rel => exact ⟨pos + K, (hbc.block _ hltW).trans hit3.out, hbw2.trans (hbc.mono hbw2.size), hR2, by omega⟩
    · have hnx : ∀ ty, (Instr.next (.pointer (some ⟨w.heap.size, 0, none⟩)) true ty).run Tryz.prog wr = _ := fun ty => Lib.run_next_end_at wr w.heap.size s pos ty hit hp
      have hR2 : Hid (R = true) := by
        have := hR.out
        rw [List.drop_of_length_le (by simp; omega)] at this
        exact this.symm
      clear hR hit
      go_wp2
      go_ret
      exact ⟨by rw [hR2.out]; rfl, hbw⟩
end Oct
end Go.Proofs.YtiiploicaimnpaaGreatDoor.Hand
namespace Go.Proofs.YtiiploicaimnpaaGreatDoor.Hand
open Go.RowKit Go.Proofs.YtiiploicaimnpaaGreatDoorW.PrintWords
set_option linter.unusedVariables false
set_option linter.unusedSimpArgs false
namespace Oct
def marks : List UInt8 := [33, 35, 36, 37, 38, 39, 42, 43, 45, 46, 94, 95, 96, 124, 126]
def tcharI (r : Int) : Bool := decide ((97 ≤ r ∧ r ≤ 122) ∨ (65 ≤ r ∧ r ≤ 90) ∨ (48 ≤ r ∧ r ≤ 57)) || marks.any fun m => (m.toNat : Int) == r
def valueI (r : Int) : Bool := r == 9 || (decide (32 ≤ r) && r != 127)
def visibleI (r : Int) : Bool := decide (32 < r) && decide (r < 127)
theorem tcharI_hi (r : Int) (h : 128 ≤ r) : tcharI r = false := by
  unfold tcharI
  have : decide ((97 ≤ r ∧ r ≤ 122) ∨ (65 ≤ r ∧ r ≤ 90) ∨ (48 ≤ r ∧ r ≤ 57)) = false := by simp only [decide_eq_false_iff_not]; omega
  rw [this, Bool.false_or]
  simp [marks]
  omega
theorem valueI_hi (r : Int) (h : 128 ≤ r) : valueI r = true := by unfold valueI; simp; omega
theorem visibleI_hi (r : Int) (h : 128 ≤ r) : visibleI r = false := by unfold visibleI; simp; omega
theorem mark_low (i : Nat) (h : i < 15) : (((⟨#[33, 35, 36, 37, 38, 39, 42, 43, 45, 46, 94, 95, 96, 124, 126]⟩ : ByteArray)[i]'h).toNat) < 128 := by
  have : ∀ i : Fin 15, (((⟨#[33, 35, 36, 37, 38, 39, 42, 43, 45, 46, 94, 95, 96, 124, 126]⟩ : ByteArray)[i.val]'i.isLt).toNat) < 128 := by decide
  exact this ⟨i, h⟩
theorem mark_drop (i : Nat) (h : i < 15) (r : Int) : ((marks.drop i).any fun m => (m.toNat : Int) == r) = ((((⟨#[33, 35, 36, 37, 38, 39, 42, 43, 45, 46, 94, 95, 96, 124, 126]⟩ : ByteArray)[i]'h).toNat : Int) == r || ((marks.drop (i + 1)).any fun m => (m.toNat : Int) == r)) := by
  rw [List.drop_eq_getElem_cons (by exact h), List.any_cons]
  rfl
set_option maxHeartbeats 1000000 in
set_option maxRecDepth 100000 in
theorem tchar_calls (r : Int) (w : World) (h0 : 0 ≤ r) (h1 : r ≤ 2147483647) :
    Calls Tryz.prog 131 #[.int .i32 r] w fun e w' => e = .returned (.bool (tcharI r)) ∧ Below w.heap.size w w' := by
  by_cases hal : (97 ≤ r ∧ r ≤ 122) ∨ (65 ≤ r ∧ r ≤ 90) ∨ (48 ≤ r ∧ r ≤ 57)
  · have e : tcharI r = true := by unfold tcharI; rw [decide_eq_true hal]; rfl
    rw [e]
    clear e
    rcases hal with h | h | h
    all_goals
      obtain ⟨g1, g2⟩ := h
      go_enter Tryz.func131, Tryz.ntmps131
      go_wp2 <;> (go_ret; exact ⟨by first | rfl | (simp; done) | (simp; omega), Below.refl _ _⟩)
  · have e : tcharI r = marks.any fun m => (m.toNat : Int) == r := by unfold tcharI; rw [decide_eq_false hal]; rfl
    rw [e]
    clear e
    obtain ⟨R, hR⟩ : ∃ R, (marks.any fun m => (m.toNat : Int) == r) = R := ⟨_, rfl⟩
    rw [hR]
    have hR' := Lib.hid hR
    have n1 : ¬ (97 ≤ r ∧ r ≤ 122) := fun h => hal (.inl h)
    have n2 : ¬ (65 ≤ r ∧ r ≤ 90) := fun h => hal (.inr (.inl h))
    have n3 : ¬ (48 ≤ r ∧ r ≤ 57) := fun h => hal (.inr (.inr h))
    clear hR hal
    go_enter Tryz.func131, Tryz.ntmps131
    go_wp2
    all_goals
      go_loopw [] (fun w' => ∃ pos : Nat, pos ≤ 15 ∧ w' = w.iter ⟨#[33, 35, 36, 37, 38, 39, 42, 43, 45, 46, 94, 95, 96, 124, 126]⟩ pos ∧ Hid (((marks.drop pos).any fun m => (m.toNat : Int) == r) = R)) (fun w' => 15 - w'.iterPos w.heap.size)
      case atStart => exact ⟨0, by omega, rfl, hR'⟩
      case round =>
        clear hR'
        obtain ⟨pos, hpos, rfl, hR⟩ := hrel
        by_cases hp : pos < 15
        · have hnx : ∀ ty, (Instr.next (.pointer (some ⟨w.heap.size, 0, none⟩)) true ty).run Tryz.prog (w.iter ⟨#[33, 35, 36, 37, 38, 39, 42, 43, 45, 46, 94, 95, 96, 124, 126]⟩ pos) = _ := fun ty => run_next_ascii w ⟨#[33, 35, 36, 37, 38, 39, 42, 43, 45, 46, 94, 95, 96, 124, 126]⟩ pos ty hp (mark_low pos hp)
          have hR2 := hR.out
          rw [mark_drop pos hp] at hR2
          clear hR
          cases hx : ((((⟨#[33, 35, 36, 37, 38, 39, 42, 43, 45, 46, 94, 95, 96, 124, 126]⟩ : ByteArray)[pos]'hp).toNat : Int) == r)
          · rw [hx, Bool.false_or] at hR2
            have hR3 := Lib.hid hR2
            clear hR2
            go_wp2
            go_roundw
            case rel => exact ⟨pos + 1, by omega, rfl, hR3⟩
            case measure => simp; omega
          · rw [hx, Bool.true_or] at hR2
            have hR3 := Lib.hid hR2
            clear hR2
            go_wp2
            go_ret
            exact ⟨by rw [← hR3.out]; simp, Below.iter _ _ _⟩
        · obtain rfl : pos = 15 := by omega
          have hnx : ∀ ty, (Instr.next (.pointer (some ⟨w.heap.size, 0, none⟩)) true ty).run Tryz.prog (w.iter ⟨#[33, 35, 36, 37, 38, 39, 42, 43, 45, 46, 94, 95, 96, 124, 126]⟩ 15) = _ := fun ty => run_next_end w ⟨#[33, 35, 36, 37, 38, 39, 42, 43, 45, 46, 94, 95, 96, 124, 126]⟩ 15 ty hp
          have hR3 : Hid (R = false) := hR.out.symm
          clear hR
          go_wp2
          go_ret
          exact ⟨by rw [hR3.out]; simp, Below.iter _ _ _⟩
set_option maxHeartbeats 400000 in
theorem value1_calls (r : Int) (w : World) (h0 : 0 ≤ r) (h1 : r ≤ 2147483647) :
    Calls Tryz.prog 132 #[.int .i32 r] w fun e w' => e = .returned (.bool (valueI r)) ∧ Below w.heap.size w w' := by
  cases a : (r == 9)
  · by_cases b : 32 ≤ r
    · have e : valueI r = (r != 127) := by unfold valueI; rw [a, decide_eq_true b]; rfl
      rw [e]
      cases c : (r != 127)
      all_goals
        go_enter Tryz.func132, Tryz.ntmps132
        go_wp2
        go_ret
        exact ⟨rfl, Below.refl _ _⟩
    · have e : valueI r = false := by unfold valueI; rw [a, decide_eq_false b]; rfl
      rw [e]
      go_enter Tryz.func132, Tryz.ntmps132
      go_wp2
      go_ret
      exact ⟨rfl, Below.refl _ _⟩
  · have e : valueI r = true := by unfold valueI; rw [a]; rfl
    rw [e]
    go_enter Tryz.func132, Tryz.ntmps132
    go_wp2
    go_ret
    exact ⟨rfl, Below.refl _ _⟩
def tokenS (s : ByteArray) : Bool := !s.toList.isEmpty && s.data.toList.all fun c => tcharI c.toNat
def valueS (s : ByteArray) : Bool := s.data.toList.all fun c => valueI c.toNat
set_option maxHeartbeats 400000 in
theorem Token_calls (s : ByteArray) (w : World) :
    Calls Tryz.prog 99 #[.string s] w fun e w' => e = .returned (.bool (tokenS s)) ∧ Below w.heap.size w w' := by
  have c := all_calls s 131 #[] tcharI false w (fun W r h0 h1 => tchar_calls r W h0 h1) tcharI_hi (enters_of Tryz.func131 (by kernel_rfl) rfl)
  unfold tokenS
  by_cases he : s.toList = []
  · have he' : s.toList.isEmpty = true := by rw [he]; rfl
    rw [he']
    clear c he
    go_enter Tryz.func99, Tryz.ntmps99
    go_wp2
    go_ret
    exact ⟨rfl, Below.refl _ _⟩
  · have he' : s.toList.isEmpty = false := by cases h : s.toList <;> simp_all
    rw [he']
    obtain ⟨R, hR⟩ : ∃ R, (s.data.toList.all fun c => tcharI c.toNat) = R := ⟨_, rfl⟩
    rw [hR] at c ⊢
    clear he hR
    go_enter Tryz.func99, Tryz.ntmps99
    go_wp2_with (go_at_call 130; refine c.mono ?_; rintro e w' ⟨rfl, hb⟩)
    go_ret
    exact ⟨by first | rfl | simp, hb⟩
set_option maxHeartbeats 400000 in
theorem Value_calls (s : ByteArray) (w : World) :
    Calls Tryz.prog 100 #[.string s] w fun e w' => e = .returned (.bool (valueS s)) ∧ Below w.heap.size w w' := by
  have c := all_calls s 132 #[] valueI true w (fun W r h0 h1 => value1_calls r W h0 h1) valueI_hi (enters_of Tryz.func132 (by kernel_rfl) rfl)
  unfold valueS
  obtain ⟨R, hR⟩ : ∃ R, (s.data.toList.all fun c => valueI c.toNat) = R := ⟨_, rfl⟩
  rw [hR] at c ⊢
  clear hR
  go_enter Tryz.func100, Tryz.ntmps100
  go_wp2_with (go_at_call 130; refine c.mono ?_; rintro e w' ⟨rfl, hb⟩)
  go_ret
  exact ⟨rfl, hb⟩
end Oct
def octet_Token.f (a0 : ByteArray) : Option Bool := some (Oct.tokenS a0)
theorem octet_Token.calls (a0 : ByteArray) (r : Bool) (w : World) (h : octet_Token.f a0 = some r) :
    Calls Tryz.prog 99 #[.string a0] w fun e w' => e = .returned (.bool r) ∧ Below w.heap.size w w' := by
  obtain rfl := Option.some.inj h
  exact Oct.Token_calls a0 w
def octet_Value.f (a0 : ByteArray) : Option Bool := some (Oct.valueS a0)
theorem octet_Value.calls (a0 : ByteArray) (r : Bool) (w : World) (h : octet_Value.f a0 = some r) :
    Calls Tryz.prog 100 #[.string a0] w fun e w' => e = .returned (.bool r) ∧ Below w.heap.size w w' := by
  obtain rfl := Option.some.inj h
  exact Oct.Value_calls a0 w
end Go.Proofs.YtiiploicaimnpaaGreatDoor.Hand
namespace Go.Proofs.YtiiploicaimnpaaGreatDoor.Hand
open Go.RowKit Go.Proofs.YtiiploicaimnpaaGreatDoorW.PrintWords
set_option linter.unusedVariables false
set_option linter.unusedSimpArgs false
namespace Oct
set_option maxHeartbeats 400000 in
theorem visible1_calls (r : Int) (w : World) (h0 : 0 ≤ r) (h1 : r ≤ 2147483647) :
    Calls Tryz.prog 134 #[.int .i32 r] w fun e w' => e = .returned (.bool (visibleI r)) ∧ Below w.heap.size w w' := by
  by_cases a : 32 < r
  · have e : visibleI r = decide (r < 127) := by unfold visibleI; rw [decide_eq_true a]; rfl
    rw [e]
    go_enter Tryz.func134, Tryz.ntmps134
    go_wp2
    go_ret
    exact ⟨rfl, Below.refl _ _⟩
  · have e : visibleI r = false := by unfold visibleI; rw [decide_eq_false a]; rfl
    rw [e]
    go_enter Tryz.func134, Tryz.ntmps134
    go_wp2
    go_ret
    exact ⟨rfl, Below.refl _ _⟩
def visibleS (s : ByteArray) : Bool := !s.toList.isEmpty && s.data.toList.all fun c => visibleI c.toNat
set_option maxHeartbeats 400000 in
theorem Visible_calls (s : ByteArray) (w : World) :
    Calls Tryz.prog 102 #[.string s] w fun e w' => e = .returned (.bool (visibleS s)) ∧ Below w.heap.size w w' := by
  have c := all_calls s 134 #[] visibleI false w (fun W r h0 h1 => visible1_calls r W h0 h1) visibleI_hi (enters_of Tryz.func134 (by kernel_rfl) rfl)
  unfold visibleS
  by_cases he : s.toList = []
  · have he' : s.toList.isEmpty = true := by rw [he]; rfl
    rw [he']
    clear c he
    go_enter Tryz.func102, Tryz.ntmps102
    go_wp2
    go_ret
    exact ⟨rfl, Below.refl _ _⟩
  · have he' : s.toList.isEmpty = false := by cases h : s.toList <;> simp_all
    rw [he']
    obtain ⟨R, hR⟩ : ∃ R, (s.data.toList.all fun c => visibleI c.toNat) = R := ⟨_, rfl⟩
    rw [hR] at c ⊢
    clear he hR
    go_enter Tryz.func102, Tryz.ntmps102
    go_wp2_with (go_at_call 130; refine c.mono ?_; rintro e w' ⟨rfl, hb⟩)
    go_ret
    exact ⟨by first | rfl | simp, hb⟩
end Oct
def octet_Visible.f (a0 : ByteArray) : Option Bool := some (Oct.visibleS a0)
theorem octet_Visible.calls (a0 : ByteArray) (r : Bool) (w : World) (h : octet_Visible.f a0 = some r) :
    Calls Tryz.prog 102 #[.string a0] w fun e w' => e = .returned (.bool r) ∧ Below w.heap.size w w' := by
  obtain rfl := Option.some.inj h
  exact Oct.Visible_calls a0 w
end Go.Proofs.YtiiploicaimnpaaGreatDoor.Hand
namespace Go.Proofs.YtiiploicaimnpaaGreatDoor.Hand
open Go.RowKit Go.Proofs.YtiiploicaimnpaaGreatDoorW.PrintWords
set_option linter.unusedVariables false
set_option linter.unusedSimpArgs false
namespace Oct
set_option maxHeartbeats 1000000 in
set_option maxRecDepth 100000 in
theorem refTchar_calls (r : Int) (w : World) (h0 : 0 ≤ r) (h1 : r ≤ 255) :
    Calls Tryz.prog 104 #[.int .u8 r] w fun e w' => e = .returned (.bool (tcharI r)) ∧ Drawn0 w w' := by
  by_cases hal : (97 ≤ r ∧ r ≤ 122) ∨ (65 ≤ r ∧ r ≤ 90) ∨ (48 ≤ r ∧ r ≤ 57)
  · have e : tcharI r = true := by unfold tcharI; rw [decide_eq_true hal]; rfl
    rw [e]
    clear e
    rcases hal with h | h | h
    all_goals
      obtain ⟨g1, g2⟩ := h
      go_enter Tryz.func104, Tryz.ntmps104
      go_wp2 <;> first | (go_ret; exact ⟨by first | rfl | (simp; done) | (simp; omega), Drawn0.refl _⟩) | (exfalso; simp_all <;> omega)
  · have e : tcharI r = marks.any fun m => (m.toNat : Int) == r := by unfold tcharI; rw [decide_eq_false hal]; rfl
    rw [e]
    clear e
    obtain ⟨R, hR⟩ : ∃ R, (marks.any fun m => (m.toNat : Int) == r) = R := ⟨_, rfl⟩
    rw [hR]
    have hR' := Lib.hid hR
    have n1 : r < 97 ∨ 122 < r := by omega
    have n2 : r < 65 ∨ 90 < r := by omega
    have n3 : r < 48 ∨ 57 < r := by omega
    clear hR hal
    have hcase : r < 48 ∨ (57 < r ∧ r < 65) ∨ (90 < r ∧ r < 97) ∨ 122 < r := by omega
    clear n1 n2 n3
    rcases hcase with h | ⟨g1, g2⟩ | ⟨g1, g2⟩ | h
    all_goals
      go_enter Tryz.func104, Tryz.ntmps104
      go_wp2
      go_loop [4] (fun vi => ∃ k : Nat, k ≤ 15 ∧ vi = .int .i64 k ∧ Hid (((marks.drop k).any fun m => (m.toNat : Int) == r) = R)) (fun vi => 15 - (intOf vi).toNat)
      case atStart => exact ⟨0, by omega, rfl, hR'⟩
      case round =>
        clear hR'
        obtain ⟨k, hk, rfl, hR⟩ := hrel
        by_cases hp : k < 15
        · have hR2 := hR.out
          rw [mark_drop k hp] at hR2
          clear hR
          have hx1 : (⟨#[33, 35, 36, 37, 38, 39, 42, 43, 45, 46, 94, 95, 96, 124, 126]⟩ : ByteArray).size = 15 := rfl
          cases hx : ((((⟨#[33, 35, 36, 37, 38, 39, 42, 43, 45, 46, 94, 95, 96, 124, 126]⟩ : ByteArray)[k]'hp).toNat : Int) == r)
          · rw [hx, Bool.false_or] at hR2
            have hR3 := Lib.hid hR2
            clear hR2
            go_wp2
            go_round
            case rel => exact ⟨k + 1, by omega, by go_num, hR3⟩
            case measure => simp [intOf]; omega
          · rw [hx, Bool.true_or] at hR2
            have hR3 := Lib.hid hR2
            clear hR2
            go_wp2
            go_ret
            exact ⟨by rw [← hR3.out]; rfl, Drawn0.refl _⟩
        · obtain rfl : k = 15 := by omega
          have hR3 : Hid (R = false) := hR.out.symm
          clear hR
          go_wp2
          go_ret
          exact ⟨by rw [hR3.out]; rfl, Drawn0.refl _⟩
end Oct
def abutmentref01_Tchar.f (a0 : Int) : Option Bool := if 0 ≤ a0 ∧ a0 ≤ 255 then some (Oct.tcharI a0) else none
theorem abutmentref01_Tchar.calls (a0 : Int) (r : Bool) (w : World) (h : abutmentref01_Tchar.f a0 = some r) :
    Calls Tryz.prog 104 #[.int .u8 a0] w fun e w' => e = .returned (.bool r) ∧ Drawn0 w w' := by
  unfold abutmentref01_Tchar.f at h
  by_cases hc : 0 ≤ a0 ∧ a0 ≤ 255
  · rw [if_pos hc] at h
    obtain rfl := Option.some.inj h
    exact Oct.refTchar_calls a0 w hc.1 hc.2
  · rw [if_neg hc] at h
    cases h
end Go.Proofs.YtiiploicaimnpaaGreatDoor.Hand
namespace Go.Proofs.YtiiploicaimnpaaGreatDoor.Hand
open Go.RowKit Go.Proofs.YtiiploicaimnpaaGreatDoorW.PrintWords Go.Proofs.YtiiploicaimnpaaGreatDoorW.PrintLast Go.Proofs.YtiiploicaimnpaaGreatDoorW.PrintMore
set_option linter.unusedVariables false
set_option linter.unusedSimpArgs false
set_option linter.unusedSectionVars false
/-- Blocks of S may have been written, new ones laid: nothing else has. -/
def Fr (S : Nat → Prop) (A B : World) : Prop := Kept A B S ∧ Below 0 A B
namespace Fr
variable {S T : Nat → Prop} {A B C : World}
theorem refl (S : Nat → Prop) (A : World) : Fr S A A := ⟨Kept.refl _ _, Below.refl _ _⟩
theorem then_ (h : Fr S A B) (k : Fr T B C) (hs : ∀ k, T k → S k ∨ A.heap.size ≤ k) : Fr S A C := ⟨h.1.then_ k.1 hs, h.2.trans k.2⟩
theorem trans (h : Fr S A B) (k : Fr S B C) : Fr S A C := h.then_ k (fun _ => .inl)
theorem mono (h : Fr S A B) (hs : ∀ k, S k → T k) : Fr T A B := ⟨h.1.mono hs, h.2⟩
theorem of_below (S : Nat → Prop) (h : Below A.heap.size A B) : Fr S A B := ⟨Kept.of_below h S, h.mono (Nat.zero_le _)⟩
theorem size (h : Fr S A B) : A.heap.size ≤ B.heap.size := h.1.1
theorem below {n : Nat} (h : Fr S A B) (hn : n ≤ A.heap.size) (hs : ∀ k, S k → n ≤ k) : Below n A B :=
  ⟨h.2.os, h.2.tape, h.2.output, h.1.1, fun i hi => h.1.2 i (by omega) (fun k => by have := hs i k; omega)⟩
theorem setCell (h : Fr S A B) {p : Addr} (hp : S p.block ∨ A.heap.size ≤ p.block) (u : Value) : Fr S A (B.setCell p u) := ⟨h.1.setCell hp u, h.2.setCell (Nat.zero_le _) u⟩
theorem next (h : Fr S A B) (hb : Below B.heap.size B C) : Fr S A C := h.then_ (T := fun _ => False) (of_below _ hb) (fun _ h => h.elim)
theorem alloc (h : Fr S A B) (o : Obj) : Fr S A (B.alloc o) := h.next (below_alloc (Below.refl _ _) o)
theorem drew (h : Fr S A B) : Fr S A B.drew := h.next (below_drew (Below.refl _ _))
theorem grown (h : Fr S A B) {row : Option Nat} (hg : B.grownBy C row) (hb : Below 0 B C) (hr : ∀ k, row = some k → S k ∨ A.heap.size ≤ k) : Fr S A C := ⟨Kept.of_grown hg h.1 hr, h.2.trans hb⟩
theorem blk (h : Fr S A B) {g : Nat} {o : Obj} (hb : A.heap[g]? = some o) (hn : ¬ S g) : B.heap[g]? = some o := blk_kept hb h.1 hn
end Fr
end Go.Proofs.YtiiploicaimnpaaGreatDoor.Hand
