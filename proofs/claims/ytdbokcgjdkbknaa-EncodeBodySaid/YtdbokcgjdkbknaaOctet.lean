/- Hand walks: octet.tchar, all, Token, Value, Visible. -/
import Derived.Test.YtdbokcgjdkbknaaProg
import Derived.Test.YtdbokcgjdkbknaaWWords
import Derived.Lib.Strings
import Derived.Lib.Walk
import Derived.WalkKit
import Derived.Below
import Derived.Lib.Hide
import Derived.Lib.OthersKept
import Derived.Laws.RangeAny
import Derived.Deep.LoopGhost
import Derived.WalkSpells
import Derived.BigCall
import Derived.BigGuard
import Derived.Shelf.Abstract
import Derived.Outline
namespace Go.Proofs.Ytdbokcgjdkbknaa.Hand
open Go.RowKit Go.Proofs.YtdbokcgjdkbknaaW.PrintWords
set_option linter.unusedVariables false
set_option linter.unusedSimpArgs false
namespace Oct
theorem toList_eq (s : ByteArray) : s.toList = s.data.toList := Lib.toList_data s
theorem drop_cons (s : ByteArray) (k : Nat) (h : k < s.size) : s.data.toList.drop k = s[k] :: s.data.toList.drop (k + 1) := by
  rw [List.drop_eq_getElem_cons (by simpa using h)]; rfl
theorem Below.iter (w : World) (s : ByteArray) (p : Nat) : Below w.heap.size w (w.iter s p) := (Below.refl _ _).alloc (Nat.le_refl _) _
/-- What a function value from runes to bool gives, in every world. -/
def RunePred (P : Program) (g : Nat) (lb : Array Value) (p : Int → Bool) : Prop :=
  ∀ (W : World) (r : Int), 0 ≤ r → r ≤ 2147483647 → Calls P g (#[.int .i32 r] ++ lb) W fun e w' => e = .returned (.bool (p r)) ∧ Below W.heap.size W w'
theorem get_at (s : ByteArray) (k : Nat) (h : k < s.size) : s.get! k = s[k]'h := by
  simp [ByteArray.get!, getElem!_pos, h]
  rfl
/-- The octets of a rune that is none of ASCII are all above 127. -/
theorem decode_bytes (s : ByteArray) (pos : Nat) (h : pos < s.size) (ha : ¬ (s[pos]'h).toNat < 128) :
    pos + (Utf8.decode s pos).2 ≤ s.size ∧ ∀ j, pos ≤ j → j < pos + (Utf8.decode s pos).2 → ∀ hj : j < s.size, 128 ≤ (s[j]'hj).toNat := by
  have h0 : (s.get! (pos + 0)).toNat = (s[pos]'h).toNat := by rw [Nat.add_zero, get_at s pos h]
  have hc : ∀ k, (decide (pos + k < s.size) && (s.get! (pos + k)).toNat / 64 == 2) = true → ∃ hk : pos + k < s.size, 128 ≤ (s[pos + k]'hk).toNat := by
    intro k hk
    simp at hk
    refine ⟨hk.1, ?_⟩
    have := hk.2
    rw [get_at s _ hk.1] at this
    omega
  have one : pos + 1 ≤ s.size ∧ ∀ j, pos ≤ j → j < pos + 1 → ∀ hj : j < s.size, 128 ≤ (s[j]'hj).toNat := by
    refine ⟨h, fun j h1 h2 hj => ?_⟩
    obtain rfl : j = pos := by omega
    omega
  unfold Utf8.decode
  simp only []
  rw [if_neg (by rw [h0]; exact ha)]
  split
  · rename_i h2
    simp only [Bool.and_eq_true] at h2
    obtain ⟨k1, g1⟩ := hc 1 (by simpa using h2.2)
    split
    · refine ⟨by omega, fun j h3 h4 hj => ?_⟩
      have : j = pos ∨ j = pos + 1 := by simp at h4; omega
      rcases this with rfl | rfl <;> omega
    · exact one
  split
  · rename_i h2
    simp only [Bool.and_eq_true] at h2
    obtain ⟨k1, g1⟩ := hc 1 (by simpa using h2.1.2)
    obtain ⟨k2, g2⟩ := hc 2 (by simpa using h2.2)
    split
    · refine ⟨by omega, fun j h3 h4 hj => ?_⟩
      have : j = pos ∨ j = pos + 1 ∨ j = pos + 2 := by simp at h4; omega
      rcases this with rfl | rfl | rfl <;> omega
    · exact one
  split
  · rename_i h2
    simp only [Bool.and_eq_true] at h2
    obtain ⟨k1, g1⟩ := hc 1 (by simpa using h2.1.1.2)
    obtain ⟨k2, g2⟩ := hc 2 (by simpa using h2.1.2)
    obtain ⟨k3, g3⟩ := hc 3 (by simpa using h2.2)
    split
    · refine ⟨by omega, fun j h3 h4 hj => ?_⟩
      have : j = pos ∨ j = pos + 1 ∨ j = pos + 2 ∨ j = pos + 3 := by simp at h4; omega
      rcases this with rfl | rfl | rfl | rfl <;> omega
    · exact one
  · exact one
theorem all_skip {s : ByteArray} {q : UInt8 → Bool} (hq : ∀ c : UInt8, 128 ≤ c.toNat → q c = true) : ∀ (d i : Nat), i + d ≤ s.size → (∀ j, i ≤ j → j < i + d → ∀ hj : j < s.size, 128 ≤ (s[j]'hj).toNat) →
    (s.data.toList.drop i).all q = (s.data.toList.drop (i + d)).all q
  | 0, i, _, _ => rfl
  | d + 1, i, h, hb => by
    have hi : i < s.size := by omega
    rw [drop_cons s i hi, List.all_cons, hq _ (hb i (Nat.le_refl _) (by omega) hi), Bool.true_and, show i + (d + 1) = (i + 1) + d by omega]
    exact all_skip hq d (i + 1) (by omega) (fun j h1 h2 hj => hb j (by omega) (by omega) hj)
theorem width_pos (s : ByteArray) (pos : Nat) (h : pos < s.size) : 1 ≤ (Utf8.decode s pos).2 := by
  by_cases ha : (s[pos]'h).toNat < 128
  · rw [decode_ascii s pos h ha]
    exact Nat.le_refl _
  · exact (decode_high s pos h (by omega)).2
set_option maxHeartbeats 1000000 in
theorem all_calls (s : ByteArray) (g : Nat) (lb : Array Value) (p : Int → Bool) (b : Bool) (w : World) (hf : RunePred Try.prog g lb p) (hb : ∀ r, 128 ≤ r → p r = b) (eg : ∀ args w, (callFunc g args).run Try.prog w = .ok (.enter g args) w) :
    Calls Try.prog 97 #[.string s, .func (.func g) #[] lb] w fun e w' => e = .returned (.bool (s.data.toList.all fun c => p c.toNat)) ∧ Below w.heap.size w w' := by
  obtain ⟨R, hR⟩ : ∃ R, (s.data.toList.all fun c => p c.toNat) = R := ⟨_, rfl⟩
  rw [hR]
  have hR' := Lib.hid hR
  clear hR
  have hf' := Lib.hid hf
  have hb' := Lib.hid hb
  clear hf hb
  go_enter Try.func97, Try.ntmps97
  go_wp2
  go_loopg [] (s.size + 1) (fun gf wx => ∃ pos : Nat, Hid (wx.heap[w.heap.size]? = some (.stringIter s pos)) ∧ Below w.heap.size w wx ∧ Hid (((s.data.toList.drop pos).all fun c => p c.toNat) = R) ∧ s.size < pos + gf)
  case atStart => exact ⟨0, World.iter_heap w s 0, (Below.refl _ w).alloc (Nat.le_refl _) _, hR', by omega⟩
  case round =>
    clear hR'
    obtain ⟨pos, hit', hbw, hR, hfu⟩ := hrel
    have hit := hit'.out
    clear hit'
    by_cases hp : pos < s.size
    · obtain ⟨g', rfl⟩ : ∃ g', gk = g' + 1 := ⟨gk - 1, by omega⟩
      have hnx : ∀ ty, (Instr.next (.pointer (some ⟨w.heap.size, 0, none⟩)) true ty).run Try.prog wr = _ := fun ty => Lib.run_next_any_at wr w.heap.size s pos ty hit hp
      have hwd := width_pos s pos hp
      obtain ⟨r, hr⟩ : ∃ r, (Utf8.decode s pos).1 = r := ⟨_, rfl⟩
      obtain ⟨K, hK⟩ : ∃ K, (Utf8.decode s pos).2 = K := ⟨_, rfl⟩
      have hrle : r ≤ 2147483647 := by rw [← hr]; exact decode_le s pos
      have hstep : Hid (if p r = true then ((s.data.toList.drop (pos + K)).all fun c => p c.toNat) = R else R = false) := by
        unfold Hid
        have h1 := hR.out
        by_cases ha : (s[pos]'hp).toNat < 128
        · have hd := decode_ascii s pos hp ha
          rw [hd] at hr hK
          subst hr hK
          rw [drop_cons s pos hp, List.all_cons] at h1
          cases hpc : p (s[pos]'hp).toNat
          · rw [hpc] at h1
            rw [if_neg (by simp)]
            exact h1.symm
          · rw [hpc] at h1
            rw [if_pos rfl]
            exact h1
        · have hh := decode_high s pos hp (by omega)
          obtain ⟨g1, g2⟩ := decode_bytes s pos hp ha
          rw [hr] at hh
          rw [hK] at g1 g2
          rw [hb'.out r (by omega)]
          cases b
          · rw [if_neg (by simp), ← h1, drop_cons s pos hp, List.all_cons, hb'.out _ (by omega)]
            rfl
          · rw [if_pos rfl, ← h1]
            exact (all_skip (fun c hc => hb'.out _ (by omega)) K pos g1 g2).symm
      clear hR
      rw [hr, hK] at hnx
      rw [hK] at hwd
      clear hr hK
      have hit2 := Lib.iterAt_heap wr w.heap.size s pos (pos + K) hit
      have hbw2 := Lib.below_iterAt hbw (k := w.heap.size) (Nat.le_refl _) s (pos + K)
      obtain ⟨W, hWd⟩ : ∃ W, wr.iterAt w.heap.size s (pos + K) = W := ⟨_, rfl⟩
      rw [hWd] at hnx hit2 hbw2
      have hltW : w.heap.size < W.heap.size := (Array.getElem?_eq_some_iff.1 hit2).1
      have cS := hf'.out W r (by omega) (by omega)
      have hit3 := Lib.hid hit2
      clear hWd hit2
      cases hsp : p r
      · rw [hsp] at cS
        have hR2 : Hid (R = false) := by have := hstep.out; rw [hsp, if_neg (by simp)] at this; exact this
        clear hstep hsp
        go_wp2_with (go_at_fn g; refine cS.mono ?_; rintro e W' ⟨rfl, hbc⟩)
        go_ret
        exact ⟨by rw [hR2.out]; rfl, hbw2.trans (hbc.mono hbw2.size)⟩
      · rw [hsp] at cS
        have hR2 : Hid (((s.data.toList.drop (pos + K)).all fun c => p c.toNat) = R) := by have := hstep.out; rw [hsp, if_pos rfl] at this; exact this
        clear hstep hsp
        go_wp2_with (go_at_fn g; refine cS.mono ?_; rintro e W' ⟨rfl, hbc⟩)
        go_roundg g'
        case measure => omega
        case rel => exact ⟨pos + K, (hbc.block _ hltW).trans hit3.out, hbw2.trans (hbc.mono hbw2.size), hR2, by omega⟩
    · have hnx : ∀ ty, (Instr.next (.pointer (some ⟨w.heap.size, 0, none⟩)) true ty).run Try.prog wr = _ := fun ty => Lib.run_next_end_at wr w.heap.size s pos ty hit hp
      have hR2 : Hid (R = true) := by
        have := hR.out
        rw [List.drop_of_length_le (by simp; omega)] at this
        exact this.symm
      clear hR hit
      go_wp2
      go_ret
      exact ⟨by rw [hR2.out]; rfl, hbw⟩
end Oct
end Go.Proofs.Ytdbokcgjdkbknaa.Hand
