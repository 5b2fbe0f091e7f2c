/- Hand walks: octet.lower. -/
import Derived.Test.YtdbokcgjdkbknaaDoorDigC
import Derived.Lib.ConvBytes
import Derived.Laws.IdiomStrings
import Derived.OwnWalk
namespace Go.Proofs.YtdbokcgjdkbknaaDoor.Hand
open Go.RowKit
set_option linter.unusedVariables false
set_option linter.unusedSimpArgs false

/-! octet.lower -/
def lowB (c : UInt8) : UInt8 := if 65 ≤ c ∧ c ≤ 90 then c + 32 else c
def lowL (l : List UInt8) : List UInt8 := l.map lowB
theorem lowB_up {c : UInt8} (h : 65 ≤ (c.toNat : Int) ∧ (c.toNat : Int) ≤ 90) : ((lowB c).toNat : Int) = c.toNat + 32 := by
  have : ∀ c : UInt8, 65 ≤ c.toNat ∧ c.toNat ≤ 90 → (lowB c).toNat = c.toNat + 32 := by
    intro c hc
    unfold lowB
    rw [if_pos (by simp [UInt8.le_iff_toNat_le]; omega), UInt8.toNat_add]
    simp
    omega
  have := this c (by omega)
  omega
theorem lowB_no {c : UInt8} (h : ¬ (65 ≤ (c.toNat : Int) ∧ (c.toNat : Int) ≤ 90)) : lowB c = c := by
  unfold lowB
  rw [if_neg (by simp [UInt8.le_iff_toNat_le]; omega)]
set_option maxHeartbeats 400000 in
theorem lower_calls (c : UInt8) (w : World) :
    Calls Tryd.prog 97 #[.int .u8 c.toNat] w fun e w' => e = .returned (.int .u8 (lowB c).toNat) ∧ w = w' := by
  have hc := UInt8.toNat_lt c
  by_cases h : 65 ≤ (c.toNat : Int) ∧ (c.toNat : Int) ≤ 90
  · rw [lowB_up h]
    obtain ⟨h1, h2⟩ := h
    go_enter Tryd.func97, Tryd.ntmps97
    go_wp2 <;> (go_ret; try simp; try omega)
  · rw [lowB_no h]
    go_enter Tryd.func97, Tryd.ntmps97
    go_wp2 <;> (go_ret; try simp; try omega)
theorem heap_set {w : World} {g : Nat} {t : TypeId} {cs : Array Value} {fr : Nat × Nat} (h : w.heap[g]? = some (.cells cs t fr)) (i : Nat) (u : Value) :
    (w.setCell ⟨g, i, none⟩ u).heap[g]? = some (.cells (cs.setIfInBounds i u) t fr) := by
  simp only [World.setCell, Array.getElem?_modify, if_pos]
  rw [h]
  rfl
theorem heap_cell {w : World} {g : Nat} {t : TypeId} {cs : Array Value} {fr : Nat × Nat} (h : w.heap[g]? = some (.cells cs t fr)) (i : Nat) : w.cell? ⟨g, i, none⟩ = cs[i]? := cell_of_row w g i cs t fr h
end Go.Proofs.YtdbokcgjdkbknaaDoor.Hand
