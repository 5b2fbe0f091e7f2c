/- The hand walks of package host and digits, in the printer's form: 'name.f' tells the answer, 'name.calls' is the contract. -/
import Derived.Test.YtdbokcgjdkbknaaHostC
import Derived.Test.YtdbokcgjdkbknaaWWords
namespace Go.Proofs.Ytdbokcgjdkbknaa.Hand
open Go.RowKit Go.Proofs.YtdbokcgjdkbknaaW.PrintWords
set_option linter.unusedVariables false
set_option linter.unusedSimpArgs false

def strings_IndexByte.f (a0 : ByteArray) (a1 : Int) : Option Int := some (Lib.indexByte a0.data.toList a1.toNat.toUInt8)
theorem strings_IndexByte.calls (a0 : ByteArray) (a1 : Int) (r : Int) (w : World) (h : strings_IndexByte.f a0 a1 = some r) :
    Calls Try.prog 79 #[.string a0, .int .u8 a1] w fun e w' => e = .returned (.int .i64 r) ∧ Drawn0 w w' :=
  (indexByte_calls a0 a1 w r (Option.some.inj h)).mono fun e w' ⟨he, hw⟩ => ⟨he, hw ▸ Drawn0.refl w⟩

def digits_number.f (a0 : ByteArray) (a1 a2 : Int) : Option (Int × Int) := if a0.size ≤ 9223372036854775807 ∧ (a1 = 10 ∨ a1 = 16) ∧ 0 ≤ a2 ∧ a2 ≤ 4611686018427387904 then some (numS a1 a2 a0) else none
theorem digits_number.calls (a0 : ByteArray) (a1 a2 : Int) (r1 r2 : Int) (w : World) (h : digits_number.f a0 a1 a2 = some (r1, r2)) :
    Calls Try.prog 84 #[.string a0, .int .i64 a1, .int .i64 a2] w fun e w' => e = .returned (.tuple #[.int .i64 r1, .int .i64 r2]) ∧ Below w.heap.size w w' := by
  unfold digits_number.f at h
  split at h
  · rename_i hc
    refine (number_calls a0 a1 a2 w (by unfold maxLen; omega) hc.2.1 hc.2.2.1 hc.2.2.2).mono ?_
    rintro e w' ⟨rfl, hb⟩
    have h2 := Option.some.inj h
    unfold numS at h2
    rw [h2]
    exact ⟨rfl, hb⟩
  · exact absurd h (by simp)

def host_registered.f (a0 : ByteArray) : Option Bool := if a0.size ≤ 9223372036854775807 then some (regS a0) else none
theorem host_registered.calls (a0 : ByteArray) (r : Bool) (w : World) (h : host_registered.f a0 = some r) :
    Calls Try.prog 50 #[.string a0] w fun e w' => e = .returned (.bool r) ∧ Below w.heap.size w w' := by
  unfold host_registered.f at h
  split at h
  · rename_i hc
    obtain rfl := Option.some.inj h
    exact registered_calls a0 w (by unfold maxLen; omega)
  · exact absurd h (by simp)

def host_literal.f (a0 : ByteArray) : Option Bool := if a0.size ≤ 9223372036854775807 then some (litS a0) else none
theorem host_literal.calls (a0 : ByteArray) (r : Bool) (w : World) (h : host_literal.f a0 = some r) :
    Calls Try.prog 51 #[.string a0] w fun e w' => e = .returned (.bool r) ∧ Below w.heap.size w w' := by
  unfold host_literal.f at h
  split at h
  · rename_i hc
    obtain rfl := Option.some.inj h
    exact literal_calls a0 w (by unfold maxLen; omega)
  · exact absurd h (by simp)

def octet_Lower.f (a0 : ByteArray) : Option ByteArray := if a0.size ≤ 9223372036854775807 then some ⟨(lowL a0.data.toList).toArray⟩ else none
theorem octet_Lower.calls (a0 : ByteArray) (r : ByteArray) (w : World) (h : octet_Lower.f a0 = some r) :
    Calls Try.prog 55 #[.string a0] w fun e w' => e = .returned (.string r) ∧ Below w.heap.size w w' := by
  unfold octet_Lower.f at h
  split at h
  · rename_i hc
    obtain rfl := Option.some.inj h
    exact Lower_calls a0 w (by unfold maxLen; omega)
  · exact absurd h (by simp)

def digits_figures.f (a0 a1 : Int) : Option ByteArray := if (a1 = 10 ∨ a1 = 16) ∧ -9223372036854775808 ≤ a0 ∧ a0 ≤ 9223372036854775807 then some ⟨(digL a1.toNat a0.natAbs).toArray⟩ else none
theorem digits_figures.calls (a0 a1 : Int) (r : ByteArray) (w : World) (h : digits_figures.f a0 a1 = some r) :
    Calls Try.prog 88 #[.int .i64 a0, .int .i64 a1] w fun e w' => e = .returned (.string r) ∧ Below w.heap.size w w' := by
  unfold digits_figures.f at h
  split at h
  · rename_i hc
    obtain rfl := Option.some.inj h
    exact figures_calls a0 a1 w hc.1 hc.2.1 hc.2.2
  · exact absurd h (by simp)
end Go.Proofs.Ytdbokcgjdkbknaa.Hand
