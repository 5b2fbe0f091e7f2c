/- The hand walk of hostfix.Place. -/
import Derived.Test.YtdbokcgjdkbknaaHeaderF
namespace Go.Proofs.Ytdbokcgjdkbknaa.Hand
open Go.RowKit Go.Proofs.YtdbokcgjdkbknaaW.PrintWords Go.Proofs.YtdbokcgjdkbknaaW.PrintLast Go.Proofs.YtdbokcgjdkbknaaW.PrintMore
set_option linter.unusedVariables false
set_option linter.unusedSimpArgs false
theorem Place1_calls (g : Nat) (a : Int) (w : World) (hcell : w.cell? ⟨g, 0, none⟩ = some (.int .i64 a)) :
    Calls Try.prog 61 #[.pointer (some ⟨g, 0, none⟩)] w fun e w' => e = .returned (.bool (a == 2)) ∧ Below w.heap.size w w' := by
  go_enter Try.func61, Try.ntmps61
  go_wp2
  go_ret
  exact ⟨rfl, Below.refl _ _⟩
def hostB : ByteArray := ⟨#[72, 111, 115, 116]⟩
def placeS (l : List S61) (a0 : Int) (a1 au : ByteArray) : ByteArray := if (a0 == 2) = true then a1 else if (getS l hostB).2 = true then (getS l hostB).1 else au
set_option maxHeartbeats 1000000 in
theorem Place_calls (A : Option Addr) (c : Nat) (l : List S61) (a0 : Int) (a1 a2 au : ByteArray) (w : World) (hr : Kd.C k61 w A l.length l) (hc : l.length ≤ c) (hlen : l.length ≤ 4398046511000) (hx : small l) :
    Calls Try.prog 29 #[.slice A l.length c, .agg #[.int .i64 a0, .string a1, .string a2], .string au] w fun e w' => e = .returned (.string (placeS l a0 a1 au)) ∧ Below w.heap.size w w' := by
  have eg := enters_of Try.func61 (by kernel_rfl) rfl
  have hE : ∀ W, Below w.heap.size w W → Kd.C k61 W A l.length l := fun W hb => Kd.C_below hr hb
  have cG := fun W hb => Get_calls A c l hostB W (hE W hb) hc (by omega) (by decide) hx
  have cP := fun W (h : W.cell? ⟨w.heap.size, 0, none⟩ = some (.int .i64 a0)) => Place1_calls w.heap.size a0 W h
  clear hr hE
  unfold placeS
  cases h2 : (a0 == 2)
  · simp only [h2] at cP
    rw [if_neg (by decide)]
    generalize getS l hostB = G at cG
    obtain ⟨s, b⟩ := G
    cases b
    · rw [if_neg (by simp)]
      go_enter Try.func29, Try.ntmps29
      go_wp2_with (go_at_fn 61)
      refine (cP _ (by rw [World.cell?_alloc_mark]; rfl)).mono ?_
      rintro e w1 ⟨rfl, hb1⟩
      have hb2 : Below w.heap.size w w1 := (below_alloc (Below.refl _ _) _).trans (hb1.mono (by simp))
      go_wp2_with (go_at_call 33; refine (cG _ hb2).mono ?_; rintro e w2 ⟨rfl, hb3⟩)
      go_ret
      exact ⟨rfl, hb2.trans (hb3.mono hb2.size)⟩
    · rw [if_pos rfl]
      go_enter Try.func29, Try.ntmps29
      go_wp2_with (go_at_fn 61)
      refine (cP _ (by rw [World.cell?_alloc_mark]; rfl)).mono ?_
      rintro e w1 ⟨rfl, hb1⟩
      have hb2 : Below w.heap.size w w1 := (below_alloc (Below.refl _ _) _).trans (hb1.mono (by simp))
      go_wp2_with (go_at_call 33; refine (cG _ hb2).mono ?_; rintro e w2 ⟨rfl, hb3⟩)
      go_ret
      exact ⟨rfl, hb2.trans (hb3.mono hb2.size)⟩
  · simp only [h2] at cP
    rw [if_pos rfl]
    have hcell : ∀ o, (w.alloc (.cells #[.int .i64 a0, .string a1, .string a2] o)).cell? ⟨w.heap.size, 1, none⟩ = some (.string a1) := fun o => by rw [World.cell?_alloc_mark]; rfl
    go_enter Try.func29, Try.ntmps29
    go_wp2_with (go_at_fn 61)
    refine (cP _ (by rw [World.cell?_alloc_mark]; rfl)).mono ?_
    rintro e w1 ⟨rfl, hb1⟩
    have hcell2 := pw_cell_below hb1 (hcell _)
    have hb2 : Below w.heap.size w w1 := (below_alloc (Below.refl _ _) _).trans (hb1.mono (by simp))
    clear hcell
    go_wp2
    go_ret
    exact ⟨rfl, hb2⟩
def hostfix_Place.f (l0 : List S61) (a1_0 : Int) (a1_1 a1_2 a2 : ByteArray) : Option ByteArray := if l0.length ≤ 4398046511000 ∧ smallB l0 = true then some (placeS l0 a1_0 a1_1 a2) else none
theorem hostfix_Place.calls (A0 : Option Addr) (c0 : Nat) (l0 : List (S61)) (a1_0 : Int) (a1_1 : ByteArray) (a1_2 : ByteArray) (a2 : ByteArray) (r : ByteArray) (w : World) (hr0 : Kd.C k61 w A0 l0.length l0) (hc0 : l0.length ≤ c0) (h : hostfix_Place.f l0 a1_0 a1_1 a1_2 a2 = some r) :
    Calls Try.prog 29 #[.slice A0 l0.length c0, .agg #[.int .i64 a1_0, .string a1_1, .string a1_2], .string a2] w fun e w' => e = .returned (.string r) ∧ Below w.heap.size w w' := by
  unfold hostfix_Place.f at h
  split at h
  · rename_i hc
    obtain rfl := Option.some.inj h
    exact Place_calls A0 c0 l0 a1_0 a1_1 a1_2 a2 w hr0 hc0 hc.1 (small_of hc.2)
  · exact absurd h (by simp)
end Go.Proofs.Ytdbokcgjdkbknaa.Hand
