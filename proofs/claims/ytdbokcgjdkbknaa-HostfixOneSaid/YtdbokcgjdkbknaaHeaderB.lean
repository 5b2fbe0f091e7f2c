/- Hand walks: header.Get, All, With, Without, Set. -/
import Derived.Test.YtdbokcgjdkbknaaHeader
import Derived.StillTailTactics
import Derived.Deep.RegionHeld3
import Derived.Laws.IdiomCopy
namespace Go.Proofs.Ytdbokcgjdkbknaa.Hand
open Go.RowKit Go.Proofs.YtdbokcgjdkbknaaW.PrintWords Go.Proofs.YtdbokcgjdkbknaaW.PrintLast Go.Proofs.YtdbokcgjdkbknaaW.PrintMore
set_option linter.unusedVariables false
set_option linter.unusedSimpArgs false
def small (xs : List S61) : Prop := ∀ x ∈ xs, x.f0.size ≤ 140737488355328
theorem namedPred (A : Option Addr) (c : Nat) (names : List ByteArray) (gn : Nat) (xs : List S61) (w : World) (hcell : w.cell? ⟨gn, 0, none⟩ = some (.slice A names.length c)) (hr : Kd.C Kd.string w A names.length names) (hc : names.length ≤ c) (hlen : names.length ≤ 140737488355328)
    (hn : ∀ n ∈ names, n.size ≤ 140737488355328) (hx : small xs) : FieldPred Try.prog 93 #[.pointer (some ⟨gn, 0, none⟩)] xs (isNamed names) w :=
  fun W x hm hb => named1_calls A c names x gn W (pw_cell_below hb hcell) (Kd.C_below hr hb) hc hlen hn (hx x hm)
/-- One name, as a call lays it: its row, and the variable that named keeps. -/
def oneName (w : World) (name : ByteArray) : World := (w.alloc (.cells #[.string name] 9)).alloc (.cells #[.slice (some ⟨w.heap.size, 0, none⟩) 1 1] 87)
theorem oneName_below (w : World) (name : ByteArray) : Below w.heap.size w (oneName w name) := below_alloc ((Below.refl _ _).alloc (Nat.le_refl _) _) _
theorem str_one {w : World} {g : Nat} {x : ByteArray} (h : w.cell? ⟨g, 0, none⟩ = some (.string x)) : Kd.C Kd.string w (some ⟨g, 0, none⟩) [x].length [x] := by
  refine ⟨rfl, by simp, fun _ => ⟨_, rfl, fun j p hj => ?_⟩⟩
  cases j with
  | succ j => simp at hj
  | zero =>
    obtain rfl : x = p := by simpa using hj
    refine ⟨[.string x], rfl, rfl, fun i u hu => ?_⟩
    cases i with
    | succ i => simp at hu
    | zero =>
      obtain rfl : Value.string x = u := by simpa using hu
      exact h
theorem oneName_pred (w : World) (name : ByteArray) (xs : List S61) (hn : name.size ≤ 140737488355328) (hx : small xs) :
    FieldPred Try.prog 93 #[.pointer (some ⟨w.heap.size + 1, 0, none⟩)] xs (isNamed [name]) (oneName w name) := by
  refine namedPred (some ⟨w.heap.size, 0, none⟩) 1 [name] (w.heap.size + 1) xs _ ?_ ?_ (Nat.le_refl _) (by simp) (by simpa using hn) hx
  · unfold oneName
    have := World.cell?_alloc_mark (w.alloc (.cells #[.string name] 9)) #[.slice (some ⟨w.heap.size, 0, none⟩) 1 1] 87 (0, 0) 0
    rw [show (w.alloc (.cells #[.string name] 9)).heap.size = w.heap.size + 1 by simp] at this
    exact this
  · have h0 : (w.alloc (.cells #[.string name] 9)).cell? ⟨w.heap.size, 0, none⟩ = some (.string name) := by rw [World.cell?_alloc_mark]; rfl
    have h1 : (oneName w name).cell? ⟨w.heap.size, 0, none⟩ = some (.string name) := pw_cell_below ((Below.refl _ _).alloc (Nat.le_refl _) _) h0
    exact str_one h1
def getS (l : List S61) (name : ByteArray) : ByteArray × Bool := match l.find? (isNamed [name]) with | some f => (f.f1, true) | none => (⟨#[]⟩, false)
theorem getS_idx (p : S61 → Bool) : ∀ (l : List S61) (k : Nat), (idxFrom p l k = -1 ∧ l.find? p = none) ∨ ∃ (i : Nat) (h : i < l.length), idxFrom p l k = k + i ∧ l.find? p = some (l[i]'h)
  | [], k => .inl ⟨rfl, rfl⟩
  | x :: l, k => by
    cases hp : p x
    · rw [idxFrom_no hp, List.find?_cons, hp]
      rcases getS_idx p l (k + 1) with ⟨h1, h2⟩ | ⟨i, h, h1, h2⟩
      · exact .inl ⟨h1, h2⟩
      · exact .inr ⟨i + 1, by simpa using h, by rw [h1]; omega, by simpa using h2⟩
    · rw [idxFrom_yes hp, List.find?_cons, hp]
      exact .inr ⟨0, by simp, by simp, rfl⟩
set_option maxHeartbeats 1000000 in
theorem Get_calls (A : Option Addr) (c : Nat) (l : List S61) (name : ByteArray) (w : World) (hr : Kd.C k61 w A l.length l) (hc : l.length ≤ c) (hlen : l.length ≤ 140737488355328) (hn : name.size ≤ 140737488355328) (hx : small l) :
    Calls Try.prog 33 #[.slice A l.length c, .string name] w fun e w' => e = .returned (.tuple #[.string (getS l name).1, .bool (getS l name).2]) ∧ Below w.heap.size w w' := by
  have cI := fieldIndexFunc_calls A c l _ _ (isNamed [name]) (oneName w name) (Kd.C_below hr (oneName_below w name)) hc hlen (oneName_pred w name l hn hx) (enters_of Try.func93 (by kernel_rfl) rfl)
  have hr' := Lib.hid hr
  clear hr
  unfold getS
  rcases getS_idx (isNamed [name]) l 0 with ⟨h1, h2⟩ | ⟨i, hi, h1, h2⟩
  · rw [h2]
    rw [h1] at cI
    clear h1 h2
    go_enter Try.func33, Try.ntmps33
    go_wp2_with (first | (go_at_call 64; refine (named_calls _ _ _ _).mono ?_; rintro e w' ⟨rfl, rfl⟩) | (go_at_call 63; refine cI.mono ?_; rintro e w' ⟨rfl, hb⟩))
    go_ret2
    exact ⟨rfl, (oneName_below w name).trans (hb.mono (oneName_below w name).size)⟩
  · rw [h2]
    rw [h1] at cI
    obtain ⟨ad, rfl, hcell0, hcell1⟩ := field_at hr'.out (Below.refl _ w) i hi
    generalize l[i]'hi = x at hcell0 hcell1
    clear h1 h2
    have hf : ∀ W, Below (oneName w name).heap.size (oneName w name) W → W.cell? ⟨(ad.add (i * 2)).block, (ad.add (i * 2)).off + 1, none⟩ = some (.string x.f1) := fun W hb => pw_cell_below ((oneName_below w name).trans (hb.mono (oneName_below w name).size)) hcell1
    have hf' := Lib.hid hf
    clear hf
    go_enter Try.func33, Try.ntmps33
    go_wp2_with (first | (go_at_call 64; refine (named_calls _ _ _ _).mono ?_; rintro e w' ⟨rfl, rfl⟩) | (go_at_call 63; refine cI.mono ?_; rintro e w' ⟨rfl, hb⟩; have hc3 := hf'.out w' hb))
    go_ret2; exact ⟨rfl, (oneName_below w name).trans (hb.mono (oneName_below w name).size)⟩
end Go.Proofs.Ytdbokcgjdkbknaa.Hand
