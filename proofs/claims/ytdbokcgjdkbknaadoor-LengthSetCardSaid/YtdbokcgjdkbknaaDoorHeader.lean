/- Hand walks: octet.Fold, header.named, slices.IndexFunc and ContainsFunc at names and fields. -/
import Derived.Test.YtdbokcgjdkbknaaDoorLow
import Derived.Test.YtdbokcgjdkbknaaDoorKinds
import Derived.BigCall
import Derived.BigGuard
import Derived.Shelf.Abstract
import Derived.Deep.QuietTactic
import Derived.BigQuiet
namespace Go.Proofs.YtdbokcgjdkbknaaDoor.Hand
open Go.RowKit Go.Proofs.YtdbokcgjdkbknaaDoorW.PrintWords Go.Proofs.YtdbokcgjdkbknaaDoorW.PrintLast Go.Proofs.YtdbokcgjdkbknaaDoorW.PrintMore
set_option linter.unusedVariables false
set_option linter.unusedSimpArgs false
/-! octet.Fold -/
def foldS (a b : ByteArray) : Bool := decide (lowL a.data.toList = lowL b.data.toList)
theorem lowB_num (c d : UInt8) : (((lowB c).toNat : Int) != (lowB d).toNat) = decide (lowB c ≠ lowB d) := by
  rw [Bool.eq_iff_iff]
  simp
  constructor
  · intro h h'; exact h (by rw [h'])
  · intro h h'; exact h (UInt8.toNat_inj.1 (by omega))
theorem lower_quiet (c : UInt8) (w : World) : Calls Tryd.prog 97 #[.int .u8 c.toNat] w fun e w' => e = .returned (.int .u8 (lowB c).toNat) ∧ w' = w := (lower_calls c w).mono fun _ _ h => ⟨h.1, h.2.symm⟩
set_option maxHeartbeats 1000000 in
theorem Fold_calls (a b : ByteArray) (w : World) (ha : a.size ≤ 140737488355328) (hb : b.size ≤ 140737488355328) :
    Calls Tryd.prog 81 #[.string a, .string b] w fun e w' => e = .returned (.bool (foldS a b)) ∧ Below w.heap.size w w' := by
  by_cases hl : a.size = b.size
  · have hl1 : ((a.size : Int) != b.size) = false := by simp; omega
    obtain ⟨R, hR⟩ : ∃ R, foldS a b = R := ⟨_, rfl⟩
    rw [hR]
    have hR' : Hid (decide (lowL (a.data.toList.drop 0) = lowL (b.data.toList.drop 0)) = R) := hR
    have hl2 := Lib.hid hl
    have hl3 : a.size ≤ b.size := by omega
    clear hR hl
    go_enter Tryd.func81, Tryd.ntmps81
    go_wp2
    go_loopw [13] (fun vi wr => ∃ k : Nat, k ≤ a.size ∧ vi = .int .i64 k ∧ Below w.heap.size w wr ∧ Hid (decide (lowL (a.data.toList.drop k) = lowL (b.data.toList.drop k)) = R)) (fun vi _ => a.size - (intOf vi).toNat)
    case atStart => exact ⟨0, by omega, rfl, Below.refl _ _, hR'⟩
    case round =>
      clear hR'
      obtain ⟨k, hk, rfl, hB, hI⟩ := hrel
      by_cases hlt : k < a.size
      · have hltb : k < b.size := by omega
        have hI2 := hI.out
        rw [drop_cons a k hlt, drop_cons b k hltb] at hI2
        clear hI
        have hx := lowB_num (a[k]'hlt) (b[k]'hltb)
        have hI3 : Hid (if lowB (a[k]'hlt) = lowB (b[k]'hltb) then decide (lowL (a.data.toList.drop (k + 1)) = lowL (b.data.toList.drop (k + 1))) = R else false = R) := by
          unfold Hid
          rw [← hI2]
          split
          · rename_i h
            simp [lowL, h]
          · rename_i h
            simp [lowL, h]
        clear hI2
        by_cases he : lowB (a[k]'hlt) = lowB (b[k]'hltb)
        · have hI4 := hI3.out
          rw [if_pos he] at hI4
          rw [decide_eq_false (by simp [he])] at hx
          have hI5 := Lib.hid hI4
          clear hI3 hI4 he
          go_wp2
          go_quiet ((go_at_call 97; exact Calls.quiet_of_same (lower_quiet _ _)))
          go_wp2
          go_roundw
          case rel => exact ⟨k + 1, by omega, by go_num, pw_below_drewN hB _, hI5⟩
          case measure => simp [intOf]; omega
        · have hI4 := hI3.out
          rw [if_neg he] at hI4
          rw [decide_eq_true he] at hx
          have hI5 := Lib.hid hI4
          clear hI3 hI4 he
          go_wp2
          go_quiet ((go_at_call 97; exact Calls.quiet_of_same (lower_quiet _ _)))
          go_wp2
          go_ret
          exact ⟨by rw [← hI5.out]; rfl, pw_below_drewN hB _⟩
      · obtain rfl : k = a.size := by omega
        have hI2 := hI.out
        rw [List.drop_of_length_le (by simp), List.drop_of_length_le (by have := hl2.out; simp; omega)] at hI2
        have hI3 := Lib.hid hI2
        clear hI hI2
        go_wp2
        go_ret
        exact ⟨by rw [← hI3.out]; rfl, hB⟩
  · have hl1 : ((a.size : Int) != b.size) = true := by simp; omega
    have e : foldS a b = false := by
      unfold foldS
      rw [decide_eq_false]
      intro h
      apply hl
      have := congrArg List.length h
      simpa [lowL] using this
    rw [e]
    go_enter Tryd.func81, Tryd.ntmps81
    go_wp2
    go_ret
    exact ⟨rfl, Below.refl _ _⟩

/-! function values over names and fields -/
def idxFrom {α : Type} (p : α → Bool) : List α → Nat → Int
  | [], _ => -1
  | x :: l, k => if p x = true then k else idxFrom p l (k + 1)
theorem idxFrom_yes {α : Type} {p : α → Bool} {x : α} {l : List α} {k : Nat} (h : p x = true) : idxFrom p (x :: l) k = k := by rw [idxFrom, if_pos h]
theorem idxFrom_no {α : Type} {p : α → Bool} {x : α} {l : List α} {k : Nat} (h : p x = false) : idxFrom p (x :: l) k = idxFrom p l (k + 1) := by rw [idxFrom, if_neg (by simp [h])]
theorem idxFrom_any {α : Type} (p : α → Bool) : ∀ (l : List α) (k : Nat), decide (0 ≤ idxFrom p l k) = l.any p
  | [], _ => rfl
  | x :: l, k => by
    cases h : p x
    · rw [idxFrom_no h, idxFrom_any p l (k + 1), List.any_cons, h, Bool.false_or]
    · rw [idxFrom_yes h, List.any_cons, h, Bool.true_or]
      simp
/-- A function value from texts (those of a list) to bool, in every world that keeps what lies in w. -/
def StrPred (P : Program) (g : Nat) (lb : Array Value) (xs : List ByteArray) (p : ByteArray → Bool) (w : World) : Prop :=
  ∀ (W : World) (x : ByteArray), x ∈ xs → Below w.heap.size w W → Calls P g (#[.string x] ++ lb) W fun e w' => e = .returned (.bool (p x)) ∧ Below W.heap.size W w'
def FieldPred (P : Program) (g : Nat) (lb : Array Value) (xs : List S45) (p : S45 → Bool) (w : World) : Prop :=
  ∀ (W : World) (x : S45), x ∈ xs → Below w.heap.size w W → Calls P g (#[.agg #[.string x.f0, .string x.f1]] ++ lb) W fun e w' => e = .returned (.bool (p x)) ∧ Below W.heap.size W w'
theorem str_at {w W : World} {A : Option Addr} {xs : List ByteArray} (h : Kd.C Kd.string w A xs.length xs) (hb : Below w.heap.size w W) (k : Nat) (hk : k < xs.length) :
    ∃ ad, A = some ad ∧ W.cell? (ad.add k) = some (.string (xs[k]'hk)) := by
  obtain ⟨ad, c, e, hc, hK, hc0⟩ := Kd.C_get h (⟨#[]⟩ : ByteArray) (k : Int) (by omega) (by omega)
  refine ⟨ad, e, ?_⟩
  have hK' : c = [.string (xs.getD (k : Int).toNat ⟨#[]⟩)] := hK
  subst hK'
  have := hc0 0 _ rfl
  have h2 : w.cell? (ad.add k) = some (.string (xs.getD k ⟨#[]⟩)) := by simpa [Kd.string, Kd.scalar] using this
  rw [pw_cell_below hb h2]
  simp [List.getD_eq_getElem?_getD, hk]
set_option maxHeartbeats 1000000 in
theorem strIndexFunc_calls (A : Option Addr) (c : Nat) (xs : List ByteArray) (g : Nat) (lb : Array Value) (p : ByteArray → Bool) (w : World) (hr : Kd.C Kd.string w A xs.length xs) (hc : xs.length ≤ c) (hlen : xs.length ≤ 140737488355328)
    (hp : StrPred Tryd.prog g lb xs p w) (eg : ∀ args w, (callFunc g args).run Tryd.prog w = .ok (.enter g args) w) :
    Calls Tryd.prog 96 #[.slice A xs.length c, .func (.func g) #[] lb] w fun e w' => e = .returned (.int .i64 (idxFrom p xs 0)) ∧ Below w.heap.size w w' := by
  obtain ⟨R, hR⟩ : ∃ R, idxFrom p xs 0 = R := ⟨_, rfl⟩
  rw [hR]
  have hR' := Lib.hid hR
  have hr' := Lib.hid hr
  have hp' := Lib.hid hp
  clear hR hr hp
  go_enter Tryd.func96, Tryd.ntmps96
  go_wp2
  go_loopw [8] (fun vi wr => ∃ k : Nat, k ≤ xs.length ∧ vi = .int .i64 k ∧ Below w.heap.size w wr ∧ Hid (idxFrom p (xs.drop k) k = R)) (fun vi _ => xs.length - (intOf vi).toNat)
  case atStart => exact ⟨0, by omega, rfl, Below.refl _ _, hR'⟩
  case round =>
    clear hR'
    obtain ⟨k, hk, rfl, hB, hI⟩ := hrel
    by_cases hlt : k < xs.length
    · have hI2 := hI.out
      rw [List.drop_eq_getElem_cons hlt] at hI2
      clear hI
      obtain ⟨ad, rfl, hcell⟩ := str_at hr'.out hB k hlt
      have cS := hp'.out wr (xs[k]'hlt) (List.getElem_mem _) hB
      generalize xs[k]'hlt = x at hI2 hcell cS
      cases hpx : p x
      · rw [idxFrom_no hpx] at hI2
        rw [hpx] at cS
        have hI3 := Lib.hid hI2
        clear hI2 hpx
        go_wp2_with (go_at_fn g; refine cS.mono ?_; rintro e W' ⟨rfl, hbc⟩)
        go_roundw
        case rel => exact ⟨k + 1, by omega, by go_num, hB.trans (hbc.mono hB.size), hI3⟩
        case measure => simp [intOf]; omega
      · rw [idxFrom_yes hpx] at hI2
        rw [hpx] at cS
        have hI3 := Lib.hid hI2
        clear hI2 hpx
        go_wp2_with (go_at_fn g; refine cS.mono ?_; rintro e W' ⟨rfl, hbc⟩)
        go_ret
        exact ⟨by rw [← hI3.out]; rfl, hB.trans (hbc.mono hB.size)⟩
    · have hI2 := hI.out
      rw [List.drop_of_length_le (by omega)] at hI2
      have hI3 := Lib.hid hI2
      clear hI hI2
      go_wp2
      go_ret
      exact ⟨by rw [← hI3.out]; rfl, hB⟩
theorem strContainsFunc_calls (A : Option Addr) (c : Nat) (xs : List ByteArray) (g : Nat) (lb : Array Value) (p : ByteArray → Bool) (w : World) (hr : Kd.C Kd.string w A xs.length xs) (hc : xs.length ≤ c) (hlen : xs.length ≤ 140737488355328)
    (hp : StrPred Tryd.prog g lb xs p w) (eg : ∀ args w, (callFunc g args).run Tryd.prog w = .ok (.enter g args) w) :
    Calls Tryd.prog 79 #[.slice A xs.length c, .func (.func g) #[] lb] w fun e w' => e = .returned (.bool (xs.any p)) ∧ Below w.heap.size w w' := by
  have cI := strIndexFunc_calls A c xs g lb p w hr hc hlen hp eg
  rw [← idxFrom_any p xs 0]
  generalize idxFrom p xs 0 = i at cI ⊢
  clear hp hr
  go_enter Tryd.func79, Tryd.ntmps79
  go_wp2_with (go_at_call 96; refine cI.mono ?_; rintro e w' ⟨rfl, hb⟩)
  go_ret
  exact ⟨rfl, hb⟩
theorem named11_calls (n nm : ByteArray) (gf : Nat) (w : World) (hcell : w.cell? ⟨gf, 0, none⟩ = some (.string nm)) (hn : n.size ≤ 140737488355328) (hm : nm.size ≤ 140737488355328) :
    Calls Tryd.prog 80 #[.string n, .pointer (some ⟨gf, 0, none⟩)] w fun e w' => e = .returned (.bool (foldS n nm)) ∧ Below w.heap.size w w' := by
  go_enter Tryd.func80, Tryd.ntmps80
  go_wp2_with (go_at_call 81; refine (Fold_calls _ _ _ hn hm).mono ?_; rintro e w' ⟨rfl, hb⟩)
  go_ret
  exact ⟨rfl, hb⟩
def isNamed (names : List ByteArray) (f : S45) : Bool := names.any fun n => foldS n f.f0
theorem named1_calls (A : Option Addr) (c : Nat) (names : List ByteArray) (f : S45) (gn : Nat) (w : World) (hcell : w.cell? ⟨gn, 0, none⟩ = some (.slice A names.length c)) (hr : Kd.C Kd.string w A names.length names) (hc : names.length ≤ c) (hlen : names.length ≤ 140737488355328)
    (hn : ∀ n ∈ names, n.size ≤ 140737488355328) (hf : f.f0.size ≤ 140737488355328) :
    Calls Tryd.prog 78 #[.agg #[.string f.f0, .string f.f1], .pointer (some ⟨gn, 0, none⟩)] w fun e w' => e = .returned (.bool (isNamed names f)) ∧ Below w.heap.size w w' := by
  have cC : ∀ o, Calls Tryd.prog 79 #[.slice A names.length c, .func (.func 80) #[] #[.pointer (some ⟨w.heap.size, 0, none⟩)]] (w.alloc (.cells #[.string f.f0, .string f.f1] o)) fun e w' => e = .returned (.bool (isNamed names f)) ∧ Below (w.alloc (.cells #[.string f.f0, .string f.f1] o)).heap.size (w.alloc (.cells #[.string f.f0, .string f.f1] o)) w' := by
    intro o
    refine strContainsFunc_calls A c names _ _ (fun n => foldS n f.f0) _ (Kd.C_below hr ((Below.refl _ _).alloc (Nat.le_refl _) _)) hc hlen ?_ (enters_of Tryd.func80 (by kernel_rfl) rfl)
    intro W x hx hb
    have h0 : (w.alloc (.cells #[.string f.f0, .string f.f1] o)).cell? ⟨w.heap.size, 0, none⟩ = some (.string f.f0) := by rw [World.cell?_alloc_mark]; rfl
    exact named11_calls x f.f0 w.heap.size W ((hb.cell (p := ⟨w.heap.size, 0, none⟩) (by simp)).trans h0) (hn x hx) hf
  have hcell2 : ∀ o, (w.alloc o).cell? ⟨gn, 0, none⟩ = some (.slice A names.length c) := fun o => pw_cell_below ((Below.refl _ _).alloc (Nat.le_refl _) _) hcell
  clear hr hn
  go_enter Tryd.func78, Tryd.ntmps78
  go_wp2_with (go_at_call 79; refine (cC _).mono ?_; rintro e w' ⟨rfl, hb⟩)
  go_ret
  exact ⟨rfl, ((Below.refl _ _).alloc (Nat.le_refl _) _).trans (hb.mono (by simp))⟩
theorem named_calls (A : Option Addr) (n c : Nat) (w : World) :
    Calls Tryd.prog 58 #[.slice A n c] w fun e w' => e = .returned (.func (.func 78) #[] #[.pointer (some ⟨w.heap.size, 0, none⟩)]) ∧ w' = w.alloc (.cells #[.slice A n c] 49) := by
  go_enter Tryd.func58, Tryd.ntmps58
  go_wp2
  go_ret
  exact ⟨rfl, rfl⟩
theorem field_at {w W : World} {A : Option Addr} {xs : List S45} (h : Kd.C k45 w A xs.length xs) (hb : Below w.heap.size w W) (k : Nat) (hk : k < xs.length) :
    ∃ ad, A = some ad ∧ W.cell? (ad.add (k * 2)) = some (.string (xs[k]'hk).f0) ∧ W.cell? ⟨(ad.add (k * 2)).block, (ad.add (k * 2)).off + 1, none⟩ = some (.string (xs[k]'hk).f1) := by
  obtain ⟨ad, e, h0, h1⟩ := at_T45 h (k : Int) (by omega) (by omega)
  have e2 : rd_T45 xs (k : Int) = xs[k]'hk := by
    unfold rd_T45
    simp [List.getD_eq_getElem?_getD, hk]
  rw [e2] at h0 h1
  exact ⟨ad, e, pw_cell_below hb h0, pw_cell_below hb h1⟩
set_option maxHeartbeats 1000000 in
theorem fieldIndexFunc_calls (A : Option Addr) (c : Nat) (xs : List S45) (g : Nat) (lb : Array Value) (p : S45 → Bool) (w : World) (hr : Kd.C k45 w A xs.length xs) (hc : xs.length ≤ c) (hlen : xs.length ≤ 140737488355328)
    (hp : FieldPred Tryd.prog g lb xs p w) (eg : ∀ args w, (callFunc g args).run Tryd.prog w = .ok (.enter g args) w) :
    Calls Tryd.prog 84 #[.slice A xs.length c, .func (.func g) #[] lb] w fun e w' => e = .returned (.int .i64 (idxFrom p xs 0)) ∧ Below w.heap.size w w' := by
  obtain ⟨R, hR⟩ : ∃ R, idxFrom p xs 0 = R := ⟨_, rfl⟩
  rw [hR]
  have hR' := Lib.hid hR
  have hr' := Lib.hid hr
  have hp' := Lib.hid hp
  have hu := Tryd.underlying45
  clear hR hr hp
  go_enter Tryd.func84, Tryd.ntmps84
  go_wp2
  go_loopw [8] (fun vi wr => ∃ k : Nat, k ≤ xs.length ∧ vi = .int .i64 k ∧ Below w.heap.size w wr ∧ Hid (idxFrom p (xs.drop k) k = R)) (fun vi _ => xs.length - (intOf vi).toNat)
  case atStart => exact ⟨0, by omega, rfl, Below.refl _ _, hR'⟩
  case round =>
    clear hR'
    obtain ⟨k, hk, rfl, hB, hI⟩ := hrel
    by_cases hlt : k < xs.length
    · have hI2 := hI.out
      rw [List.drop_eq_getElem_cons hlt] at hI2
      clear hI
      obtain ⟨ad, rfl, hcell0, hcell1⟩ := field_at hr'.out hB k hlt
      have cS := hp'.out wr (xs[k]'hlt) (List.getElem_mem _) hB
      generalize xs[k]'hlt = x at hI2 hcell0 hcell1 cS
      cases hpx : p x
      · rw [idxFrom_no hpx] at hI2
        rw [hpx] at cS
        have hI3 := Lib.hid hI2
        clear hI2 hpx
        go_wp2_with (go_at_fn g; refine cS.mono ?_; rintro e W' ⟨rfl, hbc⟩)

        go_roundw
        case rel => exact ⟨k + 1, by omega, by go_num, hB.trans (hbc.mono hB.size), hI3⟩
        case measure => simp [intOf]; omega
      · rw [idxFrom_yes hpx] at hI2
        rw [hpx] at cS
        have hI3 := Lib.hid hI2
        clear hI2 hpx
        go_wp2_with (go_at_fn g; refine cS.mono ?_; rintro e W' ⟨rfl, hbc⟩)
        go_ret
        exact ⟨by rw [← hI3.out]; rfl, hB.trans (hbc.mono hB.size)⟩
    · have hI2 := hI.out
      rw [List.drop_of_length_le (by omega)] at hI2
      have hI3 := Lib.hid hI2
      clear hI hI2
      go_wp2
      go_ret
      exact ⟨by rw [← hI3.out]; rfl, hB⟩
end Go.Proofs.YtdbokcgjdkbknaaDoor.Hand
