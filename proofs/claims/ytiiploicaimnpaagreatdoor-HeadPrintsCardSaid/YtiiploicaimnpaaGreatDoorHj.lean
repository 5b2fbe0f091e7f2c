/- Hand walk: head.Print. | Hand walks: slices.ContainsFunc at fields; head.Right. | Hand walk: abutmentlaw22.lives. -/
import Derived.Test.YtiiploicaimnpaaGreatDoorHs
import Derived.Test.YtiiploicaimnpaaGreatDoorHb
import Derived.Shelf.Abstract
import Derived.BigCall
import Derived.Test.YtiiploicaimnpaaGreatDoorHa
import Derived.BigGuard
import Derived.Lib.Hide
import Derived.Test.YtiiploicaimnpaaGreatDoorHi
namespace Go.Proofs.YtiiploicaimnpaaGreatDoor.Hand
open Go.RowKit Go.Shelf Go.Proofs.YtiiploicaimnpaaGreatDoor.PTr Go.Proofs.YtiiploicaimnpaaGreatDoorW.PrintWords Go.Proofs.YtiiploicaimnpaaGreatDoorW.PrintLast Go.Proofs.YtiiploicaimnpaaGreatDoorW.PrintMore
set_option linter.unusedVariables false
set_option linter.unusedSimpArgs false
namespace Pr
theorem field_at {w W : World} {A : Option Addr} {xs : List S85} (h : Kd.C k85 w A xs.length xs) (hb : Below w.heap.size w W) (k : Nat) (hk : k < xs.length) :
    ∃ ad, A = some ad ∧ W.cell? (ad.add (k * 2)) = some (.string (xs[k]'hk).f0) ∧ W.cell? ⟨(ad.add (k * 2)).block, (ad.add (k * 2)).off + 1, none⟩ = some (.string (xs[k]'hk).f1) := by
  obtain ⟨ad, e, h0, h1⟩ := at_T85 h (k : Int) (by omega) (by omega)
  have e2 : rd_T85 xs (k : Int) = xs[k]'hk := by
    unfold rd_T85
    simp [List.getD_eq_getElem?_getD, hk]
  rw [e2] at h0 h1
  exact ⟨ad, e, pw_cell_below hb h0, pw_cell_below hb h1⟩
theorem byteCells_app (a b : List UInt8) : Lib.byteCells (a ++ b) = Lib.byteCells a ++ Lib.byteCells b := by simp [Lib.byteCells]
theorem isB_below {B b : Nat} {bs : List Value} {W W' : World} (hs : Lib.IsBuilder 90 5 B b bs W) (hb : Below W.heap.size W W') : Lib.IsBuilder 90 5 B b bs W' := by
  have key : ∀ p, Lib.BuilderAt 90 5 B b p bs W → Lib.BuilderAt 90 5 B b p bs W' := by
    rintro p ⟨hB, v, hbk, hown, hne⟩
    exact ⟨hB, v, blk_below hbk hb, pw_own_below hown hb, hne⟩
  exact hs.elim (fun h => .inl (key _ h)) (fun h => .inr (key _ h))
def lineB (n v : ByteArray) : ByteArray := if v.toList = ([] : List UInt8) then n ++ ⟨#[58]⟩ else (n ++ ⟨#[58, 32]⟩) ++ v
theorem sz1 : (⟨#[58]⟩ : ByteArray).size = 1 := rfl
theorem sz2 : (⟨#[58, 32]⟩ : ByteArray).size = 2 := rfl
theorem lineB_size (n v : ByteArray) : (lineB n v).size ≤ n.size + 2 + v.size := by
  unfold lineB
  split
  · rw [ByteArray.size_append, sz1]; omega
  · rw [ByteArray.size_append, ByteArray.size_append, sz2]; omega
theorem fline_s (n v : ByteArray) (h : n.size + v.size ≤ 1000000000000) : field_Line.f n v = some (lineB n v) := by
  unfold field_Line.f lineB
  by_cases h : v.toList = ([] : List UInt8)
  · rw [if_pos h, if_pos h, if_pos (by omega)]
  · rw [if_neg h, if_neg h, if_pos (by omega), if_pos (by rw [ByteArray.size_append, sz2]; omega)]
def lnL (x : S85) : List UInt8 := (lineB x.f0 x.f1 ++ ⟨#[13, 10]⟩).data.toList
def flsL (l : List S85) : List UInt8 := (l.map lnL).flatten
theorem flsL_snoc (l : List S85) (x : S85) : flsL (l ++ [x]) = flsL l ++ lnL x := by simp [flsL]
theorem lnL_len (x : S85) : (lnL x).length ≤ x.f0.size + 4 + x.f1.size := by
  have h := lineB_size x.f0 x.f1
  have h2 : (lnL x).length = (lineB x.f0 x.f1).size + 2 := by
    unfold lnL
    rw [← Lib.size_eq, ByteArray.size_append]
    rfl
  omega
theorem flsL_len : ∀ l : List S85, (∀ x ∈ l, x.f0.size ≤ 1000000 ∧ x.f1.size ≤ 1000000) → (flsL l).length ≤ l.length * 2000004
  | [], _ => by simp [flsL]
  | x :: l, h => by
    have h1 := lnL_len x
    have h2 := h x (by simp)
    have h3 := flsL_len l (fun y hy => h y (by simp [hy]))
    have h4 : flsL (x :: l) = lnL x ++ flsL l := by simp [flsL]
    rw [h4, List.length_append, List.length_cons]
    omega
def printL (L : ByteArray) (l : List S85) : List UInt8 := (L ++ ⟨#[13, 10]⟩).data.toList ++ flsL l ++ [13, 10]
def tamB (l : List S85) : Bool := l.all fun x => decide (x.f0.size ≤ 1000000) && decide (x.f1.size ≤ 1000000)
theorem tam_of {l : List S85} (h : tamB l = true) : ∀ x ∈ l, x.f0.size ≤ 1000000 ∧ x.f1.size ≤ 1000000 := fun x hx => by
  have := List.all_eq_true.1 h x hx
  rw [Bool.and_eq_true] at this
  exact ⟨of_decide_eq_true this.1, of_decide_eq_true this.2⟩
set_option maxHeartbeats 2000000 in
set_option maxRecDepth 100000 in
theorem Print_calls (m t : ByteArray) (mi st : Int) (r : ByteArray) (A : Option Addr) (c : Nat) (l : List S85) (L : ByteArray) (w : World) (hr : Kd.C k85 w A l.length l) (hc : l.length ≤ c) (hL : start_Line.f m t mi st r l = some L) (hLz : L.size ≤ 1000000000) (hl : l.length ≤ 100000) (hx : ∀ x ∈ l, x.f0.size ≤ 1000000 ∧ x.f1.size ≤ 1000000) :
    Calls Tryz.prog 21 #[.agg #[.string m, .string t, .int .i64 mi, .int .i64 st, .string r, .slice A l.length c]] w fun e w' => e = .returned (.string ⟨(printL L l).toArray⟩) ∧ Below w.heap.size w w' := by
  have cL := fun W h => start_Line.calls m t mi st r A c l L W h hc hL
  have hr' := Lib.hid hr
  have hx' := Lib.hid hx
  have eg := enters_of Tryz.func48 (by kernel_rfl) rfl
  have z2 : (⟨#[13, 10]⟩ : ByteArray).size = 2 := rfl
  have hLs : (L ++ ⟨#[13, 10]⟩).size = L.size + 2 := by rw [ByteArray.size_append, z2]
  have hb0 : ∀ o o2, Below w.heap.size w ((w.alloc o).alloc o2) := fun o o2 => below_alloc (below_alloc (Below.refl _ _) _) _
  have hbo : Below w.heap.size w (w.alloc (.cells #[.string m, .string t, .int .i64 mi, .int .i64 st, .string r, .slice A l.length c] 29)) := below_alloc (Below.refl _ _) _
  have hfresh := Lib.fresh_isBuilder 90 5 (w.alloc (.cells #[.string m, .string t, .int .i64 mi, .int .i64 st, .string r, .slice A l.length c] 29))
  rw [World.size_alloc] at hfresh
  obtain ⟨R, hR⟩ : ∃ R, printL L l = R := ⟨_, rfl⟩
  rw [hR]
  have hR' := Lib.hid hR
  clear hL hr hx hR
  go_enter Tryz.func21, Tryz.ntmps21
  go_wp2_with (go_at_call 50; refine (cL _ (Kd.C_below hr'.out (hb0 _ _))).mono ?_; rintro e W1 ⟨rfl, hb1⟩; have hB1 := (hb0 (.cells #[.string m, .string t, .int .i64 mi, .int .i64 st, .string r, .slice A l.length c] 29) (.cells #[.pointer none, .slice none 0 0] 90)).trans (hb1.mono (hb0 _ _).size); have hI1 := isB_below hfresh hb1; have hh1 := blk_below (blk_alloc (blk_new w (.cells #[.string m, .string t, .int .i64 mi, .int .i64 st, .string r, .slice A l.length c] 29)) (.cells #[.pointer none, .slice none 0 0] 90)) hb1; have hs1 := hb1.size; rw [World.size_alloc, World.size_alloc] at hs1; clear hb1 cL hfresh hb0 hbo)
  have hnz : ([] : List Value).length + (L ++ ⟨#[13, 10]⟩).size ≤ 140737488355328 := by rw [hLs]; simp only [List.length_nil]; omega
  have cw := Bld.WriteString (w.heap.size + 1) (w.heap.size + 1) [] (L ++ ⟨#[13, 10]⟩) W1 hI1 hnz (by omega)
  refine cw.mono ?_
  rintro e W2 ⟨rfl, hat, hb2, hk2⟩
  clear cw hnz
  have c5 : W2.cell? ⟨w.heap.size, 5, none⟩ = some (.slice A l.length c) := blk_cell ((hb2.block w.heap.size (by omega)).trans hh1) 5
  have hJ0 : Hid (Lib.IsBuilder 90 5 (w.heap.size + 1) (w.heap.size + 1) (Lib.byteCells ((L ++ ⟨#[13, 10]⟩).data.toList ++ flsL (l.take 0))) W2) := Lib.hid (by
    rw [List.take_zero]
    have e0 : flsL ([] : List S85) = [] := rfl
    rw [e0, List.append_nil, ← Lib.strCells_eq]
    exact .inr hat)
  have hK0 : Hid (Below w.heap.size w W2) := Lib.hid (hB1.trans (hb2.mono (by omega)))
  clear hI1 hB1 hh1 hat hb2 hk2
  go_wp2
  go_loopw [14] (fun vi wr => ∃ k : Nat, k ≤ l.length ∧ vi = .int .i64 k ∧ Hid (Lib.IsBuilder 90 5 (w.heap.size + 1) (w.heap.size + 1) (Lib.byteCells ((L ++ ⟨#[13, 10]⟩).data.toList ++ flsL (l.take k))) wr) ∧ Hid (Below w.heap.size w wr)) (fun vi _ => l.length - (intOf vi).toNat)
  case atStart => exact ⟨0, Nat.zero_le _, rfl, hJ0, hK0⟩
  case round =>
    clear hJ0 hK0 c5
    obtain ⟨k, hk, rfl, hJ, hK⟩ := hrel
    have hbw : w.heap.size + 1 ≤ wr.heap.size := by rcases hJ.out with h | h <;> exact Nat.le_of_lt h.lt
    have hlen : ((L ++ ⟨#[13, 10]⟩).data.toList ++ flsL (l.take k)).length ≤ 300000000000 := by
      have h1 := flsL_len (l.take k) (fun x hx => hx'.out x (List.mem_of_mem_take hx))
      have h2 : (l.take k).length ≤ 100000 := by rw [List.length_take]; omega
      have h3 : (L ++ ⟨#[13, 10]⟩).data.toList.length = L.size + 2 := by rw [← Lib.size_eq, hLs]
      rw [List.length_append, h3]
      omega
    by_cases hlt : k < l.length
    · have hsn : flsL (l.take (k + 1)) = flsL (l.take k) ++ lnL (l[k]'hlt) := by rw [List.take_succ_eq_append_getElem hlt, flsL_snoc]
      obtain ⟨ad, rfl, hcell0, hcell1⟩ := field_at hr'.out hK.out k hlt
      have hxb := hx'.out (l[k]'hlt) (List.getElem_mem _)
      have cF := fun W => field_Line.calls (l[k]'hlt).f0 (l[k]'hlt).f1 _ W (fline_s _ _ (by omega))
      have hln := lnL_len (l[k]'hlt)
      have hl2 : lnL (l[k]'hlt) = (lineB (l[k]'hlt).f0 (l[k]'hlt).f1 ++ ⟨#[13, 10]⟩).data.toList := rfl
      have hl3 : (lnL (l[k]'hlt)).length = (lineB (l[k]'hlt).f0 (l[k]'hlt).f1 ++ ⟨#[13, 10]⟩).size := by rw [hl2, ← Lib.size_eq]
      have hl4 := lineB_size (l[k]'hlt).f0 (l[k]'hlt).f1
      rw [hl3] at hln
      rw [hl2] at hsn
      generalize lineB (l[k]'hlt).f0 (l[k]'hlt).f1 = y at *
      generalize (l[k]'hlt).f0 = x0 at *
      generalize (l[k]'hlt).f1 = x1 at *
      have hwk : wrap64 ((k : Int) + 1) = ((k + 1 : Nat) : Int) := by rw [IntWalk.wrap64_in _ ⟨by omega, by omega⟩]; omega
      obtain ⟨bs, hbs⟩ : ∃ bs, (L ++ ⟨#[13, 10]⟩).data.toList ++ flsL (l.take k) = bs := ⟨_, rfl⟩
      rw [hbs] at hJ hlen
      have hbl : (Lib.byteCells bs).length + (y ++ ⟨#[13, 10]⟩).size ≤ 140737488355328 := by rw [Lib.byteCells_length]; omega
      have hyz : (y ++ ⟨#[13, 10]⟩).size = y.size + 2 := by rw [ByteArray.size_append, z2]
      have hnew : Hid ((L ++ ⟨#[13, 10]⟩).data.toList ++ flsL (l.take (k + 1)) = bs ++ (y ++ ⟨#[13, 10]⟩).data.toList) := Lib.hid (by rw [hsn, ← List.append_assoc, hbs])
      clear hsn hl2 hl3 hbs
      go_wp2_with fail
      refine (cF _).mono ?_
      rintro e W3 ⟨rfl, hb3⟩
      have hJ3 := isB_below (isB_below hJ.out (below_alloc (Below.refl _ _) _)) hb3
      have hs3 := hb3.size
      rw [World.size_alloc] at hs3
      have hK3 : Below w.heap.size w W3 := (below_alloc hK.out _).trans (hb3.mono (by rw [World.size_alloc]; have := hK.out.size; omega))
      clear hb3
      have cw := Bld.WriteString (w.heap.size + 1) (w.heap.size + 1) (Lib.byteCells bs) (y ++ ⟨#[13, 10]⟩) W3 hJ3 hbl (by omega)
      have cwH := Lib.hid cw
      have hyb : y.size ≤ 3000000 := by omega
      clear cw cF hbl hyz hlen hln hl4 hxb hcell0 hcell1
      have hK3H := Lib.hid hK3
      clear hJ3 hK3
      go_wp2_with (go_at_call 49; refine cwH.out.mono ?_; rintro e W4 ⟨rfl, hat, hb4, hk4⟩; have hatH := Lib.hid hat; have hb4H := Lib.hid hb4; clear hat hb4 hk4 cwH)
      go_roundw
      case rel =>
        refine ⟨k + 1, by omega, rfl, Lib.hid ?_, Lib.hid (hK3H.out.trans (hb4H.out.mono (by omega)))⟩
        rw [hnew.out]
        have h4 := hatH.out
        rw [Lib.strCells_eq, ← byteCells_app] at h4
        exact .inr h4
      case measure => simp [intOf]; omega
    · have hkl : k = l.length := by omega
      rw [hkl, List.take_length] at hJ hlen
      have hpr : R = ((L ++ ⟨#[13, 10]⟩).data.toList ++ flsL l) ++ [13, 10] := by rw [← hR'.out]; rfl
      generalize (L ++ ⟨#[13, 10]⟩).data.toList ++ flsL l = bs at hJ hlen hpr
      have hprH := Lib.hid hpr
      have cw := Bld.WriteString (w.heap.size + 1) (w.heap.size + 1) (Lib.byteCells bs) ⟨#[13, 10]⟩ wr hJ.out (by rw [Lib.byteCells_length, z2]; omega) hbw
      have cwH := Lib.hid cw
      clear cw
      have hn : ¬ (k : Int) < (l.length : Int) := by omega
      clear hkl hpr
      go_wp2_with (go_at_call 49; refine cwH.out.mono ?_; rintro e W4 ⟨rfl, hat, hb4, hk4⟩; have hatH := Lib.hid hat; have hb4H := Lib.hid hb4; clear hat hb4 hk4 cwH)
      have h4 := hatH.out
      have e2 : Lib.strCells ⟨#[13, 10]⟩ = Lib.byteCells [13, 10] := Lib.strCells_eq _
      rw [e2, ← byteCells_app] at h4
      have cs0 := Tryz.Builder_String_any (w.heap.size + 1) (w.heap.size + 1) (bs ++ [13, 10]) W4 (.inr h4) (by have := hb4H.out.size; omega)
      have cs := Lib.hid cs0
      clear h4 e2 cs0
      go_wp2_with (go_at_call 51; refine cs.out.mono ?_; rintro e W5 ⟨rfl, hb5⟩)
      go_ret
      exact ⟨by rw [hprH.out]; rfl, (hK.out.trans (hb4H.out.mono (by omega))).trans (hb5.mono (by omega))⟩
def head_Print.f (a0_0 : ByteArray) (a0_1 : ByteArray) (a0_2 : Int) (a0_3 : Int) (a0_4 : ByteArray) (l0_5 : List S85) : Option ByteArray :=
  (start_Line.f a0_0 a0_1 a0_2 a0_3 a0_4 l0_5).bind fun L => if L.size ≤ 1000000000 ∧ l0_5.length ≤ 100000 ∧ tamB l0_5 = true then some ⟨(printL L l0_5).toArray⟩ else none
end Pr
def head_Print.f (a0_0 : ByteArray) (a0_1 : ByteArray) (a0_2 : Int) (a0_3 : Int) (a0_4 : ByteArray) (l0_5 : List S85) : Option ByteArray := Pr.head_Print.f a0_0 a0_1 a0_2 a0_3 a0_4 l0_5
theorem head_Print.calls (a0_0 : ByteArray) (a0_1 : ByteArray) (a0_2 : Int) (a0_3 : Int) (a0_4 : ByteArray) (A0_5 : Option Addr) (c0_5 : Nat) (l0_5 : List S85) (r : ByteArray) (w : World) (hr0_5 : Kd.C k85 w A0_5 l0_5.length l0_5) (hc0_5 : l0_5.length ≤ c0_5) (h : head_Print.f a0_0 a0_1 a0_2 a0_3 a0_4 l0_5 = some r) :
    Calls Tryz.prog 21 #[.agg #[.string a0_0, .string a0_1, .int .i64 a0_2, .int .i64 a0_3, .string a0_4, .slice A0_5 l0_5.length c0_5]] w fun e w' => e = .returned (.string r) ∧ Below w.heap.size w w' := by
  unfold head_Print.f Pr.head_Print.f at h
  obtain ⟨L, hL, h⟩ := Option.bind_eq_some_iff.1 h
  split at h
  · rename_i hc
    cases h
    exact Pr.Print_calls a0_0 a0_1 a0_2 a0_3 a0_4 A0_5 c0_5 l0_5 L w hr0_5 hc0_5 hL hc.1 hc.2.1 (Pr.tam_of hc.2.2)
  · cases h
end Go.Proofs.YtiiploicaimnpaaGreatDoor.Hand
namespace Go.Proofs.YtiiploicaimnpaaGreatDoor.Hand
open Go.RowKit Go.Proofs.YtiiploicaimnpaaGreatDoor.PTr Go.Proofs.YtiiploicaimnpaaGreatDoorW.PrintWords Go.Proofs.YtiiploicaimnpaaGreatDoorW.PrintLast Go.Proofs.YtiiploicaimnpaaGreatDoorW.PrintMore
set_option linter.unusedVariables false
set_option linter.unusedSimpArgs false
namespace Fp
def idxFrom {α : Type} (p : α → Bool) : List α → Nat → Int
  | [], _ => -1
  | x :: l, k => if p x = true then k else idxFrom p l (k + 1)
theorem idxFrom_yes {α : Type} {p : α → Bool} {x : α} {l : List α} {k : Nat} (h : p x = true) : idxFrom p (x :: l) k = k := by rw [idxFrom, if_pos h]
theorem idxFrom_no {α : Type} {p : α → Bool} {x : α} {l : List α} {k : Nat} (h : p x = false) : idxFrom p (x :: l) k = idxFrom p l (k + 1) := by rw [idxFrom, if_neg (by simp [h])]
theorem idxFrom_any {α : Type} (p : α → Bool) : ∀ (l : List α) (k : Nat), decide (0 ≤ idxFrom p l k) = l.any p
  | [], _ => rfl
  | x :: l, k => by
    cases h : p x
    · rw [idxFrom_no h, idxFrom_any p l (k + 1), List.any_cons, h, Bool.false_or]
    · rw [idxFrom_yes h, List.any_cons, h, Bool.true_or]
      simp
def FieldPred (P : Program) (g : Nat) (lb : Array Value) (xs : List S85) (p : S85 → Bool) (w : World) : Prop :=
  ∀ (W : World) (x : S85), x ∈ xs → Below w.heap.size w W → Calls P g (#[.agg #[.string x.f0, .string x.f1]] ++ lb) W fun e w' => e = .returned (.bool (p x)) ∧ Below W.heap.size W w'
theorem field_at {w W : World} {A : Option Addr} {xs : List S85} (h : Kd.C k85 w A xs.length xs) (hb : Below w.heap.size w W) (k : Nat) (hk : k < xs.length) :
    ∃ ad, A = some ad ∧ W.cell? (ad.add (k * 2)) = some (.string (xs[k]'hk).f0) ∧ W.cell? ⟨(ad.add (k * 2)).block, (ad.add (k * 2)).off + 1, none⟩ = some (.string (xs[k]'hk).f1) := by
  obtain ⟨ad, e, h0, h1⟩ := at_T85 h (k : Int) (by omega) (by omega)
  have e2 : rd_T85 xs (k : Int) = xs[k]'hk := by
    unfold rd_T85
    simp [List.getD_eq_getElem?_getD, hk]
  rw [e2] at h0 h1
  exact ⟨ad, e, pw_cell_below hb h0, pw_cell_below hb h1⟩
set_option maxHeartbeats 1000000 in
theorem fieldIndexFunc_calls (A : Option Addr) (c : Nat) (xs : List S85) (g : Nat) (lb : Array Value) (p : S85 → Bool) (w : World) (hr : Kd.C k85 w A xs.length xs) (hc : xs.length ≤ c) (hlen : xs.length ≤ 140737488355328)
    (hp : FieldPred Tryz.prog g lb xs p w) (eg : ∀ args w, (callFunc g args).run Tryz.prog w = .ok (.enter g args) w) :
    Calls Tryz.prog 103 #[.slice A xs.length c, .func (.func g) #[] lb] w fun e w' => e = .returned (.int .i64 (idxFrom p xs 0)) ∧ Below w.heap.size w w' := by
  obtain ⟨R, hR⟩ : ∃ R, idxFrom p xs 0 = R := ⟨_, rfl⟩
  rw [hR]
  have hR' := Lib.hid hR
  have hr' := Lib.hid hr
  have hp' := Lib.hid hp
  have hu := Tryz.underlying85
  clear hR hr hp
  go_enter Tryz.func103, Tryz.ntmps103
  go_wp2
  go_loopw [8] (fun vi wr => ∃ k : Nat, k ≤ xs.length ∧ vi = .int .i64 k ∧ Below w.heap.size w wr ∧ Hid (idxFrom p (xs.drop k) k = R)) (fun vi _ => xs.length - (intOf vi).toNat)
  case atStart => exact ⟨0, by omega, rfl, Below.refl _ _, hR'⟩
  case round =>
    clear hR'
    obtain ⟨k, hk, rfl, hB, hI⟩ := hrel
    by_cases hlt : k < xs.length
    · have hI2 := hI.out
      rw [List.drop_eq_getElem_cons hlt] at hI2
      clear hI
      obtain ⟨ad, rfl, hcell0, hcell1⟩ := field_at hr'.out hB k hlt
      have cS := hp'.out wr (xs[k]'hlt) (List.getElem_mem _) hB
      generalize xs[k]'hlt = x at hI2 hcell0 hcell1 cS
      cases hpx : p x
      · rw [idxFrom_no hpx] at hI2
        rw [hpx] at cS
        have hI3 := Lib.hid hI2
        clear hI2 hpx
        go_wp2_with (go_at_fn g; refine cS.mono ?_; rintro e W' ⟨rfl, hbc⟩)
        go_roundw
        case rel => exact ⟨k + 1, by omega, by go_num, hB.trans (hbc.mono hB.size), hI3⟩
        case measure => simp [intOf]; omega
      · rw [idxFrom_yes hpx] at hI2
        rw [hpx] at cS
        have hI3 := Lib.hid hI2
        clear hI2 hpx
        go_wp2_with (go_at_fn g; refine cS.mono ?_; rintro e W' ⟨rfl, hbc⟩)
        go_ret
        exact ⟨by rw [← hI3.out]; rfl, hB.trans (hbc.mono hB.size)⟩
    · have hI2 := hI.out
      rw [List.drop_of_length_le (by omega)] at hI2
      have hI3 := Lib.hid hI2
      clear hI hI2
      go_wp2
      go_ret
      exact ⟨by rw [← hI3.out]; rfl, hB⟩
theorem fieldContainsFunc_calls (A : Option Addr) (c : Nat) (xs : List S85) (g : Nat) (lb : Array Value) (p : S85 → Bool) (w : World) (hr : Kd.C k85 w A xs.length xs) (hc : xs.length ≤ c) (hlen : xs.length ≤ 140737488355328)
    (hp : FieldPred Tryz.prog g lb xs p w) (eg : ∀ args w, (callFunc g args).run Tryz.prog w = .ok (.enter g args) w) :
    Calls Tryz.prog 58 #[.slice A xs.length c, .func (.func g) #[] lb] w fun e w' => e = .returned (.bool (xs.any p)) ∧ Below w.heap.size w w' := by
  have cI := fieldIndexFunc_calls A c xs g lb p w hr hc hlen hp eg
  rw [← idxFrom_any p xs 0]
  generalize idxFrom p xs 0 = i at cI ⊢
  clear hp hr
  go_enter Tryz.func58, Tryz.ntmps58
  go_wp2_with (go_at_call 103; refine cI.mono ?_; rintro e w' ⟨rfl, hb⟩)
  go_ret
  exact ⟨rfl, hb⟩
end Fp
theorem Ev.at_pos {α : Type} {c : Prop} [Decidable c] {g f : Nat → Option α} {r : α} (h : c) (e : Ev g r) : Ev (fun k => if c then g k else f k) r := Ev.congr (fun k => if_pos h) e
theorem Ev.at_neg {α : Type} {c : Prop} [Decidable c] {g f : Nat → Option α} {r : α} (h : ¬ c) (e : Ev f r) : Ev (fun k => if c then g k else f k) r := Ev.congr (fun k => if_neg h) e
def rightS (n v : ByteArray) : Bool := Oct.tokenS n && (Oct.valueS v && ((trimS v).toList == v.toList))
theorem right_s (n v : ByteArray) (hv : v.size ≤ 140737488351232) : Ev (fun k => field_Right.f k n v) (rightS n v) := by
  unfold field_Right.f rightS octet_Token.f octet_Value.f
  simp only [Option.bind_some]
  cases h1 : Oct.tokenS n
  · exact Ev.at_neg (by simp) (Ev.now _)
  · refine Ev.at_pos rfl ?_
    cases h2 : Oct.valueS v
    · exact Ev.at_neg (by simp) (Ev.now _)
    · refine Ev.at_pos rfl ?_
      exact Ev.bind (f := fun _ t111 => some (t111.toList == v.toList)) (otrim_s v hv) (Ev.now _)
theorem Right1_calls (n v : ByteArray) (hv : v.size ≤ 140737488351232) (W : World) :
    Calls Tryz.prog 54 #[.agg #[.string n, .string v]] W fun e w' => e = .returned (.bool (!rightS n v)) ∧ Below W.heap.size W w' := by
  obtain ⟨k, hk⟩ := (right_s n v hv).rounds
  have cR := fun W => field_Right.calls k n v _ W hk
  generalize rightS n v = r at *
  go_enter Tryz.func54, Tryz.ntmps54
  go_wp2_with (go_at_call 55; refine (cR _).mono ?_; rintro e W1 ⟨rfl, hb1⟩)
  go_ret
  exact ⟨rfl, (below_alloc (Below.refl _ _) _).trans (hb1.mono (by rw [World.size_alloc]; omega))⟩
def anyW2 (l : List S85) : Bool := l.any fun x => !rightS x.f0 x.f1
set_option maxHeartbeats 2000000 in
set_option maxRecDepth 100000 in
theorem Right_calls (m t : ByteArray) (mi st : Int) (r : ByteArray) (A : Option Addr) (c : Nat) (l : List S85) (b1 b2 : Bool) (w : World) (hr : Kd.C k85 w A l.length l) (hc : l.length ≤ c) (hl : l.length ≤ 100000) (hx : ∀ x ∈ l, x.f1.size ≤ 1000000)
    (h1 : head_request.f m t mi st r l = some b1) (h2 : head_response.f m t mi st r l = some b2) :
    Calls Tryz.prog 23 #[.agg #[.string m, .string t, .int .i64 mi, .int .i64 st, .string r, .slice A l.length c]] w fun e w' => e = .returned (.bool ((b1 || b2) && ((mi == 0 || mi == 1) && !anyW2 l))) ∧ Below w.heap.size w w' := by
  have c1 := fun W h => head_request.calls m t mi st r A c l b1 W h hc h1
  have c2 := fun W h => head_response.calls m t mi st r A c l b2 W h hc h2
  have eg := enters_of Tryz.func54 (by kernel_rfl) rfl
  have c3 : ∀ W, Below w.heap.size w W → Calls Tryz.prog 58 #[.slice A l.length c, .func (.func 54) #[] #[]] W fun e w' => e = .returned (.bool (anyW2 l)) ∧ Below W.heap.size W w' := fun W hb =>
    Fp.fieldContainsFunc_calls A c l 54 #[] _ W (Kd.C_below hr hb) hc (by omega) (fun W2 x hm _ => by simpa using Right1_calls x.f0 x.f1 (by have := hx x hm; omega) W2) eg
  have hr' := Lib.hid hr
  have hb0 := below_alloc (Below.refl w.heap.size w) (.cells #[.string m, .string t, .int .i64 mi, .int .i64 st, .string r, .slice A l.length c] 29)
  have hbk := blk_new w (.cells #[.string m, .string t, .int .i64 mi, .int .i64 st, .string r, .slice A l.length c] 29)
  generalize anyW2 l = aw at c3 ⊢
  have h3 := Lib.hid c3
  have h0H := Lib.hid hb0
  have hkH := Lib.hid hbk
  clear hr hx h1 h2 c3 hb0 hbk
  have key : ∀ (e0 e1 : Bool), (mi == 0) = e0 → (mi == 1) = e1 → Calls Tryz.prog 23 #[.agg #[.string m, .string t, .int .i64 mi, .int .i64 st, .string r, .slice A l.length c]] w fun e w' => e = .returned (.bool ((b1 || b2) && ((e0 || e1) && !aw))) ∧ Below w.heap.size w w' := by
    intro e0 e1 he0 he1
    cases b1 <;> cases b2 <;> cases e0 <;> cases e1
    all_goals
      go_enter Tryz.func23, Tryz.ntmps23
      go_wp2_with (first
        | (go_at_call 56; refine (c1 _ (Kd.C_below hr'.out h0H.out)).mono ?_; rintro e W1 ⟨rfl, hb1⟩; have hB := h0H.out.trans (hb1.mono h0H.out.size); have hk := blk_below hkH.out hb1; have q0 := blk_cell hk 0; have q1 := blk_cell hk 1; have q2 := blk_cell hk 2; have q3 := blk_cell hk 3; have q4 := blk_cell hk 4; have q5 := blk_cell hk 5; simp at q0 q1 q2 q3 q4 q5; have hBH := Lib.hid hB; have hk2 := Lib.hid hk; clear hB hk hb1)
        | (go_at_call 57; refine (c2 _ (Kd.C_below hr'.out hBH.out)).mono ?_; rintro e W2 ⟨rfl, hb2⟩; have hB2 := hBH.out.trans (hb2.mono hBH.out.size); have hk := blk_below hk2.out hb2; have r2 := blk_cell hk 2; have r5 := blk_cell hk 5; simp at r2 r5; have hBH := Lib.hid hB2; clear hB2 hk hb2)
        | (go_at_call 58; refine (h3.out _ hBH.out).mono ?_; rintro e W3 ⟨rfl, hb3⟩; have hB3 := hBH.out.trans (hb3.mono hBH.out.size); have hBH := Lib.hid hB3; clear hB3 hb3))
      go_ret
      exact ⟨by simp, hBH.out⟩
  exact key _ _ rfl rfl
def tamR (l : List S85) : Bool := l.all fun x => decide (x.f1.size ≤ 1000000)
theorem tamR_of {l : List S85} (h : tamR l = true) : ∀ x ∈ l, x.f1.size ≤ 1000000 := fun x hx => of_decide_eq_true (List.all_eq_true.1 h x hx)
def head_Right.f (a0_0 : ByteArray) (a0_1 : ByteArray) (a0_2 : Int) (a0_3 : Int) (a0_4 : ByteArray) (l0_5 : List S85) : Option Bool :=
  (head_request.f a0_0 a0_1 a0_2 a0_3 a0_4 l0_5).bind fun b1 => (head_response.f a0_0 a0_1 a0_2 a0_3 a0_4 l0_5).bind fun b2 => if l0_5.length ≤ 100000 ∧ tamR l0_5 = true then some ((b1 || b2) && ((a0_2 == 0 || a0_2 == 1) && !anyW2 l0_5)) else none
theorem head_Right.calls (a0_0 : ByteArray) (a0_1 : ByteArray) (a0_2 : Int) (a0_3 : Int) (a0_4 : ByteArray) (A0_5 : Option Addr) (c0_5 : Nat) (l0_5 : List S85) (r : Bool) (w : World) (hr0_5 : Kd.C k85 w A0_5 l0_5.length l0_5) (hc0_5 : l0_5.length ≤ c0_5) (h : head_Right.f a0_0 a0_1 a0_2 a0_3 a0_4 l0_5 = some r) :
    Calls Tryz.prog 23 #[.agg #[.string a0_0, .string a0_1, .int .i64 a0_2, .int .i64 a0_3, .string a0_4, .slice A0_5 l0_5.length c0_5]] w fun e w' => e = .returned (.bool r) ∧ Below w.heap.size w w' := by
  unfold head_Right.f at h
  obtain ⟨b1, h1, h⟩ := Option.bind_eq_some_iff.1 h
  obtain ⟨b2, h2, h⟩ := Option.bind_eq_some_iff.1 h
  split at h
  · rename_i hc
    cases h
    exact Right_calls a0_0 a0_1 a0_2 a0_3 a0_4 A0_5 c0_5 l0_5 b1 b2 w hr0_5 hc0_5 hc.1 (tamR_of hc.2) h1 h2
  · cases h
end Go.Proofs.YtiiploicaimnpaaGreatDoor.Hand
namespace Go.Proofs.YtiiploicaimnpaaGreatDoor.Hand
open Go.RowKit Go.Proofs.YtiiploicaimnpaaGreatDoor.PHd Go.Proofs.YtiiploicaimnpaaGreatDoorW.PrintWords Go.Proofs.YtiiploicaimnpaaGreatDoorW.PrintLast Go.Proofs.YtiiploicaimnpaaGreatDoorW.PrintMore
set_option linter.unusedVariables false
set_option linter.unusedSimpArgs false
theorem wide_calls (W : World) : Calls Tryz.prog 25 #[] W fun e W' => e = .returned (.agg #[.int .i64 65536, .int .i64 1000, .int .i64 0, .int .i64 0, .int .i64 0]) ∧ Below W.heap.size W W' := by
  go_enter Tryz.func25, Tryz.ntmps25
  go_wp2
  have hb := blk_new W (.cells #[.int .i64 65536, .int .i64 1000, .int .i64 0, .int .i64 0, .int .i64 0] 23)
  have r0 := blk_cell hb 0
  have r1 := blk_cell hb 1
  have r2 := blk_cell hb 2
  have r3 := blk_cell hb 3
  have r4 := blk_cell hb 4
  simp at r0 r1 r2 r3 r4
  refine bodyPost_ret (v := .agg #[.int .i64 65536, .int .i64 1000, .int .i64 0, .int .i64 0, .int .i64 0]) (by simp [results, Tryz.results25, go_sem, *]) rfl ⟨rfl, below_alloc (Below.refl _ _) _⟩
def lvS : ByteArray := ⟨#[71, 69, 84, 32, 47, 32, 72, 84, 84, 80, 47, 49, 46, 49, 13, 10, 72, 111, 115, 116, 58, 32, 97, 13, 10, 13, 10]⟩
def lvR : Int × PS := feedO parseS (newP 1 65536 1000 0 0 0) (bytesOf (lvS ++ ⟨#[120]⟩))
theorem lv1 : lvR.1 = 27 := by kernel_rfl
theorem lv2 : lvR.2.e = 0 := by kernel_rfl
theorem lv3 : doneP lvR.2 = true := by kernel_rfl
theorem lv4 : headOf lvR.2 = (⟨#[71, 69, 84]⟩, ⟨#[47]⟩, 1, 0, ⟨#[]⟩, [⟨⟨#[72, 111, 115, 116]⟩, ⟨#[97]⟩⟩]) := by kernel_rfl
theorem lv5 : lvR.2.h.2.2.2.2.2.length = 1 := by kernel_rfl
theorem lv6 : head_Print.f ⟨#[71, 69, 84]⟩ ⟨#[47]⟩ 1 0 ⟨#[]⟩ [⟨⟨#[72, 111, 115, 116]⟩, ⟨#[97]⟩⟩] = some lvS := by kernel_rfl
set_option maxHeartbeats 2000000 in
set_option maxRecDepth 100000 in
theorem lives_calls (W : World) : Calls Tryz.prog 9 #[] W fun e W' => e = .returned (.bool true) ∧ Below W.heap.size W W' := by
  have cN := fun W => NewP_calls 1 65536 1000 0 0 0 W (by decide) (by decide) (.inl rfl)
  have cN3 := fun W => New_nil 3 65536 1000 0 0 0 W (.inr ⟨by decide, by decide⟩)
  have cF := fun p S W (h : PAt W p S (newP 1 65536 1000 0 0 0)) => FeedP_calls parseS p S (newP 1 65536 1000 0 0 0) (lvS ++ ⟨#[120]⟩) W (by decide) h ⟨rfl, fun _ => rfl, by decide⟩ (parse_all _)
  have eR : feedO parseS (newP 1 65536 1000 0 0 0) (bytesOf (lvS ++ ⟨#[120]⟩)) = lvR := rfl
  simp only [eR, lv1, lv2] at cF
  have cD := fun p S W h => Done_calls p S lvR.2 W h
  simp only [lv3] at cD
  have cH := fun p S W h => Head_calls p S lvR.2 W h (by rw [lv5]; decide)
  simp only [lv4] at cH
  have cP := fun A c W h hc => head_Print.calls ⟨#[71, 69, 84]⟩ ⟨#[47]⟩ 1 0 ⟨#[]⟩ A c [⟨⟨#[72, 111, 115, 116]⟩, ⟨#[97]⟩⟩] lvS W h hc lv6
  have eS : (⟨#[71, 69, 84, 32, 47, 32, 72, 84, 84, 80, 47, 49, 46, 49, 13, 10, 72, 111, 115, 116, 58, 32, 97, 13, 10, 13, 10]⟩ : ByteArray) = lvS := rfl
  have zS : lvS.size = 27 := by decide
  have hcF := Lib.hid cF
  have hcD := Lib.hid cD
  have hcH := Lib.hid cH
  have hcP := Lib.hid cP
  clear cF cD cH cP eR
  generalize ([⟨⟨#[72, 111, 115, 116]⟩, ⟨#[97]⟩⟩] : List S85) = fl at hcH hcP
  generalize (⟨#[71, 69, 84]⟩ : ByteArray) = gt at hcH hcP
  generalize (⟨#[47]⟩ : ByteArray) = sl at hcH hcP
  generalize lvR.2 = rx at hcF hcD hcH
  generalize lvS = sx at hcF hcP eS zS
  have z1 : (⟨#[120]⟩ : ByteArray).size = 1 := rfl
  go_enter Tryz.func9, Tryz.ntmps9
  have hB : Below W.heap.size W W := Below.refl _ _
  go_wp2_with (first
    | (go_at_call 25; refine (wide_calls _).mono ?_; rintro e Wa ⟨rfl, hb1⟩; replace hB := hB.trans (hb1.mono hB.size); clear hb1)
    | (go_at_call 14; refine (cN _).mono ?_; rintro e Wb ⟨p, S, rfl, hp, hb2, hS⟩; have hS2 : ∀ k, S k → W.heap.size ≤ k := (fun k hk => Nat.le_trans hB.size (hS k hk)); have hpH := Lib.hid hp; have hSH := Lib.hid hS2; replace hB := hB.trans (hb2.mono hB.size); clear hp hb2 hS hS2)
    | (go_at_call 26; refine (hcF.out p S _ hpH.out).mono ?_; rintro e Wc ⟨rfl, ⟨S3, hp3, hf3, hs3⟩, _⟩; have hp3H := Lib.hid hp3; replace hB := hB.trans (hf3.below hB.size hSH.out); clear hp3 hf3 hs3)
    | (go_at_call 17; refine (hcD.out p S3 _ hp3H.out).mono ?_; rintro e Wd ⟨rfl, hb4⟩; have hp4H := Lib.hid (hp3H.out.next hb4); replace hB := hB.trans (hb4.mono hB.size); clear hb4)
    | (go_at_call 18; refine (hcH.out p S3 _ hp4H.out).mono ?_; rintro e We ⟨v, rfl, hR5, hb5⟩; obtain ⟨A5, c5, rfl, hc5, hC5⟩ := Kd.R_reads hR5; have hCH := Lib.hid hC5; have hcH5 := Lib.hid hc5; replace hB := hB.trans (hb5.mono hB.size); clear hb5 hR5 hC5 hc5))
  refine (hcP.out A5 c5 _ hCH.out hcH5.out).mono ?_
  rintro e Wf ⟨rfl, hb6⟩
  replace hB := hB.trans (hb6.mono hB.size)
  clear hb6 hcP hcH hcF hcD hCH hcH5 eS hpH hp3H hp4H hSH cN
  go_wp2_with (first | (go_at_call 25; refine (wide_calls _).mono ?_; rintro e Wa2 ⟨rfl, hb1⟩; replace hB := hB.trans (hb1.mono hB.size); clear hb1))
  refine (cN3 _).mono ?_
  rintro e Wg ⟨rfl, hb7⟩
  replace hB := hB.trans (hb7.mono hB.size)
  clear hb7 cN3
  go_wp2
  go_ret
  exact ⟨rfl, hB⟩
def abutmentlaw22_lives.f : Option Bool := some true
theorem abutmentlaw22_lives.calls (r : Bool) (w : World) (h : abutmentlaw22_lives.f = some r) :
    Calls Tryz.prog 9 #[] w fun e w' => e = .returned (.bool r) ∧ Below w.heap.size w w' := by
  cases h
  exact lives_calls w
end Go.Proofs.YtiiploicaimnpaaGreatDoor.Hand
