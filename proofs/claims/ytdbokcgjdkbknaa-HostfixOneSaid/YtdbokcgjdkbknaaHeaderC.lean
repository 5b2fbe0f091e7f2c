/- Hand walks: header.All, With. -/
import Derived.Test.YtdbokcgjdkbknaaHeaderB
namespace Go.Proofs.Ytdbokcgjdkbknaa.Hand
open Go.RowKit Go.Proofs.YtdbokcgjdkbknaaW.PrintWords Go.Proofs.YtdbokcgjdkbknaaW.PrintLast Go.Proofs.YtdbokcgjdkbknaaW.PrintMore
set_option linter.unusedVariables false
set_option linter.unusedSimpArgs false
def allS (l : List S61) (name : ByteArray) : List ByteArray := (l.filter (isNamed [name])).map (·.f1)
theorem allS_yes {x : S61} {l : List S61} {n : ByteArray} (h : isNamed [n] x = true) : allS (x :: l) n = x.f1 :: allS l n := by simp [allS, h]
theorem allS_no {x : S61} {l : List S61} {n : ByteArray} (h : isNamed [n] x = false) : allS (x :: l) n = allS l n := by simp [allS, h]
set_option maxHeartbeats 2000000 in
set_option maxRecDepth 100000 in
theorem All_calls (A : Option Addr) (c : Nat) (l : List S61) (name : ByteArray) (w : World) (hr : Kd.C k61 w A l.length l) (hc : l.length ≤ c) (hlen : l.length ≤ 8796093022208) (hn : name.size ≤ 140737488355328) (hx : small l) :
    Calls Try.prog 65 #[.slice A l.length c, .string name] w fun e w' => ∃ v : Value, e = .returned v ∧ Kd.R Kd.string 9 w' w.heap.size (fun _ => True) v (allS l name) ∧ Below w.heap.size w w' := by
  have hp := oneName_pred w name l hn hx
  have eg := enters_of Try.func93 (by kernel_rfl) rfl
  have hob := oneName_below w name
  obtain ⟨O, hOO⟩ : ∃ O, oneName w name = O := ⟨_, rfl⟩
  rw [hOO] at hp hob
  obtain ⟨R, hR⟩ : ∃ R, allS l name = R := ⟨_, rfl⟩
  rw [hR]
  have hR' : Hid ([] ++ allS (l.drop 0) name = R) := hR
  have hr' := Lib.hid hr
  have hp' := Lib.hid hp
  have hu := Try.underlying61
  clear hR hr hp
  go_enter Try.func65, Try.ntmps65
  go_wp2_with (go_at_call 64; refine (named_calls _ _ _ _).mono ?_; rintro e w' ⟨rfl, hw'⟩; have hw2 : w' = O := hw'.trans hOO; clear hw' hOO; subst hw2)
  go_loopw [6, 14] (fun v6 vi wr => ∃ (k : Nat) (xs : List ByteArray), k ≤ l.length ∧ xs.length ≤ k ∧ vi = .int .i64 k ∧ Below (w').heap.size (w') wr ∧ Hid (Kd.R Kd.string 9 wr (w').heap.size (fun _ => True) v6 xs) ∧ Hid (xs ++ allS (l.drop k) name = R)) (fun _ vi _ => l.length - (intOf vi).toNat)
  case atStart => exact ⟨0, [], by omega, by simp, rfl, Below.refl _ _, Lib.hid (Kd.R_nil _ _ _ _ _), hR'⟩
  case round =>
    clear hR'
    obtain ⟨k, xs, hk, hxs, rfl, hO, hQ, hI⟩ := hrel
    have hB := hob.trans (hO.mono hob.size)
    by_cases hlt : k < l.length
    · have hI2 := hI.out
      rw [List.drop_eq_getElem_cons hlt] at hI2
      clear hI
      obtain ⟨ad, rfl, hcell0, hcell1⟩ := field_at hr'.out hB k hlt
      have hm : l[k]'hlt ∈ l := List.getElem_mem _
      have cS := fun W (h : Below (w').heap.size (w') W) => hp'.out W (l[k]'hlt) hm h
      clear hm
      generalize l[k]'hlt = x at hI2 hcell0 hcell1 cS
      cases hpx : isNamed [name] x
      · rw [allS_no hpx] at hI2
        have hI3 := Lib.hid hI2
        simp only [hpx] at cS
        clear hI2 hpx
        go_wp2_with (go_at_fn 93)
        refine (cS _ (hO.alloc hO.size _)).mono ?_
        rintro e W' ⟨rfl, hbc⟩
        have hW : Below wr.heap.size wr W' := (below_alloc (Below.refl _ _) _).trans (hbc.mono (by simp))
        go_wp2
        go_roundw
        case rel => exact ⟨k + 1, xs, by omega, by omega, by go_num, hO.trans (hW.mono hO.size), Lib.hid (Kd.R_below hQ.out hW), hI3⟩
        case measure => simp [intOf]; omega
      · rw [allS_yes hpx] at hI2
        have hI3 := Lib.hid hI2
        simp only [hpx] at cS
        clear hI2 hpx
        go_wp2_with (go_at_fn 93)
        refine (cS _ (hO.alloc hO.size _)).mono ?_
        rintro e W' ⟨rfl, hbc⟩
        have hW : Below wr.heap.size wr W' := (below_alloc (Below.refl _ _) _).trans (hbc.mono (by simp))
        have hbox : (wr.alloc (Obj.cells #[Value.string x.f0, Value.string x.f1] 61)).cell? ⟨wr.heap.size, 1, none⟩ = some (.string x.f1) := by rw [World.cell?_alloc_mark]; rfl
        have hbox2 := pw_cell_below hbc hbox
        clear hbc hbox cS hcell0 hcell1 eg hp' hu
        have hQ2 := Lib.hid (Kd.R_below hQ.out hW)
        have hO2 := hO.trans (hW.mono hO.size)
        clear hQ hW
        go_wp2_with ((with_reducible refine gate_builtin (b := .append) (xs := #[.tmp 21, .tmp 24]) rfl ?_); at_builtin; refine Kd.R_append Kd.string (w0 := w') (w').heap.size rfl (.tmp 21) (.tmp 24) 87 9 (.string ⟨#[]⟩) 16 rfl Try.underlying87 info9 rfl (by decide) (by omega) u6 xs (x.f1) [.string (x.f1)] (fun _ => True) (fun _ => False) rfl rfl ?aP (fun _ hk => hk.elim) ?aF ?aO ?aB ?aS ?aL ?_; (case aP => exact rfl); (case aB => exact hO2); (case aF => exact (fun _ _ => trivial)); (case aO => exact hQ2.out); (case aS => exact hO2.size); (case aL => omega); intro v1 w11 ho hb hg hat)
        have ho' := Lib.hid ho
        clear ho hg hat
        go_roundw
        case rel => exact ⟨k + 1, xs ++ [x.f1], by omega, by simp; omega, by go_num, hb, ho', by rw [List.append_assoc]; exact hI3⟩
        case measure => simp [intOf]; omega
    · have hI2 := hI.out
      rw [List.drop_of_length_le (by omega), show allS [] name = [] from rfl, List.append_nil] at hI2
      subst hI2
      clear hI
      go_wp2
      go_ret
      exact ⟨_, rfl, Kd.R_lower hQ.out hob.size, hB⟩
end Go.Proofs.Ytdbokcgjdkbknaa.Hand
