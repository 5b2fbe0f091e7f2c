/- Hand walks: header.Without, header.Set. -/
import Derived.Test.YtdbokcgjdkbknaaHeaderE
namespace Go.Proofs.Ytdbokcgjdkbknaa.Hand
open Go.RowKit Go.Proofs.YtdbokcgjdkbknaaW.PrintWords Go.Proofs.YtdbokcgjdkbknaaW.PrintLast Go.Proofs.YtdbokcgjdkbknaaW.PrintMore
set_option linter.unusedVariables false
set_option linter.unusedSimpArgs false
theorem namedRow (A : Option Addr) (c : Nat) (names : List ByteArray) (gn : Nat) (xs : List S61) (w : World) (row : Option Nat) (hcell : w.cell? ⟨gn, 0, none⟩ = some (.slice A names.length c)) (hne : some gn ≠ row) (hC : ∀ W, w.grownBy W row → Kd.C Kd.string W A names.length names) (hc : names.length ≤ c) (hlen : names.length ≤ 140737488355328)
    (hn : ∀ n ∈ names, n.size ≤ 140737488355328) (hx : small xs) : RowPred Try.prog 93 #[.pointer (some ⟨gn, 0, none⟩)] xs (isNamed names) w row :=
  fun W x hm hg => named1_calls A c names x gn W (hg.cell hcell hne) (hC W hg) hc hlen hn (hx x hm)
set_option maxHeartbeats 1000000 in
set_option maxRecDepth 100000 in
theorem Without_calls (A : Option Addr) (c : Nat) (l : List S61) (B : Option Addr) (cn : Nat) (names : List ByteArray) (w : World) (hr : Kd.C k61 w A l.length l) (hrn : Kd.C Kd.string w B names.length names) (hlen : l.length ≤ 4398046511104) (hcn : names.length ≤ cn) (hnl : names.length ≤ 140737488355328)
    (hn : ∀ n ∈ names, n.size ≤ 140737488355328) (hx : small l) :
    Calls Try.prog 35 #[.slice A l.length c, .slice B names.length cn] w fun e w' => ∃ v : Value, e = .returned v ∧ Kd.R k61 61 w' w.heap.size (fun _ => True) v (l.filter fun x => !isNamed names x) ∧ Below w.heap.size w w' := by
  have hr' := Lib.hid hr
  have hrn' := Lib.hid hrn
  have eg := enters_of Try.func93 (by kernel_rfl) rfl
  clear hr hrn
  go_enter Try.func35, Try.ntmps35
  go_wp2_with (first | (go_at_call 67; refine (Clone_calls A c l _ hr'.out hlen).mono ?_; rintro e w1 ⟨v1, rfl, hv1, hb1⟩) | (go_at_call 64; refine (named_calls _ _ _ _).mono ?_; rintro e w2 ⟨rfl, hw2⟩) | (go_at_call 66; have hb2 : Below w.heap.size w (w1.alloc (.cells #[.slice B names.length cn] 87)) := hb1.alloc hb1.size _; refine (DeleteFunc_calls v1 l w.heap.size _ _ (isNamed names) _ (Kd.R_alloc hv1 _) (by omega) (namedRow B cn names w1.heap.size l _ v1.ownBlock (by rw [World.cell?_alloc_mark]; rfl) (fun he => by have := Kd.R_lt hv1 _ he.symm; omega) (fun W hg => Kd.C_below hrn'.out (hb2.grown hg hb2.size (Kd.R_base hv1))) hcn hnl hn hx) eg).mono ?_; rintro e w4 ⟨v4, rfl, hv4, hg4, ho4⟩; have hb4 := hb2.grown hg4 hb2.size (Kd.R_base hv1)))
  go_ret
  exact ⟨_, rfl, hv4, hb4⟩
def setAt (p : S61 → Bool) (vl : ByteArray) : List S61 → Option (List S61)
  | [] => none
  | x :: l => if p x = true then some (⟨x.f0, vl⟩ :: l.filter fun y => !p y) else (setAt p vl l).map (x :: ·)
def setS (l : List S61) (nm vl : ByteArray) : List S61 := (setAt (isNamed [nm]) vl l).getD (l ++ [⟨nm, vl⟩])
theorem setAt_idx (p : S61 → Bool) (vl : ByteArray) : ∀ (l : List S61) (k : Nat), (idxFrom p l k = -1 ∧ setAt p vl l = none) ∨ ∃ (i : Nat) (h : i < l.length), idxFrom p l k = k + i ∧ setAt p vl l = some (l.take i ++ [⟨(l[i]'h).f0, vl⟩] ++ (l.drop (i + 1)).filter fun y => !p y)
  | [], k => .inl ⟨rfl, rfl⟩
  | x :: l, k => by
    cases hp : p x
    · rw [idxFrom_no hp, setAt, if_neg (by simp [hp])]
      rcases setAt_idx p vl l (k + 1) with ⟨h1, h2⟩ | ⟨i, h, h1, h2⟩
      · exact .inl ⟨h1, by rw [h2]; rfl⟩
      · exact .inr ⟨i + 1, by simpa using h, by rw [h1]; omega, by rw [h2]; simp⟩
    · rw [idxFrom_yes hp, setAt, if_pos hp]
      exact .inr ⟨0, by simp, by simp, by simp⟩
set_option maxHeartbeats 1000000 in
set_option maxRecDepth 100000 in
theorem Set_calls (A : Option Addr) (c : Nat) (l : List S61) (nm vl : ByteArray) (w : World) (hr : Kd.C k61 w A l.length l) (hc : l.length ≤ c) (hlen : l.length ≤ 4398046511000) (hn : nm.size ≤ 140737488355328) (hx : small l) :
    Calls Try.prog 58 #[.slice A l.length c, .string nm, .string vl] w fun e w' => ∃ v : Value, e = .returned v ∧ Kd.R k61 61 w' w.heap.size (fun _ => True) v (setS l nm vl) ∧ Below w.heap.size w w' := by
  have eg := enters_of Try.func93 (by kernel_rfl) rfl
  have hob := oneName_below w nm
  have cI := fieldIndexFunc_calls A c l _ _ (isNamed [nm]) (oneName w nm) (Kd.C_below hr hob) hc (by omega) (oneName_pred w nm l hn hx) eg
  have hrow : (oneName w nm).cell? ⟨w.heap.size + 1, 0, none⟩ = some (.slice (some ⟨w.heap.size, 0, none⟩) 1 1) := by
    unfold oneName
    have := World.cell?_alloc_mark (w.alloc (.cells #[.string nm] 9)) #[.slice (some ⟨w.heap.size, 0, none⟩) 1 1] 87 (0, 0) 0
    rw [show (w.alloc (.cells #[.string nm] 9)).heap.size = w.heap.size + 1 by simp] at this
    exact this
  have hstr : Kd.C Kd.string (oneName w nm) (some ⟨w.heap.size, 0, none⟩) [nm].length [nm] := by
    have h0 : (w.alloc (.cells #[.string nm] 9)).cell? ⟨w.heap.size, 0, none⟩ = some (.string nm) := by rw [World.cell?_alloc_mark]; rfl
    exact str_one (pw_cell_below ((Below.refl _ _).alloc (Nat.le_refl _) _) h0)
  have hosz : (oneName w nm).heap.size = w.heap.size + 2 := by simp [oneName]
  have hr' := Lib.hid hr
  have hE : ∀ W, Below w.heap.size w W → Kd.C k61 W A l.length l := fun W hb => Kd.C_below hr hb
  have hu := Try.underlying25
  clear hr
  obtain ⟨O, hO⟩ : ∃ O, oneName w nm = O := ⟨_, rfl⟩
  rw [hO] at hob cI hrow hstr hosz
  unfold setS
  rcases setAt_idx (isNamed [nm]) vl l 0 with ⟨h1, h2⟩ | ⟨i, hi, h1, h2⟩
  · rw [h2]
    rw [h1] at cI
    show Calls _ _ _ _ fun e w' => ∃ v : Value, e = .returned v ∧ Kd.R k61 61 w' w.heap.size (fun _ => True) v (l ++ [⟨nm, vl⟩]) ∧ Below w.heap.size w w'
    go_enter Try.func58, Try.ntmps58
    go_wp2_with (first | (go_at_call 64; refine (named_calls _ _ _ _).mono ?_; rintro e w2 ⟨rfl, hw2⟩; have hw3 : w2 = O := hw2.trans hO; clear hw2; subst hw3) | (go_at_call 63; refine cI.mono ?_; rintro e w3 ⟨rfl, hb3⟩; have hb4 := hob.trans (hb3.mono hob.size)) | (go_at_call 90; refine (With_calls A c l nm vl w3 (hE _ hb4) (by omega)).mono ?_; rintro e w4 ⟨v4, rfl, hv4, hb5⟩))
    go_ret
    exact ⟨_, rfl, Kd.R_lower hv4 hb4.size, hb4.trans (hb5.mono hb4.size)⟩
  · rw [h2]
    rw [h1, show ((0 : Nat) : Int) + (i : Int) = (i : Int) by omega] at cI
    have hi0 : decide ((i : Int) < 0) = false := by simp
    obtain ⟨ad, rfl, hc0, hc1⟩ := field_at hr'.out (Below.refl _ w) i hi
    obtain ⟨X, hX⟩ : ∃ X, l[i]'hi = X := ⟨_, rfl⟩
    rw [hX] at hc0
    rw [hX]
    show Calls _ _ _ _ fun e w' => ∃ v : Value, e = .returned v ∧ Kd.R k61 61 w' w.heap.size (fun _ => True) v (l.take i ++ [⟨X.f0, vl⟩] ++ (l.drop (i + 1)).filter fun y => !isNamed [nm] y) ∧ Below w.heap.size w w'
    have hc0' : ∀ W, Below w.heap.size w W → W.cell? (ad.add (i * 2)) = some (.string X.f0) := fun W hb => pw_cell_below hb hc0
    clear hc0 hc1 hX h1 h2
    go_enter Try.func58, Try.ntmps58
    go_wp2_with (first | (go_at_call 64; refine (named_calls _ _ _ _).mono ?_; rintro e w2 ⟨rfl, hw2⟩; have hw3 : w2 = O := hw2.trans hO; clear hw2; subst hw3) | (go_at_call 63; refine cI.mono ?_; rintro e w3 ⟨rfl, hb3⟩; have hb4 := hob.trans (hb3.mono hob.size)))
    have hcw := hc0' w3 hb4
    have hic : i ≤ c := by omega
    have hsl : ∀ W, (Instr.slice 25 (.slice (some ad) l.length c) none (some (.int .i64 (i : Int))) none).run Try.prog W = .ok (.slice (some ad) i c) W := fun W => by
      have e := run_slice_h (P := Try.prog) (w := W) 25 (some ad) l.length c (by rw [hu]; rfl) .i64 (i : Int) (by omega) (by omega)
      rw [e]
      obtain ⟨inf, hinf, hz⟩ := Option.map_eq_some_iff.1 info61
      have he : Try.prog.elem 25 = 61 := by kernel_rfl
      have ha : ad.add 0 = ad := by rcases ad with ⟨b, o, p⟩; unfold Addr.add; split <;> simp_all
      simp [he, sizeOf, typeInfo, hinf, sliced, ha]
    obtain ⟨B, hB⟩ : ∃ B, (if c = i + 1 then some ad else (some ad).map (·.add ((i + 1) * 2))) = B := ⟨_, rfl⟩
    have hsl2 : ∀ W, (Instr.slice 25 (.slice (some ad) l.length c) (some (.int .i64 ((i : Int) + 1))) none none).run Try.prog W = .ok (.slice B (l.length - (i + 1)) (c - (i + 1))) W := fun W => by
      have e := run_slice_l (P := Try.prog) (w := W) 25 (some ad) l.length c (by rw [hu]; rfl) .i64 ((i : Int) + 1) (by omega) (by omega)
      rw [e]
      obtain ⟨inf, hinf, hz⟩ := Option.map_eq_some_iff.1 info61
      have he : Try.prog.elem 25 = 61 := by kernel_rfl
      have hz1 : inf.size = 2 := by simp only [Prod.mk.injEq] at hz; exact hz.2.1
      rw [← hB]
      simp [he, sizeOf, typeInfo, hinf, sliced, hz1, show ((i : Int) + 1).toNat = i + 1 from by omega]
    have hCB : ∀ W, Below w.heap.size w W → Kd.C k61 W B (l.drop (i + 1)).length (l.drop (i + 1)) := fun W hb => by
      have := Kd.C_drop (c := c) (hE W hb) (by omega : i + 1 ≤ l.length) hc
      rw [← hB]
      exact this
    clear hB
    have hdl : (l.drop (i + 1)).length = l.length - (i + 1) := List.length_drop
    go_still_tail 9, (by kernel_rfl)
    change wpList _ _ _ _ _ w3.drew
    have hb5 : Below w.heap.size w w3.drew := below_drew hb4
    have hti : (l.take i).length = i := by rw [List.length_take]; omega
    have cW := With_calls (some ad) c (l.take i) X.f0 vl w3.drew (Kd.C_take (hE _ hb5) (by omega)) (by omega)
    rw [hti] at cW
    go_wp2_with (first | (go_at_call 90; refine cW.mono ?_; rintro e w4 ⟨v4, rfl, hv4, hb6⟩; have hb7 := hb5.trans (hb6.mono hb5.size)) | (go_at_call 67; have cC := Clone_calls B (c - (i + 1)) (l.drop (i + 1)) w4 (hCB _ hb7) (by omega); rw [hdl] at cC; refine cC.mono ?_; rintro e w5 ⟨v5, rfl, hv5, hb8⟩; have hb9 := hb7.trans (hb8.mono hb7.size)) | (go_at_call 66; (have hbO : Below w2.heap.size w2 w5 := ((below_drew hb3).trans (hb6.mono (below_drew hb3).size)).trans (hb8.mono ((below_drew hb3).trans (hb6.mono (below_drew hb3).size)).size)); (have h24 : w2.heap.size ≤ w4.heap.size := ((below_drew hb3).trans (hb6.mono (below_drew hb3).size)).size); (have hvb := Kd.R_base hv5); refine (DeleteFunc_calls v5 (l.drop (i + 1)) w4.heap.size _ _ (isNamed [nm]) w5 hv5 (by omega) (namedRow (some ⟨w.heap.size, 0, none⟩) 1 [nm] (w.heap.size + 1) _ _ v5.ownBlock (pw_cell_below hbO hrow) (fun he => by have := hvb _ he.symm; omega) (fun W hg => Kd.C_below hstr (hbO.grown hg hbO.size (fun k hk => by have := hvb k hk; omega))) (Nat.le_refl _) (by simp) (by simpa using hn) (fun x hm => hx x (List.mem_of_mem_drop hm))) eg).mono ?_; rintro e w6 ⟨v6, rfl, hv6, hg6, ho6⟩; obtain ⟨A6, c6, rfl, hc6, hC6⟩ := Kd.R_reads hv6; (have hb10 := hb9.grown hg6 hb9.size (fun k hk => by have := hvb k hk; have := hb7.size; omega)); (have hv7 := Kd.R_grown2 (Kd.R_below (Kd.R_lower hv4 hb5.size) hb8) rfl hg6 (fun k hk he => by have := hvb k hk; have := Kd.R_lt hv4 k he.symm; omega))) | ((with_reducible refine gate_builtin (b := .append) (xs := #[.tmp 32, .tmp 39]) rfl ?_); at_builtin; refine Kd.R_append_rows k61 (w0 := w) w.heap.size rfl (.tmp 32) (.tmp 39) 25 61 (.agg #[(.string ⟨#[]⟩), (.string ⟨#[]⟩)]) 32 rfl Try.underlying25 info61 rfl (by decide) (by omega) v4 _ _ A6 _ c6 (fun _ => True) (fun _ => False) rfl rfl hv7 hC6 (fun _ _ h => h) (fun _ h => h.elim) (fun _ _ => trivial) hb10 hb10.size ?aL ?_; (case aL => have h1 := List.length_filter_le (fun x => !isNamed [nm] x) (l.drop (i + 1)); rw [List.length_append, hti, List.length_singleton]; omega); intro v8 w8 hv8 hb11 hg8 hat8))
    go_ret
    exact ⟨_, rfl, hv8, hb11⟩
end Go.Proofs.Ytdbokcgjdkbknaa.Hand
