/- Hand walks: header.(without Get), All, With, Without, Set. | Hand walks: header.All, With. | Hand walks: slices.Clone, header.With. | Hand walks: slices.DeleteFunc at fields. | Hand walks: header.Without, header.Set. | The hand walks of package header, in the printer's form. -/
import Derived.Test.YtdbokcgjdkbknaaDoorHeader
import Derived.StillTailTactics
import Derived.Deep.RegionHeld3
import Derived.Laws.IdiomCopy
namespace Go.Proofs.YtdbokcgjdkbknaaDoor.Hand
open Go.RowKit Go.Proofs.YtdbokcgjdkbknaaDoorW.PrintWords Go.Proofs.YtdbokcgjdkbknaaDoorW.PrintLast Go.Proofs.YtdbokcgjdkbknaaDoorW.PrintMore
set_option linter.unusedVariables false
set_option linter.unusedSimpArgs false
def small (xs : List S45) : Prop := ∀ x ∈ xs, x.f0.size ≤ 140737488355328
theorem namedPred (A : Option Addr) (c : Nat) (names : List ByteArray) (gn : Nat) (xs : List S45) (w : World) (hcell : w.cell? ⟨gn, 0, none⟩ = some (.slice A names.length c)) (hr : Kd.C Kd.string w A names.length names) (hc : names.length ≤ c) (hlen : names.length ≤ 140737488355328)
    (hn : ∀ n ∈ names, n.size ≤ 140737488355328) (hx : small xs) : FieldPred Tryd.prog 78 #[.pointer (some ⟨gn, 0, none⟩)] xs (isNamed names) w :=
  fun W x hm hb => named1_calls A c names x gn W (pw_cell_below hb hcell) (Kd.C_below hr hb) hc hlen hn (hx x hm)
/-- One name, as a call lays it: its row, and the variable that named keeps. -/
def oneName (w : World) (name : ByteArray) : World := (w.alloc (.cells #[.string name] 9)).alloc (.cells #[.slice (some ⟨w.heap.size, 0, none⟩) 1 1] 49)
theorem oneName_below (w : World) (name : ByteArray) : Below w.heap.size w (oneName w name) := below_alloc ((Below.refl _ _).alloc (Nat.le_refl _) _) _
theorem str_one {w : World} {g : Nat} {x : ByteArray} (h : w.cell? ⟨g, 0, none⟩ = some (.string x)) : Kd.C Kd.string w (some ⟨g, 0, none⟩) [x].length [x] := by
  refine ⟨rfl, by simp, fun _ => ⟨_, rfl, fun j p hj => ?_⟩⟩
  cases j with
  | succ j => simp at hj
  | zero =>
    obtain rfl : x = p := by simpa using hj
    refine ⟨[.string x], rfl, rfl, fun i u hu => ?_⟩
    cases i with
    | succ i => simp at hu
    | zero =>
      obtain rfl : Value.string x = u := by simpa using hu
      exact h
theorem oneName_pred (w : World) (name : ByteArray) (xs : List S45) (hn : name.size ≤ 140737488355328) (hx : small xs) :
    FieldPred Tryd.prog 78 #[.pointer (some ⟨w.heap.size + 1, 0, none⟩)] xs (isNamed [name]) (oneName w name) := by
  refine namedPred (some ⟨w.heap.size, 0, none⟩) 1 [name] (w.heap.size + 1) xs _ ?_ ?_ (Nat.le_refl _) (by simp) (by simpa using hn) hx
  · unfold oneName
    have := World.cell?_alloc_mark (w.alloc (.cells #[.string name] 9)) #[.slice (some ⟨w.heap.size, 0, none⟩) 1 1] 49 (0, 0) 0
    rw [show (w.alloc (.cells #[.string name] 9)).heap.size = w.heap.size + 1 by simp] at this
    exact this
  · have h0 : (w.alloc (.cells #[.string name] 9)).cell? ⟨w.heap.size, 0, none⟩ = some (.string name) := by rw [World.cell?_alloc_mark]; rfl
    have h1 : (oneName w name).cell? ⟨w.heap.size, 0, none⟩ = some (.string name) := pw_cell_below ((Below.refl _ _).alloc (Nat.le_refl _) _) h0
    exact str_one h1
end Go.Proofs.YtdbokcgjdkbknaaDoor.Hand
namespace Go.Proofs.YtdbokcgjdkbknaaDoor.Hand
open Go.RowKit Go.Proofs.YtdbokcgjdkbknaaDoorW.PrintWords Go.Proofs.YtdbokcgjdkbknaaDoorW.PrintLast Go.Proofs.YtdbokcgjdkbknaaDoorW.PrintMore
set_option linter.unusedVariables false
set_option linter.unusedSimpArgs false
def allS (l : List S45) (name : ByteArray) : List ByteArray := (l.filter (isNamed [name])).map (·.f1)
theorem allS_yes {x : S45} {l : List S45} {n : ByteArray} (h : isNamed [n] x = true) : allS (x :: l) n = x.f1 :: allS l n := by simp [allS, h]
theorem allS_no {x : S45} {l : List S45} {n : ByteArray} (h : isNamed [n] x = false) : allS (x :: l) n = allS l n := by simp [allS, h]
set_option maxHeartbeats 2000000 in
set_option maxRecDepth 100000 in
theorem All_calls (A : Option Addr) (c : Nat) (l : List S45) (name : ByteArray) (w : World) (hr : Kd.C k45 w A l.length l) (hc : l.length ≤ c) (hlen : l.length ≤ 8796093022208) (hn : name.size ≤ 140737488355328) (hx : small l) :
    Calls Tryd.prog 31 #[.slice A l.length c, .string name] w fun e w' => ∃ v : Value, e = .returned v ∧ Kd.R Kd.string 9 w' w.heap.size (fun _ => True) v (allS l name) ∧ Below w.heap.size w w' := by
  have hp := oneName_pred w name l hn hx
  have eg := enters_of Tryd.func78 (by kernel_rfl) rfl
  have hob := oneName_below w name
  obtain ⟨O, hOO⟩ : ∃ O, oneName w name = O := ⟨_, rfl⟩
  rw [hOO] at hp hob
  obtain ⟨R, hR⟩ : ∃ R, allS l name = R := ⟨_, rfl⟩
  rw [hR]
  have hR' : Hid ([] ++ allS (l.drop 0) name = R) := hR
  have hr' := Lib.hid hr
  have hp' := Lib.hid hp
  have hu := Tryd.underlying45
  clear hR hr hp
  go_enter Tryd.func31, Tryd.ntmps31
  go_wp2_with (go_at_call 58; refine (named_calls _ _ _ _).mono ?_; rintro e w' ⟨rfl, hw'⟩; have hw2 : w' = O := hw'.trans hOO; clear hw' hOO; subst hw2)
  go_loopw [6, 14] (fun v6 vi wr => ∃ (k : Nat) (xs : List ByteArray), k ≤ l.length ∧ xs.length ≤ k ∧ vi = .int .i64 k ∧ Below (w').heap.size (w') wr ∧ Hid (Kd.R Kd.string 9 wr (w').heap.size (fun _ => True) v6 xs) ∧ Hid (xs ++ allS (l.drop k) name = R)) (fun _ vi _ => l.length - (intOf vi).toNat)
  case atStart => exact ⟨0, [], by omega, by simp, rfl, Below.refl _ _, Lib.hid (Kd.R_nil _ _ _ _ _), hR'⟩
  case round =>
    clear hR'
    obtain ⟨k, xs, hk, hxs, rfl, hO, hQ, hI⟩ := hrel
    have hB := hob.trans (hO.mono hob.size)
    by_cases hlt : k < l.length
    · have hI2 := hI.out
      rw [List.drop_eq_getElem_cons hlt] at hI2
      clear hI
      obtain ⟨ad, rfl, hcell0, hcell1⟩ := field_at hr'.out hB k hlt
      have hm : l[k]'hlt ∈ l := List.getElem_mem _
      have cS := fun W (h : Below (w').heap.size (w') W) => hp'.out W (l[k]'hlt) hm h
      clear hm
      generalize l[k]'hlt = x at hI2 hcell0 hcell1 cS
      cases hpx : isNamed [name] x
      · rw [allS_no hpx] at hI2
        have hI3 := Lib.hid hI2
        simp only [hpx] at cS
        clear hI2 hpx
        go_wp2_with (go_at_fn 78)
        refine (cS _ (hO.alloc hO.size _)).mono ?_
        rintro e W' ⟨rfl, hbc⟩
        have hW : Below wr.heap.size wr W' := (below_alloc (Below.refl _ _) _).trans (hbc.mono (by simp))
        go_wp2
        go_roundw
        case rel => exact ⟨k + 1, xs, by omega, by omega, by go_num, hO.trans (hW.mono hO.size), Lib.hid (Kd.R_below hQ.out hW), hI3⟩
        case measure => simp [intOf]; omega
      · rw [allS_yes hpx] at hI2
        have hI3 := Lib.hid hI2
        simp only [hpx] at cS
        clear hI2 hpx
        go_wp2_with (go_at_fn 78)
        refine (cS _ (hO.alloc hO.size _)).mono ?_
        rintro e W' ⟨rfl, hbc⟩
        have hW : Below wr.heap.size wr W' := (below_alloc (Below.refl _ _) _).trans (hbc.mono (by simp))
        have hbox : (wr.alloc (Obj.cells #[Value.string x.f0, Value.string x.f1] 45)).cell? ⟨wr.heap.size, 1, none⟩ = some (.string x.f1) := by rw [World.cell?_alloc_mark]; rfl
        have hbox2 := pw_cell_below hbc hbox
        clear hbc hbox cS hcell0 hcell1 eg hp' hu
        have hQ2 := Lib.hid (Kd.R_below hQ.out hW)
        have hO2 := hO.trans (hW.mono hO.size)
        clear hQ hW
        go_wp2_with ((with_reducible refine gate_builtin (b := .append) (xs := #[.tmp 21, .tmp 24]) rfl ?_); at_builtin; refine Kd.R_append Kd.string (w0 := w') (w').heap.size rfl (.tmp 21) (.tmp 24) 49 9 (.string ⟨#[]⟩) 16 rfl Tryd.underlying49 info9 rfl (by decide) (by omega) u6 xs (x.f1) [.string (x.f1)] (fun _ => True) (fun _ => False) rfl rfl ?aP (fun _ hk => hk.elim) ?aF ?aO ?aB ?aS ?aL ?_; (case aP => exact rfl); (case aB => exact hO2); (case aF => exact (fun _ _ => trivial)); (case aO => exact hQ2.out); (case aS => exact hO2.size); (case aL => omega); intro v1 w11 ho hb hg hat)
        have ho' := Lib.hid ho
        clear ho hg hat
        go_roundw
        case rel => exact ⟨k + 1, xs ++ [x.f1], by omega, by simp; omega, by go_num, hb, ho', by rw [List.append_assoc]; exact hI3⟩
        case measure => simp [intOf]; omega
    · have hI2 := hI.out
      rw [List.drop_of_length_le (by omega), show allS [] name = [] from rfl, List.append_nil] at hI2
      subst hI2
      clear hI
      go_wp2
      go_ret
      exact ⟨_, rfl, Kd.R_lower hQ.out hob.size, hB⟩
end Go.Proofs.YtdbokcgjdkbknaaDoor.Hand
namespace Go.Proofs.YtdbokcgjdkbknaaDoor.Hand
open Go.RowKit Go.Proofs.YtdbokcgjdkbknaaDoorW.PrintWords Go.Proofs.YtdbokcgjdkbknaaDoorW.PrintLast Go.Proofs.YtdbokcgjdkbknaaDoorW.PrintMore
set_option linter.unusedVariables false
set_option linter.unusedSimpArgs false
set_option maxHeartbeats 1000000 in
set_option maxRecDepth 100000 in
theorem Clone_calls (A : Option Addr) (c : Nat) (l : List S45) (w : World) (hr : Kd.C k45 w A l.length l) (hlen : l.length ≤ 4398046511104) :
    Calls Tryd.prog 64 #[.slice A l.length c] w fun e w' => ∃ v : Value, e = .returned v ∧ Kd.R k45 45 w' w.heap.size (fun _ => True) v l ∧ Below w.heap.size w w' := by
  have hr' := Lib.hid hr
  have hE : ∀ W, (binOp .eql 22 (.slice A l.length c) (.slice none 0 0)).run Tryd.prog W = .ok (.bool A.isNone) W := fun W => Lib.run_eql_slice_nil W _ _ _ _ _ _ _ Tryd.underlying22
  rcases A with _ | ad
  · have hl0 : l.length = 0 := by
      rcases Nat.eq_zero_or_pos l.length with h0 | h0
      · exact h0
      · obtain ⟨ad, h, _⟩ := hr.2.2 h0
        cases h
    rw [hl0] at hE
    obtain rfl : l = [] := List.eq_nil_of_length_eq_zero hl0
    clear hr hr' hl0
    go_enter Tryd.func64, Tryd.ntmps64
    go_wp2
    go_ret
    exact ⟨_, rfl, Kd.R_nil _ _ _ _ _, Below.refl _ _⟩
  · clear hr
    go_enter Tryd.func64, Tryd.ntmps64
    go_wp2_with (first | ((with_reducible refine gate_dst (N := 5) rfl ?_); refine Kd.R_lit k45 _ 45 ?hg (N := 5) ?hd (xs := ([] : List S45)) (inner := []) (ok := fun _ => True) (okp := fun _ => True) ?hr ?hp (fun _ hk => hk) trivial (Below.refl _ _) (Nat.le_refl _) (by simp) ?_; (case hd => rfl); (case hg => rfl); (case hr => first | (go_simp; done) | (go_simp; rfl)); (case hp => exact (Reps.none _ _)); intro v133 w3 ho4 hb hg_ hnew_; clear hg_ hnew_) | ((with_reducible refine gate_builtin (b := .append) (xs := #[.tmp 5, .tmp 6]) rfl ?_); at_builtin; refine Kd.R_append_rows k45 (w0 := w) w.heap.size rfl (.tmp 5) (.tmp 6) 22 45 (.agg #[(.string ⟨#[]⟩), (.string ⟨#[]⟩)]) 32 rfl Tryd.underlying22 info45 rfl (by decide) (by omega) v133 [] l _ _ _ (fun _ => True) (fun _ => False) rfl rfl ?aO ?aR (fun _ _ h => h) (fun _ h => h.elim) ?aF ?aB ?aS ?aL ?_; (case aR => exact Kd.C_below hr'.out hb); (case aB => exact hb); (case aF => exact (fun _ _ => trivial)); (case aO => exact ho4); (case aS => exact hb.size); (case aL => simp; omega); intro v160 w8 ho hb2 hg hat))
    go_ret
    exact ⟨_, rfl, ho, hb2⟩
theorem run_copy_any {P : Program} (w : World) (dT sT ty elem : TypeId) (b o dLen dCap : Nat) (a : Addr) (sLen sCap s : Nat) (cs : List Value)
    (hu : P.underlying dT = some (.slice elem)) (hs : (P.info? elem).map (·.size) = some s) (hn : cs.length = Nat.min sLen dLen * s)
    (hsrc : ∀ j v, cs[j]? = some v → w.cell? (a.add j) = some v) (hc : ∀ j, j < cs.length → (w.cell? ⟨b, o + j, none⟩).isSome = true) (hf : ∀ j, j < cs.length → w.frozen? ⟨b, o + j, none⟩ = false) (h1 : ∀ v ∈ cs, v.oneCell' = true) :
    (Builtin.copy_ #[dT, sT] ty #[.slice (some ⟨b, o, none⟩) dLen dCap, .slice (some a) sLen sCap]).run P w = .ok (goInt ((Nat.min sLen dLen : Nat) : Int)) (w.setCells b o cs) := by
  have hl := run_loadCells_list (P := P) w a cs hsrc
  have hst := run_storeCells_cells (P := P) b o cs 0 w (by simpa using hc) (by simpa using hf) h1
  cases hq : P.info? elem with
  | none => simp [hq] at hs
  | some i =>
    have hi : i.size = s := by simpa [hq] using hs
    simp [Builtin.copy_, run_underlying hu, Builtin.lenOf, Builtin.firstCells, sizeOf, typeInfo, hq, hi, ← hn, hl, hst]
theorem run_copy_none_any {P : Program} (w : World) (dT sT ty elem : TypeId) (d a : Option Addr) (dLen dCap sLen sCap s : Nat) (hu : P.underlying dT = some (.slice elem)) (hs : (P.info? elem).map (·.size) = some s) (hn : Nat.min sLen dLen = 0) :
    (Builtin.copy_ #[dT, sT] ty #[.slice d dLen dCap, .slice a sLen sCap]).run P w = .ok (goInt 0) w := by
  cases hq : P.info? elem with
  | none => simp [hq] at hs
  | some i =>
    have hl : ∀ (x : Addr), (loadCells x 0).run P w = .ok #[] w := fun x => by simpa using run_loadCells_list (P := P) w x [] (by simp)
    cases d <;> cases a <;> simp [Builtin.copy_, run_underlying hu, Builtin.lenOf, Builtin.firstCells, sizeOf, typeInfo, hq, hn, storeCells, hl]
/-- copy(v, ys), the whole of ys, onto a row of one's own that is at least as long. -/
theorem R_copy_all {P : Program} {ops : Array Oper} {rest : List Oper} {o : Oper} {a : Act} {Q : Exit → Act → World → Prop} {α : Type} (d : Kd α) {Rr : α → List Value → Prop} {w0 W : World} (base : Nat) (hgd : o.guard = none) (s x : Operand) (t t' e : TypeId)
    (ho : o.op = .call { callee := .builtin .copy, args := #[s, x], argTypes := #[t, t'] }) (ht : P.underlying t = some (.slice e)) (hinfo : (P.info? e).map (·.size) = some d.sz)
    (v : Value) (xs ys : List α) (A : Option Addr) (m c : Nat) (ok okp : Nat → Prop) (hs : a.eval s = v) (hx : a.eval x = .slice A m c)
    (HO : d.R e W base ok v xs) (HR : ReadsRow Rr d.sz W A m ys) (hKM : ∀ x cs, Rr x cs → d.M W base okp x cs) (hokp : ∀ k, okp k → ok k ∧ some k ≠ v.ownBlock) (hle : m ≤ xs.length) (HB : Below base w0 W) (hbase : base ≤ W.heap.size)
    (h : ∀ w1, d.R e w1 base ok v (ys ++ xs.drop m) → Below base w0 w1 → W.grownBy w1 v.ownBlock → wpList P ops Q rest (a.put o.dst (.int .i64 (m : Int))) w1) :
    wpList P ops Q (o :: rest) a W := by
  have hm : ys.length = m := HR.1
  obtain ⟨hok, inner, hown, hr⟩ := HO
  have hmin : Nat.min m xs.length = m := Nat.min_eq_left hle
  have fin : ∀ w1, (Builtin.copy_ #[t, t'] o.type #[v, .slice A m c]).run P W = .ok (goInt (m : Int)) w1 → d.R e w1 base ok v (ys ++ xs.drop m) → W.grownBy w1 v.ownBlock → wpList P ops Q (o :: rest) a W := by
    intro w1 hr hrow hg
    refine wpList_plain hgd fun K hK => ?_
    unfold Oper.wp execOp
    simp only [ho, resolve, invoke, builtin, Sem.run_bind, Sem.run_pure, Result.andThen_ok, List.map_toArray, List.map_cons, List.map_nil, hs, hx, hr]
    exact hK _ _ (h w1 hrow (HB.grown hg hbase (own_base hown)) hg)
  rcases Nat.eq_zero_or_pos m with h0 | hp
  · subst h0
    obtain rfl : ys = [] := List.eq_nil_of_length_eq_zero hm
    obtain ⟨A', c', hv⟩ := own_slice hown
    refine fin W ?_ (by rw [List.drop_zero, List.nil_append]; exact ⟨hok, inner, hown, hr⟩) (World.grownBy.refl W _)
    rw [hv]
    exact run_copy_none_any W t t' o.type e A' A xs.length c' 0 c d.sz ht hinfo hmin
  · obtain ⟨ad, hA, _⟩ := HR.2.2 hp
    subst hA
    obtain ⟨news, hnr, hnc⟩ := ReadsRow.inner_ HR
    have hnM : Reps (d.M W base okp) d.sz ys news := hnr.imp_ (fun p c hp => hKM p c hp)
    rcases hown.2 with ⟨_, hx0⟩ | ⟨g, cap, cur, hv, hb, hh, hnc2, hcm, hcs, htake⟩
    · omega
    have hnl : news.length = m * d.sz := by rw [hnM.1, hm]
    have hfit : news.length ≤ cur.size := by rw [hnl, hcs]; exact Nat.mul_le_mul_right _ (by omega)
    have hone : ∀ u ∈ news, u.oneCell' = true := by
      intro u hu
      obtain ⟨q, hq, rfl⟩ := List.mem_iff_getElem.1 hu
      have hs0 : 0 < d.sz := by
        rcases Nat.eq_zero_or_pos d.sz with h0 | h0
        · rw [hnl, h0] at hq; omega
        · exact h0
      have hql : q / d.sz < ys.length := by
        rw [Nat.div_lt_iff_lt_mul hs0]
        rw [← hnM.1]
        exact hq
      have hc := hnM.2 (q / d.sz) _ (List.getElem?_eq_getElem hql)
      refine d.K_one (d.K_of_M hc) _ ?_
      rw [List.mem_iff_getElem?]
      refine ⟨q % d.sz, ?_⟩
      rw [List.getElem?_take, if_pos (Nat.mod_lt _ hs0), List.getElem?_drop, Nat.mul_comm, Nat.div_add_mod, List.getElem?_eq_getElem hq]
    have hrun := run_copy_any (P := P) W t t' o.type e g 0 xs.length cap ad m c d.sz news ht hinfo (by rw [hmin, hnl]) hnc
      (fun j hj => by rw [cell_of_row W g _ cur e (0, 0) hh]; simp; omega) (fun j _ => blk_frozen hh _) hone
    obtain ⟨cur', h3, h4, h5⟩ := setCells_row news 0 W cur hh (by omega)
    obtain ⟨s1, s2, s3, s4⟩ := setCells_same g news 0 W
    have hfar : ∀ k, some k ≠ v.ownBlock → (W.setCells g 0 news).heap[k]? = W.heap[k]? := fun k hk => setCells_far _ _ k (fun he => hk (by rw [hv, he]; simp [Value.ownBlock]))
    have hg : W.grownBy (W.setCells g 0 news) v.ownBlock := ⟨s1, s2, s3, by rw [s4]; exact Nat.le_refl _, fun k _ hk => hfar k hk⟩
    have hil : inner.length = xs.length * d.sz := hr.1
    have hln : (ys ++ xs.drop m).length = xs.length := by
      rw [List.length_append, List.length_drop]
      omega
    refine fin _ (by rw [hv, hrun, hmin]) ⟨hok, news ++ inner.drop (m * d.sz), ?_, ?_⟩ hg
    · rw [hln]
      refine ⟨?_, .inr ⟨g, cap, cur', hv, hb, h3, hnc2, hcm, by rw [h4, hcs], ?_⟩⟩
      · rw [List.length_append, List.length_drop, hnl, hil]
        have := Nat.mul_le_mul_right d.sz hle
        omega
      · rw [h5, List.take_zero, List.nil_append, Nat.zero_add, List.take_append, hnl, List.take_of_length_le (by rw [hnl]; exact Nat.mul_le_mul_right _ hle)]
        congr 1
        rw [← htake, List.drop_take]
    · refine Kd.reps_append (hnM.imp_ (fun _ _ hq => ?_)) ⟨?_, fun j p hj => ?_⟩
      · exact d.M_mono (fun k hk => hokp k hk) (d.M_move (fun k hk => hfar k (hokp k hk).2) hq)
      · rw [List.length_drop, List.length_drop, hil, Nat.sub_mul]
      · rw [List.getElem?_drop] at hj
        have h6 := hr.2 _ p hj
        rw [List.drop_drop, ← Nat.add_mul]
        exact d.M_move (fun k hk => hfar k hk.2) h6
set_option maxHeartbeats 1000000 in
set_option maxRecDepth 100000 in
theorem With_calls (A : Option Addr) (c : Nat) (l : List S45) (nm vl : ByteArray) (w : World) (hr : Kd.C k45 w A l.length l) (hlen : l.length ≤ 4398046511103) :
    Calls Tryd.prog 36 #[.slice A l.length c, .string nm, .string vl] w fun e w' => ∃ v : Value, e = .returned v ∧ Kd.R k45 45 w' w.heap.size (fun _ => True) v (l ++ [⟨nm, vl⟩]) ∧ Below w.heap.size w w' := by
  have hr' := Lib.hid hr
  have hu := Tryd.underlying22
  clear hr
  go_enter Tryd.func36, Tryd.ntmps36
  go_wp2_with (first | (at_make; refine Kd.R_make k45 (w0 := w) w.heap.size 45 rfl (N := 11) rfl 22 (.tmp 10) (.tmp 10) rfl ((l.length : Int) + 1) rfl rfl Tryd.underlying22 (.agg #[(.string ⟨#[]⟩), (.string ⟨#[]⟩)]) 32 info45 rfl (by decide) (by omega) ⟨⟨#[]⟩, ⟨#[]⟩⟩ (ok := fun _ => True) (okp := fun _ => False) (k45_mkM _ _ _ ⟨⟨#[]⟩, ⟨#[]⟩⟩) (fun _ h => h.elim) trivial (by omega) (by omega) (Below.refl _ _) (Nat.le_refl _) ?_; intro v1 w1 hv1 hb1 hg1 hat1; clear hg1 hat1; rw [show ((l.length : Int) + 1).toNat = l.length + 1 by omega] at hv1; obtain ⟨g, cap, rfl, hgb, hgl, cells, hgc⟩ := Kd.R_form hv1 (by simp); rw [List.length_replicate] at hv1) | ((with_reducible refine gate_builtin (b := .copy) (xs := #[.tmp 13, .tmp 14]) rfl ?_); refine R_copy_all k45 (w0 := w) w.heap.size rfl (.tmp 13) (.tmp 14) 22 22 45 rfl Tryd.underlying22 rfl (.slice (some ⟨g, 0, none⟩) (l.length + 1) cap) _ l A l.length c (fun _ => True) (fun _ => False) rfl rfl hv1 (Kd.C_below hr'.out hb1) (fun _ _ h => h) (fun _ h => h.elim) (by simp) hb1 hb1.size ?_; rw [List.drop_replicate, show l.length + 1 - l.length = 1 by omega]; intro w2 hv2 hb2 hg2; clear hv1 hb1 hg2 hgl hgc hr') | ((with_reducible refine gate_ (.store 45 (.tmp 19) (.tmp 18)) rfl ?_); (obtain ⟨cs, hcl, _, hcc, _⟩ := Kd.R_elem hv2 ⟨⟨#[]⟩, ⟨#[]⟩⟩ (l.length : Int) (by omega) (by omega)); refine Kd.R_store k45 (w0 := w) w.heap.size rfl rfl 45 (.tmp 19) (.tmp 18) rfl 45 (l.length : Int) 0 _ ⟨nm, vl⟩ _ [.string nm, .string vl] cs (fun _ => True) (fun _ => False) rfl (by simp [show k45.sz = 2 from rfl]) rfl rfl rfl (by simp [Value.oneCell']) hv2 (by omega) (by omega) hcl hcc (Nat.le_refl _) ?hM (fun _ h => h.elim) hb2 ?_; (case hM => rw [List.take_zero, List.nil_append, List.drop_of_length_le (by rw [hcl]; exact Nat.le_refl _), List.append_nil]; exact k45_mkM _ _ _ ⟨nm, vl⟩); intro w3 hv3 hb3 hg3; clear hcc hcl hv2 hb2))
  go_ret
  refine ⟨_, rfl, ?_, hb3⟩
  have e : (l ++ List.replicate 1 (⟨⟨#[]⟩, ⟨#[]⟩⟩ : S45)).set (l.length : Int).toNat ⟨nm, vl⟩ = l ++ [⟨nm, vl⟩] := by simp
  rw [← e]
  exact hv3
end Go.Proofs.YtdbokcgjdkbknaaDoor.Hand
namespace Go.Proofs.YtdbokcgjdkbknaaDoor.Hand
open Go.RowKit Go.Proofs.YtdbokcgjdkbknaaDoorW.PrintWords Go.Proofs.YtdbokcgjdkbknaaDoorW.PrintLast Go.Proofs.YtdbokcgjdkbknaaDoorW.PrintMore
set_option linter.unusedVariables false
set_option linter.unusedSimpArgs false
/-- Cells behind the first m elements of a row of one's own are written: the first m stand. -/
theorem R_beyond {α : Type} {d : Kd α} {e base g n cap : Nat} {ok : Nat → Prop} {W : World} {xs : List α} (h : d.R e W base ok (.slice (some ⟨g, 0, none⟩) n cap) xs) (m : Nat) (hm : m ≤ n) (seg : List Value) (hfit : m * d.sz + seg.length ≤ cap * d.sz) :
    d.R e (W.setCells g (m * d.sz) seg) base ok (.slice (some ⟨g, 0, none⟩) m cap) (xs.take m) ∧ W.grownBy (W.setCells g (m * d.sz) seg) (some g) := by
  have hnx : n = xs.length := (Kd.R_reads' h).1
  obtain ⟨hok, inner, hown, hr⟩ := Kd.R_take h (by omega : m ≤ xs.length)
  obtain ⟨s1, s2, s3, s4⟩ := setCells_same g seg (m * d.sz) W
  have hfar : ∀ k, k ≠ g → (W.setCells g (m * d.sz) seg).heap[k]? = W.heap[k]? := fun k hk => setCells_far seg _ k hk
  refine ⟨⟨hok, inner, ?_, hr.imp_ (fun _ _ hq => d.M_move (fun k hk => hfar k (fun he => hk.2 (by rw [he]; simp [Value.ownBlock]))) hq)⟩, ⟨s1, s2, s3, by rw [s4]; exact Nat.le_refl _, fun k _ hk => hfar k (fun he => hk (by rw [he]))⟩⟩
  have hlm : (xs.take m).length = m := by rw [List.length_take]; omega
  rw [hlm] at hown ⊢
  rcases hown.2 with ⟨hv, _⟩ | ⟨g', cap', cur, hv, hb, hh, hnc, hcm, hcs, htake⟩
  · cases hv
  injection hv with ha _ hc
  injection ha with ha
  injection ha with hg
  subst hg; subst hc
  obtain ⟨cur', h3, h4, h5⟩ := setCells_row seg (m * d.sz) W cur hh (by omega)
  refine ⟨hown.1, .inr ⟨g, cap, cur', rfl, hb, h3, hnc, hcm, by rw [h4, hcs], ?_⟩⟩
  have hl : (cur.toList.take (m * d.sz)).length = m * d.sz := by rw [List.length_take, Array.length_toList]; omega
  rw [h5, List.append_assoc, List.take_append_of_le_length (by rw [hl]; exact Nat.le_refl _), List.take_of_length_le (by rw [hl]; exact Nat.le_refl _)]
  exact htake
/-- clear(s[m:]), s a row of one's own: its first m elements stand. -/
theorem R_clear {P : Program} {ops : Array Oper} {rest : List Oper} {o : Oper} {a : Act} {Q : Exit → Act → World → Prop} {α : Type} (d : Kd α) {W : World} (base : Nat) (hgd : o.guard = none) (hd : o.dst = none) (s : Operand) (t e : TypeId)
    (ho : o.op = .call { callee := .builtin .clear, args := #[s], argTypes := #[t] }) (ht : P.underlying t = some (.slice e)) (z : Value) (hinfo : (P.info? e).map (·.zero) = some (some z)) (hz : z.cells.size = d.sz) (hone : ∀ u ∈ z.cells, u.oneCell' = true)
    {g n cap c m q : Nat} (xs : List α) (ok : Nat → Prop) (hs : a.eval s = .slice (some ⟨g, q, none⟩) (n - m) c) (hq : q = m * d.sz)
    (HO : d.R e W base ok (.slice (some ⟨g, 0, none⟩) n cap) xs) (hmn : m < n)
    (h : ∀ w1, d.R e w1 base ok (.slice (some ⟨g, 0, none⟩) m cap) (xs.take m) → W.grownBy w1 (some g) → wpList P ops Q rest a w1) :
    wpList P ops Q (o :: rest) a W := by
  subst hq
  have hnx : n = xs.length := (Kd.R_reads' HO).1
  have hzl : (Builtin.zeroCells z.cells (n - m)).toList.length = (n - m) * d.sz := by simp [Builtin.zeroCells, hz]
  have hzo : ∀ u ∈ (Builtin.zeroCells z.cells (n - m)).toList, u.oneCell' = true := by
    intro u hu
    simp only [Builtin.zeroCells, Array.toList_map, List.mem_map] at hu
    obtain ⟨i, hi, rfl⟩ := hu
    have hi2 : i < (n - m) * z.cells.size := by simpa using hi
    have hs0 : 0 < z.cells.size := by
      rcases Nat.eq_zero_or_pos z.cells.size with h0 | h0
      · rw [h0] at hi2; omega
      · exact h0
    have hmod := Nat.mod_lt i hs0
    rw [getElem!_pos z.cells _ hmod]
    exact hone _ (Array.getElem_mem hmod)
  have hfit0 : m * d.sz + (n - m) * d.sz = n * d.sz := by rw [← Nat.add_mul]; congr 1; omega
  obtain ⟨_, inner, hown, _⟩ := id HO
  rcases hown.2 with ⟨hv, _⟩ | ⟨g', cap', cur, hv, hb, hh, hnc, hcm, hcs, htake⟩
  · cases hv
  injection hv with ha _ hc
  injection ha with ha
  injection ha with hg
  subst hg; subst hc
  have hle : n * d.sz ≤ cap * d.sz := Nat.mul_le_mul_right _ (by omega)
  obtain ⟨h1, h2⟩ := R_beyond HO m (by omega) (Builtin.zeroCells z.cells (n - m)).toList (by rw [hzl]; omega)
  have hst := run_storeCells_cells (P := P) g (m * d.sz) (Builtin.zeroCells z.cells (n - m)).toList 0 W (fun j hj => by rw [cell_of_row W g _ cur e (0, 0) hh]; simp; rw [hzl] at hj; omega) (fun j _ => blk_frozen hh _) hzo
  simp only [Nat.add_zero] at hst
  have hrun : (Builtin.clear_ #[t] o.type #[.slice (some ⟨g, m * d.sz, none⟩) (n - m) c]).run P W = .ok (.tuple #[]) (W.setCells g (m * d.sz) (Builtin.zeroCells z.cells (n - m)).toList) := by
    obtain ⟨i, hi, hi0⟩ := Option.map_eq_some_iff.1 hinfo
    have hv : (zeroValue e).run P W = .ok z W := by simp [zeroValue, typeInfo, hi, hi0]
    obtain ⟨k, hk⟩ : ∃ k, n - m = k + 1 := ⟨n - m - 1, by omega⟩
    rw [hk] at hst ⊢
    simp [Builtin.clear_, run_underlying ht, hv, hst]
  refine wpList_plain hgd fun K hK => ?_
  unfold Oper.wp execOp
  simp only [ho, resolve, invoke, builtin, Sem.run_bind, Sem.run_pure, Result.andThen_ok, List.map_toArray, List.map_cons, List.map_nil, hs, hrun]
  have := hK (a.put o.dst (.tuple #[])) _ (by rw [hd]; exact h _ h1 h2)
  exact this
/-- A predicate over fields that holds its answer whatever is done to one row (and to new blocks). -/
def RowPred (P : Program) (g : Nat) (lb : Array Value) (xs : List S45) (p : S45 → Bool) (w : World) (row : Option Nat) : Prop :=
  ∀ (W : World) (x : S45), x ∈ xs → w.grownBy W row → Calls P g (#[.agg #[.string x.f0, .string x.f1]] ++ lb) W fun e w' => e = .returned (.bool (p x)) ∧ Below W.heap.size W w'
theorem idxFrom_split (p : S45 → Bool) : ∀ (l : List S45) (k : Nat), (idxFrom p l k = -1 ∧ l.filter (fun x => !p x) = l) ∨ ∃ (i : Nat) (h : i < l.length), idxFrom p l k = k + i ∧ (l.take (i + 1)).filter (fun x => !p x) = l.take i
  | [], k => .inl ⟨rfl, rfl⟩
  | x :: l, k => by
    cases hp : p x
    · rw [idxFrom_no hp]
      rcases idxFrom_split p l (k + 1) with ⟨h1, h2⟩ | ⟨i, h, h1, h2⟩
      · exact .inl ⟨h1, by simp [hp, h2]⟩
      · exact .inr ⟨i + 1, by simpa using h, by rw [h1]; omega, by simp [hp, h2]⟩
    · rw [idxFrom_yes hp]
      exact .inr ⟨0, by simp, by simp, by simp [hp]⟩
set_option maxHeartbeats 2000000 in
set_option maxRecDepth 100000 in
theorem DeleteFunc_calls (v : Value) (xs : List S45) (base : Nat) (g : Nat) (lb : Array Value) (p : S45 → Bool) (w : World) (hR : Kd.R k45 45 w base (fun _ => True) v xs) (hlen : xs.length ≤ 140737488355328)
    (hp : RowPred Tryd.prog g lb xs p w v.ownBlock) (eg : ∀ args w, (callFunc g args).run Tryd.prog w = .ok (.enter g args) w) :
    Calls Tryd.prog 63 #[v, .func (.func g) #[] lb] w fun e w' => ∃ v' : Value, e = .returned v' ∧ Kd.R k45 45 w' base (fun _ => True) v' (xs.filter fun x => !p x) ∧ w.grownBy w' v.ownBlock ∧ v'.ownBlock = v.ownBlock := by
  have hu := Tryd.underlying22
  have hu2 := Tryd.underlying45
  obtain ⟨A, c, hv, hc, hC⟩ := Kd.R_reads hR
  have cI := fieldIndexFunc_calls A c xs g lb p w hC hc hlen (fun W x hx hb => hp W x hx (grown_of_below hb _)) eg
  rcases idxFrom_split p xs 0 with ⟨h1, h2⟩ | ⟨i0, hi0, h1, h2⟩
  · rw [h1] at cI
    rw [h2]
    obtain ⟨O, hO⟩ : ∃ O, v.ownBlock = O := ⟨_, rfl⟩
    rw [hO]
    have hR' := Lib.hid hR
    have hO' := Lib.hid hO
    clear hp hR hO
    subst hv
    go_enter Tryd.func63, Tryd.ntmps63
    go_wp2_with (go_at_call 84; refine cI.mono ?_; rintro e w' ⟨rfl, hb⟩)
    go_ret
    exact ⟨_, rfl, Kd.R_below hR'.out hb, grown_of_below hb _, hO'.out⟩
  · rw [h1] at cI
    rw [show ((0 : Nat) : Int) + (i0 : Int) = (i0 : Int) by omega] at cI
    obtain ⟨g0, cap, hv2, hgb, hgl, cells0, hg0⟩ := Kd.R_form hR (by omega)
    obtain ⟨R, hRR⟩ : ∃ R, xs.filter (fun x => !p x) = R := ⟨_, rfl⟩
    rw [hRR]
    have hRR' := Lib.hid hRR
    have h2' := Lib.hid h2
    have hR' := Lib.hid hR
    rw [hv2] at hv
    obtain ⟨rfl, rfl⟩ : some (⟨g0, 0, none⟩ : Addr) = A ∧ cap = c := by injection hv with h1 h2 h3; exact ⟨h1, h3⟩
    subst hv2
    have hp' := Lib.hid hp
    have ht0 : ((i0 : Int) == -1) = false := by rw [beq_eq_false_iff_ne]; omega
    clear hp hR hRR h2 hv hC
    go_enter Tryd.func63, Tryd.ntmps63
    go_wp2_with (go_at_call 84; refine cI.mono ?_; rintro e w' ⟨rfl, hb⟩)
    go_loopw [5, 6] (fun vi vj wr => ∃ (i j : Nat) (ys : List S45), i < j ∧ j ≤ xs.length ∧ vi = .int .i64 i ∧ vj = .int .i64 j ∧ Hid (ys.take i = (xs.take j).filter (fun x => !p x)) ∧ Hid (ys.drop j = xs.drop j) ∧ ys.length = xs.length ∧ Hid (Kd.R k45 45 wr base (fun _ => True) (.slice (some ⟨g0, 0, none⟩) xs.length cap) ys) ∧ w.grownBy wr (some g0)) (fun _ vj _ => xs.length - (intOf vj).toNat)
    case atStart => exact ⟨i0, i0 + 1, xs, by omega, by omega, rfl, by go_num, Lib.hid h2'.out.symm, Lib.hid rfl, rfl, Lib.hid (Kd.R_below hR'.out hb), grown_of_below hb _⟩
    case round =>
      clear cI h2' hR' hb hgl hg0
      obtain ⟨i, j, ys, hij, hj, rfl, rfl, hI, hJ, hyl, hQ, hG⟩ := hrel
      by_cases hlt : j < xs.length
      · have hJ2 := hJ.out
        rw [List.drop_eq_getElem_cons hlt, List.drop_eq_getElem_cons (by omega : j < ys.length)] at hJ2
        injection hJ2 with hJ3 hJ4
        have hI2 := hI.out
        have htk : (xs.take (j + 1)).filter (fun x => !p x) = (xs.take j).filter (fun x => !p x) ++ (if p (xs[j]'hlt) = true then [] else [xs[j]'hlt]) := by
          rw [List.take_succ_eq_append_getElem hlt, List.filter_append]
          congr 1
          cases hh : p (xs[j]'hlt) <;> simp [hh]
        obtain ⟨cs, _, hM, hcc, _⟩ := Kd.R_elem hQ.out ⟨⟨#[]⟩, ⟨#[]⟩⟩ (j : Int) (by omega) (by omega)
        rw [show ((j : Int)).toNat = j from rfl, List.getD_eq_getElem?_getD, List.getElem?_eq_getElem (by omega : j < ys.length), Option.getD_some, hJ3] at hM
        have hcs := k45_openM hM
        subst hcs
        have hcell0 : wr.cell? ⟨g0, j * 2, none⟩ = some (.string (xs[j]'hlt).f0) := hcc 0 _ rfl
        have hcell1 : wr.cell? ⟨g0, j * 2 + 1, none⟩ = some (.string (xs[j]'hlt).f1) := hcc 1 _ rfl
        have hm : xs[j]'hlt ∈ xs := List.getElem_mem _
        have cS := fun (W : World) (h : w.grownBy W (some g0)) => hp'.out W (xs[j]'hlt) hm h
        have hJ5 := Lib.hid hJ4
        clear hcc hM hJ hJ4 hJ3 hI hm
        generalize xs[j]'hlt = x at hcell0 hcell1 cS htk
        cases hpx : p x
        · rw [hpx, if_neg (by decide)] at htk
          simp only [hpx] at cS
          rw [← hI2] at htk
          have htk2 := Lib.hid htk
          clear htk hI2 hpx
          have hbox0 := fun o => show (wr.alloc (Obj.cells #[Value.string x.f0, Value.string x.f1] o)).cell? ⟨wr.heap.size, 0, none⟩ = some (.string x.f0) from by rw [World.cell?_alloc_mark]; rfl
          have hbox1 := fun o => show (wr.alloc (Obj.cells #[Value.string x.f0, Value.string x.f1] o)).cell? ⟨wr.heap.size, 1, none⟩ = some (.string x.f1) from by rw [World.cell?_alloc_mark]; rfl
          have hQ2 := fun (W' : World) (h : Below wr.heap.size wr W') => Kd.R_below hQ.out h
          clear hQ
          go_wp2_with (first | (go_at_fn g; refine (cS _ (hG.trans (World.grownBy_alloc wr _ _))).mono ?_; rintro e W' ⟨rfl, hbc⟩; have hW : Below wr.heap.size wr W' := (below_alloc (Below.refl _ _) _).trans (hbc.mono (by simp)); have hc0 := pw_cell_below hbc (hbox0 _); have hc1 := pw_cell_below hbc (hbox1 _); have hQ3 := hQ2 W' hW; have hG3 := hG.trans (grown_of_below hW _); clear hbox0 hbox1 hcell0 hcell1 hQ2 hG hbc hW) | ((with_reducible refine gate_ (.store 45 (.tmp 33) (.tmp 32)) rfl ?_); (obtain ⟨cs, hcl, _, hcc, _⟩ := Kd.R_elem hQ3 ⟨⟨#[]⟩, ⟨#[]⟩⟩ (i : Int) (by omega) (by omega)); refine Kd.R_store k45 (w0 := W') base rfl rfl 45 (.tmp 33) (.tmp 32) rfl 45 (i : Int) 0 _ x _ [.string x.f0, .string x.f1] cs (fun _ => True) (fun _ => False) rfl (by simp [show k45.sz = 2 from rfl]) rfl rfl rfl (by simp [Value.oneCell']) hQ3 (by omega) (by omega) hcl hcc (Nat.le_refl _) ?hM (fun _ h => h.elim) (Below.refl _ _) ?_; (case hM => rw [List.take_zero, List.nil_append, List.drop_of_length_le (by rw [hcl]; exact Nat.le_refl _), List.append_nil]; exact k45_mkM _ _ _ x); intro w3 hv3 hb3 hg3; rw [show ((i : Int)).toNat = i from rfl] at hv3; clear hcc hcl hQ3 hb3))
          have hl3 : i < ys.length := by omega
          have e1 : (ys.set i x).take (i + 1) = ys.take i ++ [x] := by rw [List.take_succ_eq_append_getElem (by simpa using hl3), List.take_set_of_le (Nat.le_refl _), List.getElem_set_self]
          have e2 : (ys.set i x).drop (j + 1) = ys.drop (j + 1) := by rw [List.drop_set_of_lt (by omega)]
          go_roundw
          case rel => exact ⟨i + 1, j + 1, ys.set i x, by omega, by omega, by go_num, by go_num, Lib.hid (e1.trans htk2.out.symm), Lib.hid (e2.trans hJ5.out), by rw [List.length_set]; exact hyl, Lib.hid hv3, hG3.trans hg3⟩
          case measure => simp [intOf]; omega
        · rw [hpx, if_pos rfl, List.append_nil] at htk
          simp only [hpx] at cS
          rw [← hI2] at htk
          have htk2 := Lib.hid htk
          clear htk hI2 hpx
          go_wp2_with (go_at_fn g; refine (cS _ (hG.trans (World.grownBy_alloc wr _ _))).mono ?_; rintro e W' ⟨rfl, hbc⟩)
          have hW : Below wr.heap.size wr W' := (below_alloc (Below.refl _ _) _).trans (hbc.mono (by simp))
          go_wp2
          go_roundw
          case rel => exact ⟨i, j + 1, ys, by omega, by omega, rfl, by go_num, Lib.hid htk2.out.symm, hJ5, hyl, Lib.hid (Kd.R_below hQ.out hW), hG.trans (grown_of_below hW _)⟩
          case measure => simp [intOf]; omega
      · obtain rfl : j = xs.length := by omega
        clear hj hlt hJ
        rw [List.take_length] at hI
        go_wp2_with ((with_reducible refine gate_builtin (b := .clear) (xs := #[.tmp 38]) rfl ?_); refine R_clear k45 base rfl rfl (.tmp 38) 22 45 rfl Tryd.underlying22 (.agg #[.string ⟨#[]⟩, .string ⟨#[]⟩]) rfl rfl (by simp [Value.cells, Value.oneCell']) ys (fun _ => True) rfl rfl hQ.out hij ?_; intro w3 hv3 hg3; clear hQ)
        go_ret
        refine ⟨_, rfl, ?_, hG.trans hg3, rfl⟩
        rw [← hRR'.out, ← hI.out]
        exact hv3
end Go.Proofs.YtdbokcgjdkbknaaDoor.Hand
namespace Go.Proofs.YtdbokcgjdkbknaaDoor.Hand
open Go.RowKit Go.Proofs.YtdbokcgjdkbknaaDoorW.PrintWords Go.Proofs.YtdbokcgjdkbknaaDoorW.PrintLast Go.Proofs.YtdbokcgjdkbknaaDoorW.PrintMore
set_option linter.unusedVariables false
set_option linter.unusedSimpArgs false
theorem namedRow (A : Option Addr) (c : Nat) (names : List ByteArray) (gn : Nat) (xs : List S45) (w : World) (row : Option Nat) (hcell : w.cell? ⟨gn, 0, none⟩ = some (.slice A names.length c)) (hne : some gn ≠ row) (hC : ∀ W, w.grownBy W row → Kd.C Kd.string W A names.length names) (hc : names.length ≤ c) (hlen : names.length ≤ 140737488355328)
    (hn : ∀ n ∈ names, n.size ≤ 140737488355328) (hx : small xs) : RowPred Tryd.prog 78 #[.pointer (some ⟨gn, 0, none⟩)] xs (isNamed names) w row :=
  fun W x hm hg => named1_calls A c names x gn W (hg.cell hcell hne) (hC W hg) hc hlen hn (hx x hm)
set_option maxHeartbeats 1000000 in
set_option maxRecDepth 100000 in
theorem Without_calls (A : Option Addr) (c : Nat) (l : List S45) (B : Option Addr) (cn : Nat) (names : List ByteArray) (w : World) (hr : Kd.C k45 w A l.length l) (hrn : Kd.C Kd.string w B names.length names) (hlen : l.length ≤ 4398046511104) (hcn : names.length ≤ cn) (hnl : names.length ≤ 140737488355328)
    (hn : ∀ n ∈ names, n.size ≤ 140737488355328) (hx : small l) :
    Calls Tryd.prog 37 #[.slice A l.length c, .slice B names.length cn] w fun e w' => ∃ v : Value, e = .returned v ∧ Kd.R k45 45 w' w.heap.size (fun _ => True) v (l.filter fun x => !isNamed names x) ∧ Below w.heap.size w w' := by
  have hr' := Lib.hid hr
  have hrn' := Lib.hid hrn
  have eg := enters_of Tryd.func78 (by kernel_rfl) rfl
  clear hr hrn
  go_enter Tryd.func37, Tryd.ntmps37
  go_wp2_with (first | (go_at_call 64; refine (Clone_calls A c l _ hr'.out hlen).mono ?_; rintro e w1 ⟨v1, rfl, hv1, hb1⟩) | (go_at_call 58; refine (named_calls _ _ _ _).mono ?_; rintro e w2 ⟨rfl, hw2⟩) | (go_at_call 63; have hb2 : Below w.heap.size w (w1.alloc (.cells #[.slice B names.length cn] 49)) := hb1.alloc hb1.size _; refine (DeleteFunc_calls v1 l w.heap.size _ _ (isNamed names) _ (Kd.R_alloc hv1 _) (by omega) (namedRow B cn names w1.heap.size l _ v1.ownBlock (by rw [World.cell?_alloc_mark]; rfl) (fun he => by have := Kd.R_lt hv1 _ he.symm; omega) (fun W hg => Kd.C_below hrn'.out (hb2.grown hg hb2.size (Kd.R_base hv1))) hcn hnl hn hx) eg).mono ?_; rintro e w4 ⟨v4, rfl, hv4, hg4, ho4⟩; have hb4 := hb2.grown hg4 hb2.size (Kd.R_base hv1)))
  go_ret
  exact ⟨_, rfl, hv4, hb4⟩
end Go.Proofs.YtdbokcgjdkbknaaDoor.Hand
namespace Go.Proofs.YtdbokcgjdkbknaaDoor.Hand
open Go.RowKit Go.Proofs.YtdbokcgjdkbknaaDoorW.PrintWords Go.Proofs.YtdbokcgjdkbknaaDoorW.PrintLast Go.Proofs.YtdbokcgjdkbknaaDoorW.PrintMore
set_option linter.unusedVariables false
set_option linter.unusedSimpArgs false
def smallB (l : List S45) : Bool := l.all fun x => decide (x.f0.size ≤ 140737488355328)
theorem small_of {l : List S45} (h : smallB l = true) : small l := fun x hm => of_decide_eq_true (List.all_eq_true.1 h x hm)
def shortB (l : List ByteArray) : Bool := l.all fun x => decide (x.size ≤ 140737488355328)
theorem short_of {l : List ByteArray} (h : shortB l = true) : ∀ n ∈ l, n.size ≤ 140737488355328 := fun x hm => of_decide_eq_true (List.all_eq_true.1 h x hm)

def header_All.f (l0 : List S45) (a1 : ByteArray) : Option (List ByteArray) := if l0.length ≤ 4398046511000 ∧ a1.size ≤ 140737488355328 ∧ smallB l0 = true then some (allS l0 a1) else none
theorem header_All.calls (A0 : Option Addr) (c0 : Nat) (l0 : List (S45)) (a1 : ByteArray) (r : List ByteArray) (w : World) (hr0 : Kd.C k45 w A0 l0.length l0) (hc0 : l0.length ≤ c0) (h : header_All.f l0 a1 = some r) :
    Calls Tryd.prog 31 #[.slice A0 l0.length c0, .string a1] w fun e w' => ∃ v0_ : Value, e = .returned (v0_) ∧ Kd.R Kd.string 9 w' w.heap.size (fun _ => True) v0_ r ∧ Below w.heap.size w w' := by
  unfold header_All.f at h
  split at h
  · rename_i hc
    obtain rfl := Option.some.inj h
    exact All_calls A0 c0 l0 a1 w hr0 hc0 (by omega) hc.2.1 (small_of hc.2.2)
  · exact absurd h (by simp)

def header_With.f (l0 : List S45) (a1 a2 : ByteArray) : Option (List S45) := if l0.length ≤ 4398046511000 then some (l0 ++ [⟨a1, a2⟩]) else none
theorem header_With.calls (A0 : Option Addr) (c0 : Nat) (l0 : List (S45)) (a1 : ByteArray) (a2 : ByteArray) (r : List S45) (w : World) (hr0 : Kd.C k45 w A0 l0.length l0) (hc0 : l0.length ≤ c0) (h : header_With.f l0 a1 a2 = some r) :
    Calls Tryd.prog 36 #[.slice A0 l0.length c0, .string a1, .string a2] w fun e w' => ∃ v0_ : Value, e = .returned (v0_) ∧ Kd.R k45 45 w' w.heap.size (fun _ => True) v0_ r ∧ Below w.heap.size w w' := by
  unfold header_With.f at h
  split at h
  · rename_i hc
    obtain rfl := Option.some.inj h
    exact With_calls A0 c0 l0 a1 a2 w hr0 (by omega)
  · exact absurd h (by simp)

def header_Without.f (l0 : List S45) (l1 : List ByteArray) : Option (List S45) := if l0.length ≤ 4398046511000 ∧ l1.length ≤ 140737488355328 ∧ shortB l1 = true ∧ smallB l0 = true then some (l0.filter fun x => !isNamed l1 x) else none
theorem header_Without.calls (A0 : Option Addr) (c0 : Nat) (l0 : List (S45)) (A1 : Option Addr) (c1 : Nat) (l1 : List ByteArray) (r : List S45) (w : World) (hr0 : Kd.C k45 w A0 l0.length l0) (hc0 : l0.length ≤ c0) (hr1 : Kd.C Kd.string w A1 l1.length l1) (hc1 : l1.length ≤ c1) (h : header_Without.f l0 l1 = some r) :
    Calls Tryd.prog 37 #[.slice A0 l0.length c0, .slice A1 l1.length c1] w fun e w' => ∃ v0_ : Value, e = .returned (v0_) ∧ Kd.R k45 45 w' w.heap.size (fun _ => True) v0_ r ∧ Below w.heap.size w w' := by
  unfold header_Without.f at h
  split at h
  · rename_i hc
    obtain rfl := Option.some.inj h
    exact Without_calls A0 c0 l0 A1 c1 l1 w hr0 hr1 (by omega) hc1 hc.2.1 (short_of hc.2.2.1) (small_of hc.2.2.2)
  · exact absurd h (by simp)

end Go.Proofs.YtdbokcgjdkbknaaDoor.Hand
