/- Hand walks: slices.DeleteFunc at fields. -/
import Derived.Test.YtdbokcgjdkbknaaHeaderD
namespace Go.Proofs.Ytdbokcgjdkbknaa.Hand
open Go.RowKit Go.Proofs.YtdbokcgjdkbknaaW.PrintWords Go.Proofs.YtdbokcgjdkbknaaW.PrintLast Go.Proofs.YtdbokcgjdkbknaaW.PrintMore
set_option linter.unusedVariables false
set_option linter.unusedSimpArgs false
/-- Cells behind the first m elements of a row of one's own are written: the first m stand. -/
theorem R_beyond {α : Type} {d : Kd α} {e base g n cap : Nat} {ok : Nat → Prop} {W : World} {xs : List α} (h : d.R e W base ok (.slice (some ⟨g, 0, none⟩) n cap) xs) (m : Nat) (hm : m ≤ n) (seg : List Value) (hfit : m * d.sz + seg.length ≤ cap * d.sz) :
    d.R e (W.setCells g (m * d.sz) seg) base ok (.slice (some ⟨g, 0, none⟩) m cap) (xs.take m) ∧ W.grownBy (W.setCells g (m * d.sz) seg) (some g) := by
  have hnx : n = xs.length := (Kd.R_reads' h).1
  obtain ⟨hok, inner, hown, hr⟩ := Kd.R_take h (by omega : m ≤ xs.length)
  obtain ⟨s1, s2, s3, s4⟩ := setCells_same g seg (m * d.sz) W
  have hfar : ∀ k, k ≠ g → (W.setCells g (m * d.sz) seg).heap[k]? = W.heap[k]? := fun k hk => setCells_far seg _ k hk
  refine ⟨⟨hok, inner, ?_, hr.imp_ (fun _ _ hq => d.M_move (fun k hk => hfar k (fun he => hk.2 (by rw [he]; simp [Value.ownBlock]))) hq)⟩, ⟨s1, s2, s3, by rw [s4]; exact Nat.le_refl _, fun k _ hk => hfar k (fun he => hk (by rw [he]))⟩⟩
  have hlm : (xs.take m).length = m := by rw [List.length_take]; omega
  rw [hlm] at hown ⊢
  rcases hown.2 with ⟨hv, _⟩ | ⟨g', cap', cur, hv, hb, hh, hnc, hcm, hcs, htake⟩
  · cases hv
  injection hv with ha _ hc
  injection ha with ha
  injection ha with hg
  subst hg; subst hc
  obtain ⟨cur', h3, h4, h5⟩ := setCells_row seg (m * d.sz) W cur hh (by omega)
  refine ⟨hown.1, .inr ⟨g, cap, cur', rfl, hb, h3, hnc, hcm, by rw [h4, hcs], ?_⟩⟩
  have hl : (cur.toList.take (m * d.sz)).length = m * d.sz := by rw [List.length_take, Array.length_toList]; omega
  rw [h5, List.append_assoc, List.take_append_of_le_length (by rw [hl]; exact Nat.le_refl _), List.take_of_length_le (by rw [hl]; exact Nat.le_refl _)]
  exact htake
/-- clear(s[m:]), s a row of one's own: its first m elements stand. -/
theorem R_clear {P : Program} {ops : Array Oper} {rest : List Oper} {o : Oper} {a : Act} {Q : Exit → Act → World → Prop} {α : Type} (d : Kd α) {W : World} (base : Nat) (hgd : o.guard = none) (hd : o.dst = none) (s : Operand) (t e : TypeId)
    (ho : o.op = .call { callee := .builtin .clear, args := #[s], argTypes := #[t] }) (ht : P.underlying t = some (.slice e)) (z : Value) (hinfo : (P.info? e).map (·.zero) = some (some z)) (hz : z.cells.size = d.sz) (hone : ∀ u ∈ z.cells, u.oneCell' = true)
    {g n cap c m q : Nat} (xs : List α) (ok : Nat → Prop) (hs : a.eval s = .slice (some ⟨g, q, none⟩) (n - m) c) (hq : q = m * d.sz)
    (HO : d.R e W base ok (.slice (some ⟨g, 0, none⟩) n cap) xs) (hmn : m < n)
    (h : ∀ w1, d.R e w1 base ok (.slice (some ⟨g, 0, none⟩) m cap) (xs.take m) → W.grownBy w1 (some g) → wpList P ops Q rest a w1) :
    wpList P ops Q (o :: rest) a W := by
  subst hq
  have hnx : n = xs.length := (Kd.R_reads' HO).1
  have hzl : (Builtin.zeroCells z.cells (n - m)).toList.length = (n - m) * d.sz := by simp [Builtin.zeroCells, hz]
  have hzo : ∀ u ∈ (Builtin.zeroCells z.cells (n - m)).toList, u.oneCell' = true := by
    intro u hu
    simp only [Builtin.zeroCells, Array.toList_map, List.mem_map] at hu
    obtain ⟨i, hi, rfl⟩ := hu
    have hi2 : i < (n - m) * z.cells.size := by simpa using hi
    have hs0 : 0 < z.cells.size := by
      rcases Nat.eq_zero_or_pos z.cells.size with h0 | h0
      · rw [h0] at hi2; omega
      · exact h0
    have hmod := Nat.mod_lt i hs0
    rw [getElem!_pos z.cells _ hmod]
    exact hone _ (Array.getElem_mem hmod)
  have hfit0 : m * d.sz + (n - m) * d.sz = n * d.sz := by rw [← Nat.add_mul]; congr 1; omega
  obtain ⟨_, inner, hown, _⟩ := id HO
  rcases hown.2 with ⟨hv, _⟩ | ⟨g', cap', cur, hv, hb, hh, hnc, hcm, hcs, htake⟩
  · cases hv
  injection hv with ha _ hc
  injection ha with ha
  injection ha with hg
  subst hg; subst hc
  have hle : n * d.sz ≤ cap * d.sz := Nat.mul_le_mul_right _ (by omega)
  obtain ⟨h1, h2⟩ := R_beyond HO m (by omega) (Builtin.zeroCells z.cells (n - m)).toList (by rw [hzl]; omega)
  have hst := run_storeCells_cells (P := P) g (m * d.sz) (Builtin.zeroCells z.cells (n - m)).toList 0 W (fun j hj => by rw [cell_of_row W g _ cur e (0, 0) hh]; simp; rw [hzl] at hj; omega) (fun j _ => blk_frozen hh _) hzo
  simp only [Nat.add_zero] at hst
  have hrun : (Builtin.clear_ #[t] o.type #[.slice (some ⟨g, m * d.sz, none⟩) (n - m) c]).run P W = .ok (.tuple #[]) (W.setCells g (m * d.sz) (Builtin.zeroCells z.cells (n - m)).toList) := by
    obtain ⟨i, hi, hi0⟩ := Option.map_eq_some_iff.1 hinfo
    have hv : (zeroValue e).run P W = .ok z W := by simp [zeroValue, typeInfo, hi, hi0]
    obtain ⟨k, hk⟩ : ∃ k, n - m = k + 1 := ⟨n - m - 1, by omega⟩
    rw [hk] at hst ⊢
    simp [Builtin.clear_, run_underlying ht, hv, hst]
  refine wpList_plain hgd fun K hK => ?_
  unfold Oper.wp execOp
  simp only [ho, resolve, invoke, builtin, Sem.run_bind, Sem.run_pure, Result.andThen_ok, List.map_toArray, List.map_cons, List.map_nil, hs, hrun]
  have := hK (a.put o.dst (.tuple #[])) _ (by rw [hd]; exact h _ h1 h2)
  exact this
/-- A predicate over fields that holds its answer whatever is done to one row (and to new blocks). -/
def RowPred (P : Program) (g : Nat) (lb : Array Value) (xs : List S61) (p : S61 → Bool) (w : World) (row : Option Nat) : Prop :=
  ∀ (W : World) (x : S61), x ∈ xs → w.grownBy W row → Calls P g (#[.agg #[.string x.f0, .string x.f1]] ++ lb) W fun e w' => e = .returned (.bool (p x)) ∧ Below W.heap.size W w'
theorem idxFrom_split (p : S61 → Bool) : ∀ (l : List S61) (k : Nat), (idxFrom p l k = -1 ∧ l.filter (fun x => !p x) = l) ∨ ∃ (i : Nat) (h : i < l.length), idxFrom p l k = k + i ∧ (l.take (i + 1)).filter (fun x => !p x) = l.take i
  | [], k => .inl ⟨rfl, rfl⟩
  | x :: l, k => by
    cases hp : p x
    · rw [idxFrom_no hp]
      rcases idxFrom_split p l (k + 1) with ⟨h1, h2⟩ | ⟨i, h, h1, h2⟩
      · exact .inl ⟨h1, by simp [hp, h2]⟩
      · exact .inr ⟨i + 1, by simpa using h, by rw [h1]; omega, by simp [hp, h2]⟩
    · rw [idxFrom_yes hp]
      exact .inr ⟨0, by simp, by simp, by simp [hp]⟩
set_option maxHeartbeats 2000000 in
set_option maxRecDepth 100000 in
theorem DeleteFunc_calls (v : Value) (xs : List S61) (base : Nat) (g : Nat) (lb : Array Value) (p : S61 → Bool) (w : World) (hR : Kd.R k61 61 w base (fun _ => True) v xs) (hlen : xs.length ≤ 140737488355328)
    (hp : RowPred Try.prog g lb xs p w v.ownBlock) (eg : ∀ args w, (callFunc g args).run Try.prog w = .ok (.enter g args) w) :
    Calls Try.prog 66 #[v, .func (.func g) #[] lb] w fun e w' => ∃ v' : Value, e = .returned v' ∧ Kd.R k61 61 w' base (fun _ => True) v' (xs.filter fun x => !p x) ∧ w.grownBy w' v.ownBlock ∧ v'.ownBlock = v.ownBlock := by
  have hu := Try.underlying25
  have hu2 := Try.underlying61
  obtain ⟨A, c, hv, hc, hC⟩ := Kd.R_reads hR
  have cI := fieldIndexFunc_calls A c xs g lb p w hC hc hlen (fun W x hx hb => hp W x hx (grown_of_below hb _)) eg
  rcases idxFrom_split p xs 0 with ⟨h1, h2⟩ | ⟨i0, hi0, h1, h2⟩
  · rw [h1] at cI
    rw [h2]
    obtain ⟨O, hO⟩ : ∃ O, v.ownBlock = O := ⟨_, rfl⟩
    rw [hO]
    have hR' := Lib.hid hR
    have hO' := Lib.hid hO
    clear hp hR hO
    subst hv
    go_enter Try.func66, Try.ntmps66
    go_wp2_with (go_at_call 63; refine cI.mono ?_; rintro e w' ⟨rfl, hb⟩)
    go_ret
    exact ⟨_, rfl, Kd.R_below hR'.out hb, grown_of_below hb _, hO'.out⟩
  · rw [h1] at cI
    rw [show ((0 : Nat) : Int) + (i0 : Int) = (i0 : Int) by omega] at cI
    obtain ⟨g0, cap, hv2, hgb, hgl, cells0, hg0⟩ := Kd.R_form hR (by omega)
    obtain ⟨R, hRR⟩ : ∃ R, xs.filter (fun x => !p x) = R := ⟨_, rfl⟩
    rw [hRR]
    have hRR' := Lib.hid hRR
    have h2' := Lib.hid h2
    have hR' := Lib.hid hR
    rw [hv2] at hv
    obtain ⟨rfl, rfl⟩ : some (⟨g0, 0, none⟩ : Addr) = A ∧ cap = c := by injection hv with h1 h2 h3; exact ⟨h1, h3⟩
    subst hv2
    have hp' := Lib.hid hp
    have ht0 : ((i0 : Int) == -1) = false := by rw [beq_eq_false_iff_ne]; omega
    clear hp hR hRR h2 hv hC
    go_enter Try.func66, Try.ntmps66
    go_wp2_with (go_at_call 63; refine cI.mono ?_; rintro e w' ⟨rfl, hb⟩)
    go_loopw [5, 6] (fun vi vj wr => ∃ (i j : Nat) (ys : List S61), i < j ∧ j ≤ xs.length ∧ vi = .int .i64 i ∧ vj = .int .i64 j ∧ Hid (ys.take i = (xs.take j).filter (fun x => !p x)) ∧ Hid (ys.drop j = xs.drop j) ∧ ys.length = xs.length ∧ Hid (Kd.R k61 61 wr base (fun _ => True) (.slice (some ⟨g0, 0, none⟩) xs.length cap) ys) ∧ w.grownBy wr (some g0)) (fun _ vj _ => xs.length - (intOf vj).toNat)
    case atStart => exact ⟨i0, i0 + 1, xs, by omega, by omega, rfl, by go_num, Lib.hid h2'.out.symm, Lib.hid rfl, rfl, Lib.hid (Kd.R_below hR'.out hb), grown_of_below hb _⟩
    case round =>
      clear cI h2' hR' hb hgl hg0
      obtain ⟨i, j, ys, hij, hj, rfl, rfl, hI, hJ, hyl, hQ, hG⟩ := hrel
      by_cases hlt : j < xs.length
      · have hJ2 := hJ.out
        rw [List.drop_eq_getElem_cons hlt, List.drop_eq_getElem_cons (by omega : j < ys.length)] at hJ2
        injection hJ2 with hJ3 hJ4
        have hI2 := hI.out
        have htk : (xs.take (j + 1)).filter (fun x => !p x) = (xs.take j).filter (fun x => !p x) ++ (if p (xs[j]'hlt) = true then [] else [xs[j]'hlt]) := by
          rw [List.take_succ_eq_append_getElem hlt, List.filter_append]
          congr 1
          cases hh : p (xs[j]'hlt) <;> simp [hh]
        obtain ⟨cs, _, hM, hcc, _⟩ := Kd.R_elem hQ.out ⟨⟨#[]⟩, ⟨#[]⟩⟩ (j : Int) (by omega) (by omega)
        rw [show ((j : Int)).toNat = j from rfl, List.getD_eq_getElem?_getD, List.getElem?_eq_getElem (by omega : j < ys.length), Option.getD_some, hJ3] at hM
        have hcs := k61_openM hM
        subst hcs
        have hcell0 : wr.cell? ⟨g0, j * 2, none⟩ = some (.string (xs[j]'hlt).f0) := hcc 0 _ rfl
        have hcell1 : wr.cell? ⟨g0, j * 2 + 1, none⟩ = some (.string (xs[j]'hlt).f1) := hcc 1 _ rfl
        have hm : xs[j]'hlt ∈ xs := List.getElem_mem _
        have cS := fun (W : World) (h : w.grownBy W (some g0)) => hp'.out W (xs[j]'hlt) hm h
        have hJ5 := Lib.hid hJ4
        clear hcc hM hJ hJ4 hJ3 hI hm
        generalize xs[j]'hlt = x at hcell0 hcell1 cS htk
        cases hpx : p x
        · rw [hpx, if_neg (by decide)] at htk
          simp only [hpx] at cS
          rw [← hI2] at htk
          have htk2 := Lib.hid htk
          clear htk hI2 hpx
          have hbox0 := fun o => show (wr.alloc (Obj.cells #[Value.string x.f0, Value.string x.f1] o)).cell? ⟨wr.heap.size, 0, none⟩ = some (.string x.f0) from by rw [World.cell?_alloc_mark]; rfl
          have hbox1 := fun o => show (wr.alloc (Obj.cells #[Value.string x.f0, Value.string x.f1] o)).cell? ⟨wr.heap.size, 1, none⟩ = some (.string x.f1) from by rw [World.cell?_alloc_mark]; rfl
          have hQ2 := fun (W' : World) (h : Below wr.heap.size wr W') => Kd.R_below hQ.out h
          clear hQ
          go_wp2_with (first | (go_at_fn g; refine (cS _ (hG.trans (World.grownBy_alloc wr _ _))).mono ?_; rintro e W' ⟨rfl, hbc⟩; have hW : Below wr.heap.size wr W' := (below_alloc (Below.refl _ _) _).trans (hbc.mono (by simp)); have hc0 := pw_cell_below hbc (hbox0 _); have hc1 := pw_cell_below hbc (hbox1 _); have hQ3 := hQ2 W' hW; have hG3 := hG.trans (grown_of_below hW _); clear hbox0 hbox1 hcell0 hcell1 hQ2 hG hbc hW) | ((with_reducible refine gate_ (.store 61 (.tmp 33) (.tmp 32)) rfl ?_); (obtain ⟨cs, hcl, _, hcc, _⟩ := Kd.R_elem hQ3 ⟨⟨#[]⟩, ⟨#[]⟩⟩ (i : Int) (by omega) (by omega)); refine Kd.R_store k61 (w0 := W') base rfl rfl 61 (.tmp 33) (.tmp 32) rfl 61 (i : Int) 0 _ x _ [.string x.f0, .string x.f1] cs (fun _ => True) (fun _ => False) rfl (by simp [show k61.sz = 2 from rfl]) rfl rfl rfl (by simp [Value.oneCell']) hQ3 (by omega) (by omega) hcl hcc (Nat.le_refl _) ?hM (fun _ h => h.elim) (Below.refl _ _) ?_; (case hM => rw [List.take_zero, List.nil_append, List.drop_of_length_le (by rw [hcl]; exact Nat.le_refl _), List.append_nil]; exact k61_mkM _ _ _ x); intro w3 hv3 hb3 hg3; rw [show ((i : Int)).toNat = i from rfl] at hv3; clear hcc hcl hQ3 hb3))
          have hl3 : i < ys.length := by omega
          have e1 : (ys.set i x).take (i + 1) = ys.take i ++ [x] := by rw [List.take_succ_eq_append_getElem (by simpa using hl3), List.take_set_of_le (Nat.le_refl _), List.getElem_set_self]
          have e2 : (ys.set i x).drop (j + 1) = ys.drop (j + 1) := by rw [List.drop_set_of_lt (by omega)]
          go_roundw
          case rel => exact ⟨i + 1, j + 1, ys.set i x, by omega, by omega, by go_num, by go_num, Lib.hid (e1.trans htk2.out.symm), Lib.hid (e2.trans hJ5.out), by rw [List.length_set]; exact hyl, Lib.hid hv3, hG3.trans hg3⟩
          case measure => simp [intOf]; omega
        · rw [hpx, if_pos rfl, List.append_nil] at htk
          simp only [hpx] at cS
          rw [← hI2] at htk
          have htk2 := Lib.hid htk
          clear htk hI2 hpx
          go_wp2_with (go_at_fn g; refine (cS _ (hG.trans (World.grownBy_alloc wr _ _))).mono ?_; rintro e W' ⟨rfl, hbc⟩)
          have hW : Below wr.heap.size wr W' := (below_alloc (Below.refl _ _) _).trans (hbc.mono (by simp))
          go_wp2
          go_roundw
          case rel => exact ⟨i, j + 1, ys, by omega, by omega, rfl, by go_num, Lib.hid htk2.out.symm, hJ5, hyl, Lib.hid (Kd.R_below hQ.out hW), hG.trans (grown_of_below hW _)⟩
          case measure => simp [intOf]; omega
      · obtain rfl : j = xs.length := by omega
        clear hj hlt hJ
        rw [List.take_length] at hI
        go_wp2_with ((with_reducible refine gate_builtin (b := .clear) (xs := #[.tmp 38]) rfl ?_); refine R_clear k61 base rfl rfl (.tmp 38) 25 61 rfl Try.underlying25 (.agg #[.string ⟨#[]⟩, .string ⟨#[]⟩]) rfl rfl (by simp [Value.cells, Value.oneCell']) ys (fun _ => True) rfl rfl hQ.out hij ?_; intro w3 hv3 hg3; clear hQ)
        go_ret
        refine ⟨_, rfl, ?_, hG.trans hg3, rfl⟩
        rw [← hRR'.out, ← hI.out]
        exact hv3
end Go.Proofs.Ytdbokcgjdkbknaa.Hand
