/- Hand walks: slices.Clone, header.With. -/
import Derived.Test.YtdbokcgjdkbknaaHeaderC
namespace Go.Proofs.Ytdbokcgjdkbknaa.Hand
open Go.RowKit Go.Proofs.YtdbokcgjdkbknaaW.PrintWords Go.Proofs.YtdbokcgjdkbknaaW.PrintLast Go.Proofs.YtdbokcgjdkbknaaW.PrintMore
set_option linter.unusedVariables false
set_option linter.unusedSimpArgs false
set_option maxHeartbeats 1000000 in
set_option maxRecDepth 100000 in
theorem Clone_calls (A : Option Addr) (c : Nat) (l : List S61) (w : World) (hr : Kd.C k61 w A l.length l) (hlen : l.length ≤ 4398046511104) :
    Calls Try.prog 67 #[.slice A l.length c] w fun e w' => ∃ v : Value, e = .returned v ∧ Kd.R k61 61 w' w.heap.size (fun _ => True) v l ∧ Below w.heap.size w w' := by
  have hr' := Lib.hid hr
  have hE : ∀ W, (binOp .eql 25 (.slice A l.length c) (.slice none 0 0)).run Try.prog W = .ok (.bool A.isNone) W := fun W => Lib.run_eql_slice_nil W _ _ _ _ _ _ _ Try.underlying25
  rcases A with _ | ad
  · have hl0 : l.length = 0 := by
      rcases Nat.eq_zero_or_pos l.length with h0 | h0
      · exact h0
      · obtain ⟨ad, h, _⟩ := hr.2.2 h0
        cases h
    rw [hl0] at hE
    obtain rfl : l = [] := List.eq_nil_of_length_eq_zero hl0
    clear hr hr' hl0
    go_enter Try.func67, Try.ntmps67
    go_wp2
    go_ret
    exact ⟨_, rfl, Kd.R_nil _ _ _ _ _, Below.refl _ _⟩
  · clear hr
    go_enter Try.func67, Try.ntmps67
    go_wp2_with (first | ((with_reducible refine gate_dst (N := 5) rfl ?_); refine Kd.R_lit k61 _ 61 ?hg (N := 5) ?hd (xs := ([] : List S61)) (inner := []) (ok := fun _ => True) (okp := fun _ => True) ?hr ?hp (fun _ hk => hk) trivial (Below.refl _ _) (Nat.le_refl _) (by simp) ?_; (case hd => rfl); (case hg => rfl); (case hr => first | (go_simp; done) | (go_simp; rfl)); (case hp => exact (Reps.none _ _)); intro v133 w3 ho4 hb hg_ hnew_; clear hg_ hnew_) | ((with_reducible refine gate_builtin (b := .append) (xs := #[.tmp 5, .tmp 6]) rfl ?_); at_builtin; refine Kd.R_append_rows k61 (w0 := w) w.heap.size rfl (.tmp 5) (.tmp 6) 25 61 (.agg #[(.string ⟨#[]⟩), (.string ⟨#[]⟩)]) 32 rfl Try.underlying25 info61 rfl (by decide) (by omega) v133 [] l _ _ _ (fun _ => True) (fun _ => False) rfl rfl ?aO ?aR (fun _ _ h => h) (fun _ h => h.elim) ?aF ?aB ?aS ?aL ?_; (case aR => exact Kd.C_below hr'.out hb); (case aB => exact hb); (case aF => exact (fun _ _ => trivial)); (case aO => exact ho4); (case aS => exact hb.size); (case aL => simp; omega); intro v160 w8 ho hb2 hg hat))
    go_ret
    exact ⟨_, rfl, ho, hb2⟩
theorem run_copy_any {P : Program} (w : World) (dT sT ty elem : TypeId) (b o dLen dCap : Nat) (a : Addr) (sLen sCap s : Nat) (cs : List Value)
    (hu : P.underlying dT = some (.slice elem)) (hs : (P.info? elem).map (·.size) = some s) (hn : cs.length = Nat.min sLen dLen * s)
    (hsrc : ∀ j v, cs[j]? = some v → w.cell? (a.add j) = some v) (hc : ∀ j, j < cs.length → (w.cell? ⟨b, o + j, none⟩).isSome = true) (hf : ∀ j, j < cs.length → w.frozen? ⟨b, o + j, none⟩ = false) (h1 : ∀ v ∈ cs, v.oneCell' = true) :
    (Builtin.copy_ #[dT, sT] ty #[.slice (some ⟨b, o, none⟩) dLen dCap, .slice (some a) sLen sCap]).run P w = .ok (goInt ((Nat.min sLen dLen : Nat) : Int)) (w.setCells b o cs) := by
  have hl := run_loadCells_list (P := P) w a cs hsrc
  have hst := run_storeCells_cells (P := P) b o cs 0 w (by simpa using hc) (by simpa using hf) h1
  cases hq : P.info? elem with
  | none => simp [hq] at hs
  | some i =>
    have hi : i.size = s := by simpa [hq] using hs
    simp [Builtin.copy_, run_underlying hu, Builtin.lenOf, Builtin.firstCells, sizeOf, typeInfo, hq, hi, ← hn, hl, hst]
theorem run_copy_none_any {P : Program} (w : World) (dT sT ty elem : TypeId) (d a : Option Addr) (dLen dCap sLen sCap s : Nat) (hu : P.underlying dT = some (.slice elem)) (hs : (P.info? elem).map (·.size) = some s) (hn : Nat.min sLen dLen = 0) :
    (Builtin.copy_ #[dT, sT] ty #[.slice d dLen dCap, .slice a sLen sCap]).run P w = .ok (goInt 0) w := by
  cases hq : P.info? elem with
  | none => simp [hq] at hs
  | some i =>
    have hl : ∀ (x : Addr), (loadCells x 0).run P w = .ok #[] w := fun x => by simpa using run_loadCells_list (P := P) w x [] (by simp)
    cases d <;> cases a <;> simp [Builtin.copy_, run_underlying hu, Builtin.lenOf, Builtin.firstCells, sizeOf, typeInfo, hq, hn, storeCells, hl]
/-- copy(v, ys), the whole of ys, onto a row of one's own that is at least as long. -/
theorem R_copy_all {P : Program} {ops : Array Oper} {rest : List Oper} {o : Oper} {a : Act} {Q : Exit → Act → World → Prop} {α : Type} (d : Kd α) {Rr : α → List Value → Prop} {w0 W : World} (base : Nat) (hgd : o.guard = none) (s x : Operand) (t t' e : TypeId)
    (ho : o.op = .call { callee := .builtin .copy, args := #[s, x], argTypes := #[t, t'] }) (ht : P.underlying t = some (.slice e)) (hinfo : (P.info? e).map (·.size) = some d.sz)
    (v : Value) (xs ys : List α) (A : Option Addr) (m c : Nat) (ok okp : Nat → Prop) (hs : a.eval s = v) (hx : a.eval x = .slice A m c)
    (HO : d.R e W base ok v xs) (HR : ReadsRow Rr d.sz W A m ys) (hKM : ∀ x cs, Rr x cs → d.M W base okp x cs) (hokp : ∀ k, okp k → ok k ∧ some k ≠ v.ownBlock) (hle : m ≤ xs.length) (HB : Below base w0 W) (hbase : base ≤ W.heap.size)
    (h : ∀ w1, d.R e w1 base ok v (ys ++ xs.drop m) → Below base w0 w1 → W.grownBy w1 v.ownBlock → wpList P ops Q rest (a.put o.dst (.int .i64 (m : Int))) w1) :
    wpList P ops Q (o :: rest) a W := by
  have hm : ys.length = m := HR.1
  obtain ⟨hok, inner, hown, hr⟩ := HO
  have hmin : Nat.min m xs.length = m := Nat.min_eq_left hle
  have fin : ∀ w1, (Builtin.copy_ #[t, t'] o.type #[v, .slice A m c]).run P W = .ok (goInt (m : Int)) w1 → d.R e w1 base ok v (ys ++ xs.drop m) → W.grownBy w1 v.ownBlock → wpList P ops Q (o :: rest) a W := by
    intro w1 hr hrow hg
    refine wpList_plain hgd fun K hK => ?_
    unfold Oper.wp execOp
    simp only [ho, resolve, invoke, builtin, Sem.run_bind, Sem.run_pure, Result.andThen_ok, List.map_toArray, List.map_cons, List.map_nil, hs, hx, hr]
    exact hK _ _ (h w1 hrow (HB.grown hg hbase (own_base hown)) hg)
  rcases Nat.eq_zero_or_pos m with h0 | hp
  · subst h0
    obtain rfl : ys = [] := List.eq_nil_of_length_eq_zero hm
    obtain ⟨A', c', hv⟩ := own_slice hown
    refine fin W ?_ (by rw [List.drop_zero, List.nil_append]; exact ⟨hok, inner, hown, hr⟩) (World.grownBy.refl W _)
    rw [hv]
    exact run_copy_none_any W t t' o.type e A' A xs.length c' 0 c d.sz ht hinfo hmin
  · obtain ⟨ad, hA, _⟩ := HR.2.2 hp
    subst hA
    obtain ⟨news, hnr, hnc⟩ := ReadsRow.inner_ HR
    have hnM : Reps (d.M W base okp) d.sz ys news := hnr.imp_ (fun p c hp => hKM p c hp)
    rcases hown.2 with ⟨_, hx0⟩ | ⟨g, cap, cur, hv, hb, hh, hnc2, hcm, hcs, htake⟩
    · omega
    have hnl : news.length = m * d.sz := by rw [hnM.1, hm]
    have hfit : news.length ≤ cur.size := by rw [hnl, hcs]; exact Nat.mul_le_mul_right _ (by omega)
    have hone : ∀ u ∈ news, u.oneCell' = true := by
      intro u hu
      obtain ⟨q, hq, rfl⟩ := List.mem_iff_getElem.1 hu
      have hs0 : 0 < d.sz := by
        rcases Nat.eq_zero_or_pos d.sz with h0 | h0
        · rw [hnl, h0] at hq; omega
        · exact h0
      have hql : q / d.sz < ys.length := by
        rw [Nat.div_lt_iff_lt_mul hs0]
        rw [← hnM.1]
        exact hq
      have hc := hnM.2 (q / d.sz) _ (List.getElem?_eq_getElem hql)
      refine d.K_one (d.K_of_M hc) _ ?_
      rw [List.mem_iff_getElem?]
      refine ⟨q % d.sz, ?_⟩
      rw [List.getElem?_take, if_pos (Nat.mod_lt _ hs0), List.getElem?_drop, Nat.mul_comm, Nat.div_add_mod, List.getElem?_eq_getElem hq]
    have hrun := run_copy_any (P := P) W t t' o.type e g 0 xs.length cap ad m c d.sz news ht hinfo (by rw [hmin, hnl]) hnc
      (fun j hj => by rw [cell_of_row W g _ cur e (0, 0) hh]; simp; omega) (fun j _ => blk_frozen hh _) hone
    obtain ⟨cur', h3, h4, h5⟩ := setCells_row news 0 W cur hh (by omega)
    obtain ⟨s1, s2, s3, s4⟩ := setCells_same g news 0 W
    have hfar : ∀ k, some k ≠ v.ownBlock → (W.setCells g 0 news).heap[k]? = W.heap[k]? := fun k hk => setCells_far _ _ k (fun he => hk (by rw [hv, he]; simp [Value.ownBlock]))
    have hg : W.grownBy (W.setCells g 0 news) v.ownBlock := ⟨s1, s2, s3, by rw [s4]; exact Nat.le_refl _, fun k _ hk => hfar k hk⟩
    have hil : inner.length = xs.length * d.sz := hr.1
    have hln : (ys ++ xs.drop m).length = xs.length := by
      rw [List.length_append, List.length_drop]
      omega
    refine fin _ (by rw [hv, hrun, hmin]) ⟨hok, news ++ inner.drop (m * d.sz), ?_, ?_⟩ hg
    · rw [hln]
      refine ⟨?_, .inr ⟨g, cap, cur', hv, hb, h3, hnc2, hcm, by rw [h4, hcs], ?_⟩⟩
      · rw [List.length_append, List.length_drop, hnl, hil]
        have := Nat.mul_le_mul_right d.sz hle
        omega
      · rw [h5, List.take_zero, List.nil_append, Nat.zero_add, List.take_append, hnl, List.take_of_length_le (by rw [hnl]; exact Nat.mul_le_mul_right _ hle)]
        congr 1
        rw [← htake, List.drop_take]
    · refine Kd.reps_append (hnM.imp_ (fun _ _ hq => ?_)) ⟨?_, fun j p hj => ?_⟩
      · exact d.M_mono (fun k hk => hokp k hk) (d.M_move (fun k hk => hfar k (hokp k hk).2) hq)
      · rw [List.length_drop, List.length_drop, hil, Nat.sub_mul]
      · rw [List.getElem?_drop] at hj
        have h6 := hr.2 _ p hj
        rw [List.drop_drop, ← Nat.add_mul]
        exact d.M_move (fun k hk => hfar k hk.2) h6
set_option maxHeartbeats 1000000 in
set_option maxRecDepth 100000 in
theorem With_calls (A : Option Addr) (c : Nat) (l : List S61) (nm vl : ByteArray) (w : World) (hr : Kd.C k61 w A l.length l) (hlen : l.length ≤ 4398046511103) :
    Calls Try.prog 90 #[.slice A l.length c, .string nm, .string vl] w fun e w' => ∃ v : Value, e = .returned v ∧ Kd.R k61 61 w' w.heap.size (fun _ => True) v (l ++ [⟨nm, vl⟩]) ∧ Below w.heap.size w w' := by
  have hr' := Lib.hid hr
  have hu := Try.underlying25
  clear hr
  go_enter Try.func90, Try.ntmps90
  go_wp2_with (first | (at_make; refine Kd.R_make k61 (w0 := w) w.heap.size 61 rfl (N := 11) rfl 25 (.tmp 10) (.tmp 10) rfl ((l.length : Int) + 1) rfl rfl Try.underlying25 (.agg #[(.string ⟨#[]⟩), (.string ⟨#[]⟩)]) 32 info61 rfl (by decide) (by omega) ⟨⟨#[]⟩, ⟨#[]⟩⟩ (ok := fun _ => True) (okp := fun _ => False) (k61_mkM _ _ _ ⟨⟨#[]⟩, ⟨#[]⟩⟩) (fun _ h => h.elim) trivial (by omega) (by omega) (Below.refl _ _) (Nat.le_refl _) ?_; intro v1 w1 hv1 hb1 hg1 hat1; clear hg1 hat1; rw [show ((l.length : Int) + 1).toNat = l.length + 1 by omega] at hv1; obtain ⟨g, cap, rfl, hgb, hgl, cells, hgc⟩ := Kd.R_form hv1 (by simp); rw [List.length_replicate] at hv1) | ((with_reducible refine gate_builtin (b := .copy) (xs := #[.tmp 13, .tmp 14]) rfl ?_); refine R_copy_all k61 (w0 := w) w.heap.size rfl (.tmp 13) (.tmp 14) 25 25 61 rfl Try.underlying25 rfl (.slice (some ⟨g, 0, none⟩) (l.length + 1) cap) _ l A l.length c (fun _ => True) (fun _ => False) rfl rfl hv1 (Kd.C_below hr'.out hb1) (fun _ _ h => h) (fun _ h => h.elim) (by simp) hb1 hb1.size ?_; rw [List.drop_replicate, show l.length + 1 - l.length = 1 by omega]; intro w2 hv2 hb2 hg2; clear hv1 hb1 hg2 hgl hgc hr') | ((with_reducible refine gate_ (.store 61 (.tmp 19) (.tmp 18)) rfl ?_); (obtain ⟨cs, hcl, _, hcc, _⟩ := Kd.R_elem hv2 ⟨⟨#[]⟩, ⟨#[]⟩⟩ (l.length : Int) (by omega) (by omega)); refine Kd.R_store k61 (w0 := w) w.heap.size rfl rfl 61 (.tmp 19) (.tmp 18) rfl 61 (l.length : Int) 0 _ ⟨nm, vl⟩ _ [.string nm, .string vl] cs (fun _ => True) (fun _ => False) rfl (by simp [show k61.sz = 2 from rfl]) rfl rfl rfl (by simp [Value.oneCell']) hv2 (by omega) (by omega) hcl hcc (Nat.le_refl _) ?hM (fun _ h => h.elim) hb2 ?_; (case hM => rw [List.take_zero, List.nil_append, List.drop_of_length_le (by rw [hcl]; exact Nat.le_refl _), List.append_nil]; exact k61_mkM _ _ _ ⟨nm, vl⟩); intro w3 hv3 hb3 hg3; clear hcc hcl hv2 hb2))
  go_ret
  refine ⟨_, rfl, ?_, hb3⟩
  have e : (l ++ List.replicate 1 (⟨⟨#[]⟩, ⟨#[]⟩⟩ : S61)).set (l.length : Int).toNat ⟨nm, vl⟩ = l ++ [⟨nm, vl⟩] := by simp
  rw [← e]
  exact hv3
end Go.Proofs.Ytdbokcgjdkbknaa.Hand
