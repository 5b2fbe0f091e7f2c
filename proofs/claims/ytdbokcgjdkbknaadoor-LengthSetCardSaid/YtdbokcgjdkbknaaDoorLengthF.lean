/- Hand walk: length.Of. | The hand walk of length.Of, in the printer's form. -/
import Derived.Test.YtdbokcgjdkbknaaDoorPartsB
import Derived.Test.YtdbokcgjdkbknaaDoorHeaderF
import Derived.Test.YtdbokcgjdkbknaaDoorDigT
namespace Go.Proofs.YtdbokcgjdkbknaaDoor.Hand
open Go.RowKit Go.Shelf Go.Proofs.YtdbokcgjdkbknaaDoor.PTr Go.Proofs.YtdbokcgjdkbknaaDoorW.PrintWords Go.Proofs.YtdbokcgjdkbknaaDoorW.PrintLast Go.Proofs.YtdbokcgjdkbknaaDoorW.PrintMore
set_option linter.unusedVariables false
set_option linter.unusedSimpArgs false
attribute [local go_sem] Oper.semAt_some max2_int min2_int max_two min_two
def lenB : ByteArray := ⟨#[67, 111, 110, 116, 101, 110, 116, 45, 76, 101, 110, 103, 116, 104]⟩
/-- One part more: the number told so far, if nothing is wrong yet. -/
def stepL : Option Int → ByteArray → Option Int
  | none, _ => none
  | some f, p => if (numS 10 2147483647 p).2 ≠ 0 ∨ (0 ≤ f ∧ (numS 10 2147483647 p).1 ≠ f) then none else some (numS 10 2147483647 p).1
def runL (l : List ByteArray) : Option Int := l.foldl stepL (some (-1))
theorem runL_snoc (l : List ByteArray) (x : ByteArray) : runL (l ++ [x]) = stepL (runL l) x := by simp [runL]
theorem runL_none {p l : List ByteArray} (hp : p <+: l) (h : runL p = none) : runL l = none := by
  obtain ⟨q, rfl⟩ := hp
  unfold runL at h ⊢
  rw [List.foldl_append, h]
  induction q with
  | nil => rfl
  | cons x q ih => exact ih
theorem Boxed.next {A B : World} {i : Nat} {t : TypeId} {v : Value} (h : Boxed A i t v) (hb : Below A.heap.size A B) : Boxed B i t v := (hb.block i h.lt).trans h
theorem Boxed.turn {S : Nat → Prop} {A B : World} {i : Nat} {t : TypeId} {v : Value} (h : Boxed A i t v) (ht : Turn S A B) (hs : ¬ S i) : Boxed B i t v := ht.at h hs
theorem drew_below (A : World) : Below A.heap.size A A.drew := by first | exact (Below.refl _ _).drew | exact pw_below_drewN (Below.refl _ _) 1
def ofR : Option Int → Int × Bool × Int
  | some f => (max f 0, decide (0 ≤ f), 0)
  | none => (0, false, 14)
def ofS (l : List S45) : Int × Bool × Int := ofR (runL (partsS (allS l lenB)))
theorem parts_calls (A : Option Addr) (n c : Nat) (w : World) :
    Calls Tryd.prog 30 #[.slice A n c] w fun e w' =>
      e = .returned (.func (.func 55) #[] #[.pointer (some ⟨w.heap.size, 0, none⟩)]) ∧ w' = w.alloc (.cells #[.slice A n c] 49) := by
  go_enter Tryd.func30, Tryd.ntmps30
  go_wp2
  go_ret
  exact ⟨rfl, rfl⟩
theorem Dec_s (s : ByteArray) (hs : s.size ≤ 9223372036854775807) : digits_Dec.f s 2147483647 = some ((numS 10 2147483647 s).1, (numS 10 2147483647 s).2) := by
  unfold digits_Dec.f digits_number.f
  rw [if_pos ⟨hs, .inl rfl, by omega, by omega⟩]
  rfl
theorem trR_le (s : ByteArray) (i : Nat) : ∀ j, (trR s i j).size ≤ s.size
  | 0 => by unfold trR; rw [ByteArray.size_extract]; omega
  | j + 1 => by
    unfold trR
    split
    · split
      · exact trR_le s i j
      · rw [ByteArray.size_extract]; omega
    · rw [ByteArray.size_extract]; omega
theorem trL_le (s : ByteArray) : ∀ d i, (trL s d i).size ≤ s.size
  | 0, i => trR_le s i s.size
  | d + 1, i => by
    unfold trL
    split
    · exact trL_le s d (i + 1)
    · exact trR_le s i s.size
theorem parts_le {vs : List ByteArray} {m : Nat} (h : ∀ v ∈ vs, v.size ≤ m) : ∀ p ∈ partsS vs, p.size ≤ m := by
  intro p hp
  obtain ⟨v, hv, hp⟩ := List.mem_flatMap.1 hp
  obtain ⟨x, hx, rfl⟩ := List.mem_map.1 hp
  have h1 := h v hv
  have h2 := comma_le v x hx
  have h3 := trL_le x x.size 0
  unfold trimS
  omega
theorem allS_len (l : List S45) (n : ByteArray) : (allS l n).length ≤ l.length := by
  unfold allS
  rw [List.length_map]
  exact List.length_filter_le _ _
theorem allS_le {l : List S45} {n : ByteArray} {m : Nat} (h : ∀ x ∈ l, x.f1.size ≤ m) : ∀ v ∈ allS l n, v.size ≤ m := by
  intro v hv
  obtain ⟨x, hx, rfl⟩ := List.mem_map.1 hv
  exact h x (List.mem_filter.1 hx).1
set_option maxRecDepth 100000 in
set_option maxHeartbeats 4000000 in
theorem Of_calls (A : Option Addr) (c : Nat) (l : List S45) (w : World) (hr : Kd.C k45 w A l.length l) (hc : l.length ≤ c) (hlen : l.length ≤ 100000) (hx0 : small l) (hx1 : ∀ x ∈ l, x.f1.size ≤ 1000000) :
    Calls Tryd.prog 11 #[.slice A l.length c] w fun e w' => e = .returned (.tuple #[.int .i64 (ofS l).1, .bool (ofS l).2.1, .int .i64 (ofS l).2.2]) ∧ Below w.heap.size w w' := by
  have cA := fun (W : World) (h : Kd.C k45 W A l.length l) => All_calls A c l lenB W h hc (by omega) (by decide) hx0
  have hal := allS_len l lenB
  have hav := allS_le (n := lenB) hx1
  obtain ⟨vs, hvs⟩ : ∃ vs, allS l lenB = vs := ⟨_, rfl⟩
  have hof : ofS l = ofR (runL (partsS vs)) := by rw [← hvs]; rfl
  rw [hof]
  rw [hvs] at hal hav
  simp only [hvs] at cA
  have hpl := parts_le hav
  have hr' := Lib.hid hr
  have cP := parts_calls
  clear hof hvs hr hx0 hx1
  refine (callsIn_wide (n := 9)).1 ?_
  refine callsIn_of_wp_marks Tryd.func11 rfl trivial ?_ rfl
  simp only [Tryd.ntmps11, List.size_toArray, List.length_cons, List.length_nil, Nat.reduceAdd, Nat.reduceSub, Array.replicate_succ, Array.replicate_zero, List.push_toArray, List.append_toArray, List.nil_append, List.cons_append]
  gi_wp2
  obtain ⟨w1, hw1⟩ : ∃ W, (((w.alloc (.cells #[.int .i64 0] 3)).alloc (.cells #[.bool false] 4)).alloc (.cells #[.int .i64 0] 25)).alloc (.cells #[.int .i64 (-1)] 3) = W := ⟨_, rfl⟩
  have hz1 : w1.heap.size = w.heap.size + 4 := by rw [← hw1]; simp
  have hB1 : Below w.heap.size w w1 := by rw [← hw1]; exact ((((Below.refl _ _).alloc (Nat.le_refl _) _).alloc (by simp) _).alloc (by simp; omega) _).alloc (by simp; omega) _
  have o2 : Boxed w1 w.heap.size 3 (.int .i64 0) := by rw [← hw1]; exact (((Boxed.new w _ _).alloc _).alloc _).alloc _
  have o3 : Boxed w1 (w.heap.size + 1) 4 (.bool false) := by
    have := ((Boxed.new (w.alloc (.cells #[.int .i64 0] 3)) 4 (.bool false)).alloc (.cells #[.int .i64 0] 25)).alloc (.cells #[.int .i64 (-1)] 3)
    rw [World.size_alloc] at this
    rw [← hw1]; exact this
  have o4 : Boxed w1 (w.heap.size + 2) 25 (.int .i64 0) := by
    have := (Boxed.new ((w.alloc (.cells #[.int .i64 0] 3)).alloc (.cells #[.bool false] 4)) 25 (.int .i64 0)).alloc (.cells #[.int .i64 (-1)] 3)
    rw [World.size_alloc, World.size_alloc] at this
    rw [← hw1]; exact this
  have o5 : Boxed w1 (w.heap.size + 3) 3 (.int .i64 (-1)) := by
    have := Boxed.new (((w.alloc (.cells #[.int .i64 0] 3)).alloc (.cells #[.bool false] 4)).alloc (.cells #[.int .i64 0] 25)) 3 (.int .i64 (-1))
    rw [World.size_alloc, World.size_alloc, World.size_alloc] at this
    rw [← hw1]; exact this
  rw [hw1]
  clear hw1
  gi_wp2_with (first
    | (refine ⟨trivial, ?_⟩; gi_at_call 31; refine (callsIn_wide.2 (cA w1 (Kd.C_below hr'.out hB1))).mono ?_; rintro e w2 ⟨v, rfl, hR, hb2⟩; obtain ⟨A2, c2, rfl, hc2, hC2⟩ := Kd.R_reads hR)
    | (refine ⟨trivial, ?_⟩; gi_at_call 30; refine (callsIn_wide.2 (cP A2 vs.length c2 w2)).mono ?_; rintro e w3 ⟨rfl, hw3⟩))
  rw [← hw3]
  have hs2 := hb2.size
  have hB2 : Below w.heap.size w w2 := hB1.trans (hb2.mono (by omega))
  have hb3 : Below w2.heap.size w2 w3 := by rw [hw3]; exact (Below.refl _ _).alloc (Nat.le_refl _) _
  have hz3 : w3.heap.size = w2.heap.size + 1 := by rw [hw3]; simp
  have hB3 : Below w.heap.size w w3 := hB2.trans (hb3.mono (by omega))
  have k3 : Boxed w3 w2.heap.size 49 (.slice A2 vs.length c2) := by rw [hw3]; exact Boxed.new w2 _ _
  have up : ∀ {i : Nat} {ty : TypeId} {u : Value}, Boxed w1 i ty u → Boxed w3 i ty u := fun h => (Turn.new (S := fun _ => False) hb3).at ((Turn.new (S := fun _ => False) hb2).at h (fun h => h)) (fun h => h)
  have p2 := up o2
  have p3 := up o3
  have p4 := up o4
  have p5 := up o5
  have hC3 : Kd.C Kd.string w3 A2 vs.length vs := Kd.C_below hC2 hb3
  have hCA : ∀ ad, A2 = some ad → w1.heap.size ≤ ad.block ∧ ad.block < w2.heap.size := by
    rintro ad rfl
    obtain ⟨inner, ho⟩ := Kd.R_own hR
    have hlt : ad.block < w2.heap.size := own_lt ho ad.block (by simp [Value.ownBlock])
    refine ⟨?_, hlt⟩
    rcases ho.2 with ⟨hv, _⟩ | ⟨g, cap, cur, hv, hge, _, _⟩
    · cases hv
    · cases hv
      omega
  clear up o2 o3 o4 o5 hw3 hR hC2 cA cP hr'
  refine wpIn_range_iter (F := Fence.wide) rfl (by omega) (gf := 55) (lb := #[.pointer (some ⟨w2.heap.size, 0, none⟩)]) rfl trivial (enters_of Tryd.func55 (by kernel_rfl) rfl) (fun i => w.heap.size ≤ i ∧ i < w.heap.size + 4)
    (parts1_iter 8 (by omega) w2.heap.size A2 c2 vs (by omega) hav hc2 w3 (fun i => (w.heap.size ≤ i ∧ i < w.heap.size + 4) ∨ i = w3.heap.size + 1) (by omega) (fun ad e => by have := hCA ad e; omega) hC3) rfl (fun i hi => by omega) (fun i hi => hi.elim)
    (fun W hb => ⟨(Turn.new (S := fun _ => False) hb).at k3 (fun h => h), hb⟩)
    (fun p W => ∃ f, runL p = some f ∧ Boxed W (w.heap.size + 3) 3 (.int .i64 f) ∧ Boxed W w.heap.size 3 (.int .i64 0) ∧ Boxed W (w.heap.size + 1) 4 (.bool false) ∧ Boxed W (w.heap.size + 2) 25 (.int .i64 0) ∧ Below w.heap.size w W)
    (fun cd p W => cd = .ret ∧ runL p = none ∧ p <+: partsS vs ∧ Boxed W w.heap.size 3 (.int .i64 0) ∧ Boxed W (w.heap.size + 1) 4 (.bool false) ∧ Boxed W (w.heap.size + 2) 25 (.int .i64 14) ∧ Below w.heap.size w W)
    ?hI ?hIx ⟨-1, rfl, p5, p2, p3, p4, hB3⟩
    (fun x => { tmps := #[.slice A l.length c, undef, .pointer (some ⟨w.heap.size, 0, none⟩), .pointer (some ⟨w.heap.size + 1, 0, none⟩), .pointer (some ⟨w.heap.size + 2, 0, none⟩), .pointer (some ⟨w.heap.size + 3, 0, none⟩), .string x, undef, undef, .slice A l.length c, .slice A2 vs.length c2, .func (.func 55) #[] #[.pointer (some ⟨w2.heap.size, 0, none⟩)], .string x, undef, undef, undef, undef, undef, undef, undef, undef, undef, undef, undef, undef, undef, undef, undef, undef, undef, undef, undef, undef, undef], defers := [] })
    ?assign ?body ?done ?stop
  case hI =>
    rintro p X Y ⟨f, i1, i2, i3, i4, i5, i6⟩ hX ht0
    have ht : Turn (fun k => w3.heap.size ≤ k) X Y := ht0.mono (fun k _ h => h.elim (fun h => h.elim) id)
    exact ⟨f, i1, ht.at i2 (by omega), ht.at i3 (by omega), ht.at i4 (by omega), ht.at i5 (by omega), i6.trans (ht.below (by omega) (fun k hk => by omega))⟩
  case hIx =>
    rintro cd p X Y ⟨i0, i1, i2, i3, i4, i5, i6⟩ hX ht0
    have ht : Turn (fun k => w3.heap.size ≤ k) X Y := ht0.mono (fun k _ h => h.elim (fun h => h.elim) id)
    exact ⟨i0, i1, i2, ht.at i3 (by omega), ht.at i4 (by omega), ht.at i5 (by omega), i6.trans (ht.below (by omega) (fun k hk => by omega))⟩
  case assign =>
    intro l' x W K hK
    gi_wp2
    exact hK
  case body =>
    rintro l' p x W hW ⟨f, hf, b5, b2, b3, b4, hB⟩ hp
    have hx : x.size ≤ 1000000 := by
      obtain ⟨q, hq⟩ := hp
      exact hpl x (by rw [← hq]; simp)
    have hst := runL_snoc p x
    rw [hf] at hst
    simp only [stepL] at hst
    have cD := fun W => digits_Dec.calls x 2147483647 _ _ W (Dec_s x (by omega))
    generalize (numS 10 2147483647 x).1 = N at *
    generalize (numS 10 2147483647 x).2 = E at *
    have hpH := Lib.hid hp
    have hstH := Lib.hid hst
    clear hp hst hf hpl hav hal hb2 hs2 hb3 k3 p2 p3 p4 p5 hC3 hCA hB1 hB2 hB3
    try dsimp only
    by_cases hE : E = 0
    · subst hE
      by_cases h0 : 0 ≤ f
      · by_cases hN : N = f
        · subst hN
          gi_wp2_with (refine ⟨trivial, ?_⟩; gi_at_call 32; refine (CallsIn.inRound l' (callsIn_wide.2 (cD _))).mono ?_; rintro e W1 ⟨rfl, hb⟩; have r5 := Boxed.next b5 hb; have z5 := r5.cell; have y5 := r5.frozen)
          focus
            have hB1 := hB.trans (hb.mono hB.size)
            have tn : Turn (fun i => w.heap.size ≤ i ∧ i < w.heap.size + 4) W1 (W1.setCell ⟨w.heap.size + 3, 0, none⟩ (.int .i64 N)) := Turn.setCell _ _ _ (by constructor <;> simp <;> omega)
            refine ⟨(Turn.new hb).trans tn, N, by rw [hstH.out, if_neg (by simp)], r5.set _, ?_, ?_, ?_, hB1.trans (tn.below hB1.size (fun k hk => hk.1))⟩
            · exact (Boxed.next b2 hb).other (by omega) _
            · exact (Boxed.next b3 hb).other (by omega) _
            · exact (Boxed.next b4 hb).other (by omega) _
        · have hN2 : (N != f) = true := by simpa using hN
          gi_wp2_with (refine ⟨trivial, ?_⟩; gi_at_call 32; refine (CallsIn.inRound l' (callsIn_wide.2 (cD _))).mono ?_; rintro e W1 ⟨rfl, hb⟩; have r5 := Boxed.next b5 hb; have z5 := r5.cell; have y5 := r5.frozen; have r2 := Boxed.next b2 hb; have r3 := Boxed.next b3 hb; have r4 := Boxed.next b4 hb; have z2 := r2.cell; have y2 := r2.frozen; have z3 := r3.cell; have y3 := r3.frozen; have z4 := r4.cell; have y4 := r4.frozen)
          focus
            have hB1 := hB.trans (hb.mono hB.size)
            have tn : Turn (fun i => w.heap.size ≤ i ∧ i < w.heap.size + 4) W1 (((W1.setCell ⟨w.heap.size, 0, none⟩ (.int .i64 0)).setCell ⟨w.heap.size + 1, 0, none⟩ (.bool false)).setCell ⟨w.heap.size + 2, 0, none⟩ (.int .i64 14)) := ((Turn.setCell _ _ _ (by constructor <;> simp)).trans (Turn.setCell _ _ _ (by constructor <;> simp))).trans (Turn.setCell _ _ _ (by constructor <;> simp))
            refine ⟨(Turn.new hb).trans tn, rfl, by rw [hstH.out, if_pos (.inr ⟨h0, hN⟩)], hpH.out, ?_, ?_, ?_, hB1.trans (tn.below hB1.size (fun k hk => hk.1))⟩
            · exact ((r2.set _).other (by omega) _).other (by omega) _
            · exact ((r3.other (by omega) _).set _).other (by omega) _
            · exact ((r4.other (by omega) _).other (by omega) _).set _
      · have h0n : f < 0 := by omega
        gi_wp2_with (refine ⟨trivial, ?_⟩; gi_at_call 32; refine (CallsIn.inRound l' (callsIn_wide.2 (cD _))).mono ?_; rintro e W1 ⟨rfl, hb⟩; have r5 := Boxed.next b5 hb; have z5 := r5.cell; have y5 := r5.frozen)
        focus
          have hB1 := hB.trans (hb.mono hB.size)
          have tn : Turn (fun i => w.heap.size ≤ i ∧ i < w.heap.size + 4) W1 (W1.setCell ⟨w.heap.size + 3, 0, none⟩ (.int .i64 N)) := Turn.setCell _ _ _ (by constructor <;> simp <;> omega)
          refine ⟨(Turn.new hb).trans tn, N, by rw [hstH.out, if_neg (by rintro (h | ⟨h, _⟩); exact h rfl; omega)], r5.set _, ?_, ?_, ?_, hB1.trans (tn.below hB1.size (fun k hk => hk.1))⟩
          · exact (Boxed.next b2 hb).other (by omega) _
          · exact (Boxed.next b3 hb).other (by omega) _
          · exact (Boxed.next b4 hb).other (by omega) _
    · have hE2 : (E != 0) = true := by simpa using hE
      gi_wp2_with (refine ⟨trivial, ?_⟩; gi_at_call 32; refine (CallsIn.inRound l' (callsIn_wide.2 (cD _))).mono ?_; rintro e W1 ⟨rfl, hb⟩; have r5 := Boxed.next b5 hb; have z5 := r5.cell; have y5 := r5.frozen; have r2 := Boxed.next b2 hb; have r3 := Boxed.next b3 hb; have r4 := Boxed.next b4 hb; have z2 := r2.cell; have y2 := r2.frozen; have z3 := r3.cell; have y3 := r3.frozen; have z4 := r4.cell; have y4 := r4.frozen)
      focus
        have hB1 := hB.trans (hb.mono hB.size)
        have tn : Turn (fun i => w.heap.size ≤ i ∧ i < w.heap.size + 4) W1 (((W1.setCell ⟨w.heap.size, 0, none⟩ (.int .i64 0)).setCell ⟨w.heap.size + 1, 0, none⟩ (.bool false)).setCell ⟨w.heap.size + 2, 0, none⟩ (.int .i64 14)) := ((Turn.setCell _ _ _ (by constructor <;> simp)).trans (Turn.setCell _ _ _ (by constructor <;> simp))).trans (Turn.setCell _ _ _ (by constructor <;> simp))
        refine ⟨(Turn.new hb).trans tn, rfl, by rw [hstH.out, if_pos (.inl hE)], hpH.out, ?_, ?_, ?_, hB1.trans (tn.below hB1.size (fun k hk => hk.1))⟩
        · exact ((r2.set _).other (by omega) _).other (by omega) _
        · exact ((r3.other (by omega) _).set _).other (by omega) _
        · exact ((r4.other (by omega) _).other (by omega) _).set _
  case done =>
    rintro W hW ⟨f, hf, b5, b2, b3, b4, hB⟩ hD
    have hmx : Tryd.prog.follows .mixedOrders = true := by kernel_rfl
    have hBd : Below W.heap.size W W.drew := by first | exact (Below.refl _ _).drew | exact pw_below_drewN (Below.refl _ _) 1
    have r5 := Boxed.next b5 hBd
    have r2 := Boxed.next b2 hBd
    have r3 := Boxed.next b3 hBd
    have r4 := Boxed.next b4 hBd
    have z5 : W.drew.cell? ⟨w.heap.size + 1 + 1 + 1, 0, none⟩ = some (.int .i64 f) := r5.cell
    have z2 := r2.cell
    have z3 := r3.cell
    have z4 : W.drew.cell? ⟨w.heap.size + 1 + 1, 0, none⟩ = some (.int .i64 0) := r4.cell
    have y2 := r2.frozen
    have y3 := r3.frozen
    have y4 : W.drew.frozen? ⟨w.heap.size + 1 + 1, 0, none⟩ = false := r4.frozen
    try dsimp only
    gi_wp2
    have s3 : ∀ u, Boxed ((W.setCell ⟨w.heap.size, 0, none⟩ u).drew) (w.heap.size + 1) 4 (.bool false) := fun u => Boxed.next (Boxed.other b3 (by omega) u) (drew_below _)
    have s4 : ∀ u u', Boxed (((W.setCell ⟨w.heap.size, 0, none⟩ u).setCell ⟨w.heap.size + 1, 0, none⟩ u').drew) (w.heap.size + 2) 25 (.int .i64 0) := fun u u' => Boxed.next (Boxed.other (Boxed.other b4 (by omega) u) (by omega) u') (drew_below _)
    have s5 : ∀ u, (W.setCell ⟨w.heap.size, 0, none⟩ u).drew.cell? ⟨w.heap.size + 1 + 1 + 1, 0, none⟩ = some (.int .i64 f) := fun u => Boxed.cell (Boxed.next (Boxed.other b5 (by omega) u) (drew_below _))
    have z3' := fun u => (s3 u).cell
    have y3' := fun u => (s3 u).frozen
    have z4' : ∀ u u', ((W.setCell ⟨w.heap.size, 0, none⟩ u).setCell ⟨w.heap.size + 1, 0, none⟩ u').drew.cell? ⟨w.heap.size + 1 + 1, 0, none⟩ = some (.int .i64 0) := fun u u' => (s4 u u').cell
    have y4' : ∀ u u', ((W.setCell ⟨w.heap.size, 0, none⟩ u).setCell ⟨w.heap.size + 1, 0, none⟩ u').drew.frozen? ⟨w.heap.size + 1 + 1, 0, none⟩ = false := fun u u' => (s4 u u').frozen
    rw [hz3] at hD
    have fin : ∀ (m : Int) (b : Bool), ((((W.setCell ⟨w.heap.size, 0, none⟩ (.int .i64 m)).setCell ⟨w.heap.size + 1, 0, none⟩ (.bool b)).setCell ⟨w.heap.size + 1 + 1, 0, none⟩ (.int .i64 0)).drew).heap[w2.heap.size + 1]? = some (.deferred (some [])) ∧
        (((((W.setCell ⟨w.heap.size, 0, none⟩ (.int .i64 m)).setCell ⟨w.heap.size + 1, 0, none⟩ (.bool b)).setCell ⟨w.heap.size + 1 + 1, 0, none⟩ (.int .i64 0)).drew).putObj (w2.heap.size + 1) (.deferred none)).cell? ⟨w.heap.size, 0, none⟩ = some (.int .i64 m) ∧
        (((((W.setCell ⟨w.heap.size, 0, none⟩ (.int .i64 m)).setCell ⟨w.heap.size + 1, 0, none⟩ (.bool b)).setCell ⟨w.heap.size + 1 + 1, 0, none⟩ (.int .i64 0)).drew).putObj (w2.heap.size + 1) (.deferred none)).cell? ⟨w.heap.size + 1, 0, none⟩ = some (.bool b) ∧
        (((((W.setCell ⟨w.heap.size, 0, none⟩ (.int .i64 m)).setCell ⟨w.heap.size + 1, 0, none⟩ (.bool b)).setCell ⟨w.heap.size + 1 + 1, 0, none⟩ (.int .i64 0)).drew).putObj (w2.heap.size + 1) (.deferred none)).cell? ⟨w.heap.size + 1 + 1, 0, none⟩ = some (.int .i64 0) ∧
        Below w.heap.size w (((((W.setCell ⟨w.heap.size, 0, none⟩ (.int .i64 m)).setCell ⟨w.heap.size + 1, 0, none⟩ (.bool b)).setCell ⟨w.heap.size + 1 + 1, 0, none⟩ (.int .i64 0)).drew).putObj (w2.heap.size + 1) (.deferred none)) := by
      intro m b
      have f2 : Boxed ((((W.setCell ⟨w.heap.size, 0, none⟩ (.int .i64 m)).setCell ⟨w.heap.size + 1, 0, none⟩ (.bool b)).setCell ⟨w.heap.size + 1 + 1, 0, none⟩ (.int .i64 0)).drew) w.heap.size 3 (.int .i64 m) := Boxed.next (Boxed.other (Boxed.other (Boxed.set _ b2) (by omega) _) (by omega) _) (drew_below _)
      have f3 : Boxed ((((W.setCell ⟨w.heap.size, 0, none⟩ (.int .i64 m)).setCell ⟨w.heap.size + 1, 0, none⟩ (.bool b)).setCell ⟨w.heap.size + 1 + 1, 0, none⟩ (.int .i64 0)).drew) (w.heap.size + 1) 4 (.bool b) := Boxed.next (Boxed.other (Boxed.set _ (Boxed.other b3 (by omega) _)) (by omega) _) (drew_below _)
      have f4 : Boxed ((((W.setCell ⟨w.heap.size, 0, none⟩ (.int .i64 m)).setCell ⟨w.heap.size + 1, 0, none⟩ (.bool b)).setCell ⟨w.heap.size + 1 + 1, 0, none⟩ (.int .i64 0)).drew) (w.heap.size + 2) 25 (.int .i64 0) := Boxed.next (Boxed.set _ (Boxed.other (Boxed.other b4 (by omega) _) (by omega) _)) (drew_below _)
      have tn : Turn (fun i => w.heap.size ≤ i ∧ i < w.heap.size + 4) W ((((W.setCell ⟨w.heap.size, 0, none⟩ (.int .i64 m)).setCell ⟨w.heap.size + 1, 0, none⟩ (.bool b)).setCell ⟨w.heap.size + 1 + 1, 0, none⟩ (.int .i64 0)).drew) := (((Turn.setCell _ _ _ (by constructor <;> simp)).trans (Turn.setCell _ _ _ (by constructor <;> simp))).trans (Turn.setCell _ _ _ (by constructor <;> simp <;> omega))).trans (Turn.new (drew_below _))
      have hw3 : w.heap.size + 4 ≤ w2.heap.size := by have := hB1.size; omega
      have hDf := tn.at hD (by omega)
      generalize ((((W.setCell ⟨w.heap.size, 0, none⟩ (.int .i64 m)).setCell ⟨w.heap.size + 1, 0, none⟩ (.bool b)).setCell ⟨w.heap.size + 1 + 1, 0, none⟩ (.int .i64 0)).drew) = Wf at *
      have hBf := hB.trans (tn.below hB.size (fun k hk => hk.1))
      have tk : Turn (fun i => i = w2.heap.size + 1) Wf (Wf.putObj (w2.heap.size + 1) (.deferred none)) := Turn.putObj _ _ _ rfl
      exact ⟨hDf, Boxed.cell (Boxed.turn f2 tk (by omega)), Boxed.cell (Boxed.turn f3 tk (by omega)), Boxed.cell (Boxed.turn f4 tk (by omega)), hBf.trans (tk.below hBf.size (fun k hk => by omega))⟩
    have hfH := Lib.hid hf
    clear hf
    gi_region
    all_goals gi_wp2
    all_goals rw [hfH.out]
    all_goals
      first
        | (obtain ⟨hDf, x2, x3, x4, hB9⟩ := fin f true
           refine ⟨by simp, .inl ⟨_, _, rfl, run_takeDeferred hDf, ?_⟩⟩
           refine ⟨.tuple #[.int .i64 f, .bool true, .int .i64 0], ?_, ?_, hB9⟩
           · simp [results, Tryd.results11, Tryd.f11, go_sem, x2, x3, x4]
           · show _ = Ending.returned (.tuple #[.int .i64 (max f 0), .bool (decide (0 ≤ f)), .int .i64 0])
             rw [Int.max_eq_left (by omega), decide_eq_true (by omega)])
        | (obtain ⟨hDf, x2, x3, x4, hB9⟩ := fin 0 (decide (0 ≤ f))
           refine ⟨by simp, .inl ⟨_, _, rfl, run_takeDeferred hDf, ?_⟩⟩
           refine ⟨.tuple #[.int .i64 0, .bool (decide (0 ≤ f)), .int .i64 0], ?_, ?_, hB9⟩
           · simp [results, Tryd.results11, Tryd.f11, go_sem, x2, x3, x4]
           · show _ = Ending.returned (.tuple #[.int .i64 (max f 0), .bool (decide (0 ≤ f)), .int .i64 0])
             rw [Int.max_eq_right (by omega)])
  case stop =>
    rintro _ p W hW ⟨rfl, hn, hp, b2, b3, b4, hB⟩ hD
    try dsimp only
    gi_wp2
    have hnl := runL_none hp hn
    rw [hnl]
    have hw3 : w.heap.size + 4 ≤ w3.heap.size := by omega
    have tk : Turn (fun i => i = w3.heap.size) W (W.putObj w3.heap.size (.deferred none)) := Turn.putObj _ _ _ rfl
    have x2 := Boxed.cell (Boxed.turn b2 tk (by omega))
    have x3 := Boxed.cell (Boxed.turn b3 tk (by omega))
    have x4 := Boxed.cell (Boxed.turn b4 tk (by omega))
    have hB9 := hB.trans (tk.below hB.size (fun k hk => by omega))
    refine ⟨by simp, .inl ⟨_, _, rfl, run_takeDeferred hD, ?_⟩⟩
    refine ⟨.tuple #[.int .i64 0, .bool false, .int .i64 14], ?_, rfl, hB9⟩
    focus
      simp [results, Tryd.results11, Tryd.f11, go_sem, x2, x3, x4]
end Go.Proofs.YtdbokcgjdkbknaaDoor.Hand
namespace Go.Proofs.YtdbokcgjdkbknaaDoor.Hand
open Go.RowKit Go.Proofs.YtdbokcgjdkbknaaDoorW.PrintWords Go.Proofs.YtdbokcgjdkbknaaDoorW.PrintLast Go.Proofs.YtdbokcgjdkbknaaDoorW.PrintMore
set_option linter.unusedVariables false
def tameB (l : List S45) : Bool := l.all fun x => decide (x.f0.size ≤ 1000000) && decide (x.f1.size ≤ 1000000)
theorem tame_of {l : List S45} (h : tameB l = true) : ∀ x ∈ l, x.f0.size ≤ 1000000 ∧ x.f1.size ≤ 1000000 := fun x hx => by
  have := List.all_eq_true.1 h x hx
  rw [Bool.and_eq_true] at this
  exact ⟨of_decide_eq_true this.1, of_decide_eq_true this.2⟩
def length_Of.f (l0 : List S45) : Option (Int × Bool × Int) := if l0.length ≤ 100000 ∧ tameB l0 = true then some (ofS l0) else none
theorem length_Of.calls (A0 : Option Addr) (c0 : Nat) (l0 : List (S45)) (r1 : Int) (r2 : Bool) (r3 : Int) (w : World) (hr0 : Kd.C k45 w A0 l0.length l0) (hc0 : l0.length ≤ c0) (h : length_Of.f l0 = some (r1, r2, r3)) :
    Calls Tryd.prog 11 #[.slice A0 l0.length c0] w fun e w' => e = .returned (.tuple #[.int .i64 r1, .bool r2, .int .i64 r3]) ∧ Below w.heap.size w w' := by
  unfold length_Of.f at h
  split at h
  · rename_i hc
    have h2 := Option.some.inj h
    have c := Of_calls A0 c0 l0 w hr0 hc0 hc.1 (fun x hx => Nat.le_trans (tame_of hc.2 x hx).1 (by omega)) (fun x hx => (tame_of hc.2 x hx).2)
    rw [h2] at c
    exact c
  · exact absurd h (by simp)
end Go.Proofs.YtdbokcgjdkbknaaDoor.Hand
