/- Hand walk: encode.Body where the body is written in chunks. -/
import Derived.Test.YtdbokcgjdkbknaaEncA
import Derived.Test.YtdbokcgjdkbknaaEncC
import Derived.Test.YtdbokcgjdkbknaaBuild
import Derived.Test.YtdbokcgjdkbknaaDigT
import Derived.Test.YtdbokcgjdkbknaaPE0x1
import Derived.Lib.OthersKept
namespace Go.Proofs.Ytdbokcgjdkbknaa.Hand
open Go.RowKit Go.Shelf Go.Proofs.Ytdbokcgjdkbknaa.PE0 Go.Proofs.YtdbokcgjdkbknaaW.PrintWords Go.Proofs.YtdbokcgjdkbknaaW.PrintLast Go.Proofs.YtdbokcgjdkbknaaW.PrintMore
set_option linter.unusedVariables false
set_option linter.unusedSimpArgs false
attribute [local go_sem] Oper.semAt_some
def begL (n : Nat) : List UInt8 := digL 16 n ++ [13, 10]
def chunkB (p : ByteArray) : List UInt8 := begL p.size ++ p.data.toList ++ [13, 10]
def chunksB (l : List ByteArray) : List UInt8 := (l.map chunkB).flatten
theorem chunksB_snoc (l : List ByteArray) (x : ByteArray) : chunksB (l ++ [x]) = chunksB l ++ chunkB x := by simp [chunksB]
theorem begin_s {n : Nat} (h : 1 ≤ n) (hn : n ≤ 1000000) : encode_Begin.f (n : Int) = some (ba (begL n)) := by
  unfold encode_Begin.f chunk_Line.f digits_HexText.f digits_figures.f
  rw [if_neg (by omega), if_neg (by omega), if_neg (by omega), if_pos ⟨.inr rfl, by omega, by omega⟩]
  simp only [Option.bind_some]
  have hl : (digL (16 : Int).toNat (n : Int).natAbs).length ≤ 20 := digL_len (b := 16) (n := (n : Int)) (by omega) (by omega) (by omega)
  have hz : (ba (digL (16 : Int).toNat (n : Int).natAbs)).size ≤ 20 := by rw [ba_size]; exact hl
  have e : (⟨(digL (16 : Int).toNat (n : Int).natAbs).toArray⟩ : ByteArray) = ba (digL (16 : Int).toNat (n : Int).natAbs) := rfl
  rw [e, if_pos (by omega)]
  simp only [Option.bind_some]
  show some (ba _ ++ ba [13, 10]) = _
  rw [ba_append]
  rfl
theorem begL_len {n : Nat} (hn : n ≤ 1000000) : (begL n).length ≤ 22 := by
  have hl : (digL 16 (n : Int).natAbs).length ≤ 20 := digL_len (b := 16) (n := (n : Int)) (by omega) (by omega) (by omega)
  unfold begL
  simp at hl ⊢
  omega
theorem chunkB_ba (p : ByteArray) : ba (begL p.size) ++ p ++ ⟨#[13, 10]⟩ = ba (chunkB p) := by
  show ba (begL p.size) ++ ba p.data.toList ++ ba [13, 10] = _
  rw [ba_append, ba_append]
  rfl
theorem chunkB_len {p : ByteArray} (hp : p.size ≤ 1000000) : (chunkB p).length ≤ 1000024 := by
  have := begL_len hp
  unfold chunkB
  simp
  omega
theorem strCells_ba (l : List UInt8) : Lib.strCells (ba l) = Lib.byteCells l := by
  show Lib.byteCells (ba l).data.toList = _
  have : (ba l).data.toList = l := by unfold ba; simp
  rw [this]
theorem byteCells_app (a b : List UInt8) : Lib.byteCells (a ++ b) = Lib.byteCells a ++ Lib.byteCells b := by simp [Lib.byteCells]
theorem isB_own {β : Type} (B b : Nat) (f : β → List Value) : Own (fun s W => Lib.IsBuilder 73 5 B b (f s) W) := fun s W W' row hs hg hr => by
  have key : ∀ p, Lib.BuilderAt 73 5 B b p (f s) W → Lib.BuilderAt 73 5 B b p (f s) W' := by
    rintro p ⟨hB, v, hbk, hown, hne⟩
    refine ⟨hB, v, (grownBy_keeps_cells hg hr hbk rfl).trans hbk, ?_, hne⟩
    refine hown.kept hg ?_
    rcases hown.2 with ⟨hv, _⟩ | ⟨g, cap, cur, hv, _, hgg, _⟩
    · left; rw [hv]; rfl
    · right
      intro e
      rw [hv] at e
      obtain ⟨o, ho, hc⟩ := hr g e.symm
      rw [hgg] at ho
      cases ho
      cases hc
  exact hs.elim (fun h => .inl (key _ h)) (fun h => .inr (key _ h))
theorem keeps_below {W W' : World} (h : Below W.heap.size W W') : KeepsOthers W W' := ⟨h.size, fun k o hk _ => (h.block k (Array.getElem?_eq_some_iff.1 hk).1).trans hk⟩
theorem isB_below {B b : Nat} {bs : List Value} {W W' : World} (hs : Lib.IsBuilder 73 5 B b bs W) (hb : Below W.heap.size W W') : Lib.IsBuilder 73 5 B b bs W' := by
  have key : ∀ p, Lib.BuilderAt 73 5 B b p bs W → Lib.BuilderAt 73 5 B b p bs W' := by
    rintro p ⟨hB, v, hbk, hown, hne⟩
    exact ⟨hB, v, blk_below hbk hb, pw_own_below hown hb, hne⟩
  exact hs.elim (fun h => .inl (key _ h)) (fun h => .inr (key _ h))
set_option maxRecDepth 100000 in
set_option maxHeartbeats 4000000 in
theorem Body_chunked (k : Nat) (fl : Int) (A1 : Option Addr) (c1 : Nat) (zs : List Int) (s : ByteArray) (A3 : Option Addr) (c3 : Nat) (l3 : List S61) (t : ByteArray) (w : World)
    (hr1 : Kd.C (Kd.int .i64) w A1 zs.length zs) (hc1 : zs.length ≤ c1) (hr3 : Kd.C k61 w A3 l3.length l3) (hc3 : l3.length ≤ c3) (hz : zs.length ≤ 1000000) (hs : s.size ≤ 1000000) (hl3 : l3.length ≤ 1000000) (hfl : 0 ≤ fl)
    (hcut : cutL zs s.size = some 0) (hw : Fp.anyW k l3 = some false) (hL : encode_Last.f k l3 = some t) (ht : t.size ≤ 70368744177664) :
    Calls Try.prog 11 #[.agg #[.int .i64 2, .int .i64 fl], .slice A1 zs.length c1, .string s, .slice A3 l3.length c3] w fun e W' => e = .returned (.tuple #[.string (ba (chunksB (pieces zs s)) ++ t), .int .i64 0]) ∧ Below w.heap.size w W' := by
  have hfl1 : ¬ fl < 0 := by omega
  have cC : ∀ W, Kd.C (Kd.int .i64) W A1 zs.length zs → Calls Try.prog 38 #[.string s, .slice A1 zs.length c1] W fun e w' => e = .returned (.tuple #[.func (.func 68) #[] #[.pointer (some ⟨W.heap.size, 0, none⟩), .pointer (some ⟨W.heap.size + 1, 0, none⟩)], .bool true]) ∧
      w'.cell? ⟨W.heap.size, 0, none⟩ = some (.string s) ∧ w'.cell? ⟨W.heap.size + 1, 0, none⟩ = some (.slice A1 zs.length c1) ∧ Below W.heap.size W w' ∧ w'.heap.size = W.heap.size + 2 := fun W h => by
    refine (cuts_calls s A1 c1 zs W h hc1 (by omega) (by omega)).mono ?_
    rw [hcut]
    rintro e w' ⟨rfl, rfl⟩
    have hn := blk_new (W.alloc (.cells #[.string s] 9)) (.cells #[.slice A1 zs.length c1] 24)
    rw [World.size_alloc] at hn
    exact ⟨rfl, blk_cell (blk_alloc (blk_new W _) _) 0, blk_cell hn 0, ((Below.refl _ _).alloc (Nat.le_refl _) _).alloc (by simp) _, by simp⟩
  have cW := fun W (h : Kd.C k61 W A3 l3.length l3) => Fp.anyWrong_calls k A3 c3 l3 false W h hc3 (by omega) hw
  have cL := fun W (h : Kd.C k61 W A3 l3.length l3) => encode_Last.calls k A3 c3 l3 t W h hc3 hL
  have hr1' := Lib.hid hr1
  have hr3' := Lib.hid hr3
  have hcut' := Lib.hid hcut
  clear hw hL hr1 hr3 hcut hfl
  refine (callsIn_wide (n := 6)).1 ?_
  refine callsIn_of_wp_marks Try.func11 rfl trivial ?_ rfl
  simp only [Try.ntmps11, List.size_toArray, List.length_cons, List.length_nil, Nat.reduceAdd, Nat.reduceSub, Array.replicate_succ, Array.replicate_zero, List.push_toArray, List.append_toArray, List.nil_append, List.cons_append]
  have hB0 : ∀ o, Below w.heap.size w (w.alloc o) := fun o => (Below.refl _ w).alloc (Nat.le_refl _) _
  gi_wp2_with (refine ⟨trivial, ?_⟩; gi_at_call 38; refine (callsIn_wide.2 (cC _ (Kd.C_below hr1'.out (hB0 _)))).mono ?_; rintro e w1 ⟨rfl, q1, q2, hb1, hz1⟩; have hB1 := (hB0 _).trans (hb1.mono (hB0 _).size); clear hb1)
  gi_wp2_with (refine ⟨trivial, ?_⟩; gi_at_call 39; refine (callsIn_wide.2 (cW _ (Kd.C_below hr3'.out hB1))).mono ?_; rintro e w2 ⟨rfl, hb2⟩; have hB2 := hB1.trans (hb2.mono hB1.size); have p1 := pw_cell_below hb2 q1; have p2 := pw_cell_below hb2 q2; have hz2 := hb2.size; clear hb2 q1 q2)
  rw [World.size_alloc] at hz1 p1 p2
  have hW0 := blk_new w2 (.cells #[.pointer none, .slice none 0 0] 73)
  have hB3 : Below w.heap.size w (w2.alloc (.cells #[.pointer none, .slice none 0 0] 73)) := hB2.alloc hB2.size _
  have hsz : (w2.alloc (.cells #[.pointer none, .slice none 0 0] 73)).heap.size = w2.heap.size + 1 := World.size_alloc _ _
  have hle : w.heap.size + 3 ≤ w2.heap.size := by omega
  have o1 : (w2.alloc (.cells #[.pointer none, .slice none 0 0] 73)).cell? ⟨w.heap.size + 1, 0, none⟩ = some (.string s) := pw_cell_below ((Below.refl _ _).alloc (Nat.le_refl _) _) p1
  have o2 : (w2.alloc (.cells #[.pointer none, .slice none 0 0] 73)).cell? ⟨w.heap.size + 1 + 1, 0, none⟩ = some (.slice A1 zs.length c1) := pw_cell_below ((Below.refl _ _).alloc (Nat.le_refl _) _) p2
  have hfresh := Lib.fresh_isBuilder 73 5 w2
  clear p1 p2 hz1 hz2 hW0 cC cW
  obtain ⟨w3, hw3⟩ : ∃ W, w2.alloc (.cells #[.pointer none, .slice none 0 0] 73) = W := ⟨_, rfl⟩
  rw [hw3] at hB3 hsz o1 o2 hfresh ⊢
  clear hw3
  refine wpIn_rangeFunc_ownF (F := Fence.wide) rfl (by omega) (gf := 68) (lb := #[.pointer (some ⟨w.heap.size + 1, 0, none⟩), .pointer (some ⟨w.heap.size + 1 + 1, 0, none⟩)]) rfl trivial (enters_of Try.func68 (by kernel_rfl) rfl)
    (cuts1_stops Fence.wide _ trivial rfl (by omega) (w.heap.size + 1) (w.heap.size + 1 + 1) w.heap.size s A1 c1 zs 0 w3 (by omega) (by omega) hcut'.out hB3.size o1 o2 (fun k hk => by
      obtain ⟨ad, e, hc⟩ := int_at hr1'.out hB3 k hk
      obtain ⟨ad', e', hc'⟩ := int_at hr1'.out (Below.refl _ _) k hk
      have hlt := World.block_lt_of_cell? w _ hc'
      rw [e] at e'
      cases e'
      refine ⟨ad, e, ?_, hc⟩
      unfold Addr.add at hlt
      split at hlt <;> simpa using hlt)) belowK_t (belowK_b hB3.size) (Below.refl _ _) (fun _ => rfl)
    (fun pre W => Lib.IsBuilder 73 5 w2.heap.size w2.heap.size (Lib.byteCells (chunksB (pre.map (·.1)))) W ∧ Below w.heap.size w W)
    (fun _ _ _ => False)
    (OwnFrom.and (Own.from (isB_own _ _ _) _) (ownFrom_below (Nat.le_refl _) hB3.size))
    (fun _ _ _ _ _ hs _ _ => hs)
    ⟨hfresh, hB3⟩
    (fun x => { tmps := #[.agg #[.int .i64 2, .int .i64 fl], .slice A1 zs.length c1, .string s, .slice A3 l3.length c3, .pointer (some ⟨w.heap.size, 0, none⟩), undef, undef, undef, .string ⟨#[]⟩, .int .i64 0, (.func (.func 68) #[] #[.pointer (some ⟨w.heap.size + 1, 0, none⟩), .pointer (some ⟨w.heap.size + 1 + 1, 0, none⟩)]), .bool true, .pointer (some ⟨w2.heap.size, 0, none⟩), .string x.1, .pointer (some ⟨w.heap.size, 1, none⟩), .int .i64 fl, .bool false, .pointer (some ⟨w.heap.size, 0, none⟩), .int .i64 2, .bool false, undef, undef, undef, undef, undef, undef, undef, undef, undef, undef, undef, undef, undef, .tuple #[(.func (.func 68) #[] #[.pointer (some ⟨w.heap.size + 1, 0, none⟩), .pointer (some ⟨w.heap.size + 1 + 1, 0, none⟩)]), .bool true], .string s, .slice A1 zs.length c1, .tuple #[(.func (.func 68) #[] #[.pointer (some ⟨w.heap.size + 1, 0, none⟩), .pointer (some ⟨w.heap.size + 1 + 1, 0, none⟩)]), .bool true], (.func (.func 68) #[] #[.pointer (some ⟨w.heap.size + 1, 0, none⟩), .pointer (some ⟨w.heap.size + 1 + 1, 0, none⟩)]), .bool true, .bool true, .bool false, .slice A3 l3.length c3, .bool false, (.func (.func 68) #[] #[.pointer (some ⟨w.heap.size + 1, 0, none⟩), .pointer (some ⟨w.heap.size + 1 + 1, 0, none⟩)]), .string x.1, undef, undef, undef, undef, undef, undef, undef, undef, undef, undef, undef], defers := [] }) ?assign ?body ?done ?stop
  case assign =>
    intro l x W K hK
    gi_wp2
    exact hK
  case body =>
    rintro l pre x W ⟨hI, hB⟩ hpre
    obtain ⟨x, hx1, hx2⟩ := x
    have hb13 := begin_s hx1 (by omega)
    have cB := fun W => encode_Begin.calls (x.size : Int) (ba (begL x.size)) W hb13
    have hbz : (ba (begL x.size)).size ≤ 22 := by rw [ba_size]; exact begL_len (by omega)
    have hlen : (chunksB (pre.map (·.1))).length ≤ pre.length * 1000024 := by
      clear hI hpre
      induction pre with
      | nil => simp [chunksB]
      | cons y pre ih =>
        have h1 := chunkB_len (p := y.1) (by have := y.2.2; omega)
        have h2 : chunksB ((y :: pre).map (·.1)) = chunkB y.1 ++ chunksB (pre.map (·.1)) := by simp [chunksB]
        rw [h2, List.length_append, List.length_cons]
        omega
    have hch : chunksB ((pre ++ [(⟨x, hx1, hx2⟩ : Pc s.size)]).map (·.1)) = chunksB (pre.map (·.1)) ++ chunkB x := by rw [List.map_append]; exact chunksB_snoc _ _
    have hcb := chunkB_ba x
    have hcl := chunkB_len (p := x) (by omega)
    generalize chunksB (pre.map (·.1)) = bs at hI hlen hch
    generalize ba (begL x.size) = bg at cB hbz hcb
    have hbl : (Lib.byteCells bs).length ≤ 1000024000000 := by rw [Lib.byteCells_length]; omega
    have hsum : (Lib.byteCells bs).length + (bg ++ x ++ ⟨#[13, 10]⟩).size ≤ 140737488355328 := by
      rw [hcb, ba_size]
      omega
    have hcbH := Lib.hid hcb
    have hchH := Lib.hid hch
    clear hb13 hch hlen hpre hcl hcb
    dsimp only
    gi_wp2_with (first
      | (refine ⟨trivial, ?_⟩; gi_at_call 13; refine (CallsIn.inRound l (callsIn_wide.2 (cB _))).mono ?_; rintro e W1 ⟨rfl, hb1⟩; have hI1 := isB_below hI hb1; have hB1 := hB.trans (hb1.mono hB.size); have hk1 := keeps_below hb1)
      | (refine ⟨trivial, ?_⟩; gi_at_call 42; refine (CallsIn.inRound l (callsIn_wide.2 (Bld.WriteString w2.heap.size w2.heap.size (Lib.byteCells bs) _ _ hI1 hsum (by rcases hI1 with h | h <;> exact Nat.le_of_lt h.lt)))).mono ?_; rintro e W2 ⟨rfl, hat, hb2, hk2⟩))
    refine ⟨hk1.trans hk2, ?_, ?_, ?_⟩
    · exact ((Below.refl _ _).trans (hb1.mono hB.size)).trans (hb2.mono (by omega))
    · rw [hcbH.out, strCells_ba, ← byteCells_app] at hat
      rw [hchH.out]
      exact .inr hat
    · exact hB1.trans (hb2.mono (by omega))
  case done =>
    rintro D xs W hD hS ⟨hI, hB⟩ hK
    have hlen : (chunksB (xs.map (·.1))).length ≤ xs.length * 1000024 := by
      clear hI hS
      induction xs with
      | nil => simp [chunksB]
      | cons y pre ih =>
        have h1 := chunkB_len (p := y.1) (by have := y.2.2; omega)
        have h2 : chunksB ((y :: pre).map (·.1)) = chunkB y.1 ++ chunksB (pre.map (·.1)) := by simp [chunksB]
        rw [h2, List.length_append, List.length_cons]
        omega
    have hxl : xs.length = zs.length := by rw [← pieces_length zs s, ← hS, List.length_map]
    rw [hS] at hI hlen
    have efin : ba (chunksB (pieces zs s)) ++ t = ba (chunksB (pieces zs s) ++ t.data.toList) := by
      rw [← ba_append]
      rfl
    have hefin := Lib.hid efin
    clear hS efin
    obtain ⟨bs, hbs⟩ : ∃ bs, chunksB (pieces zs s) = bs := ⟨_, rfl⟩
    rw [hbs] at hI hlen
    have hbsH := Lib.hid hbs
    clear hbs
    have hsum : (Lib.byteCells bs).length + t.size ≤ 140737488355328 := by rw [Lib.byteCells_length]; omega
    have hbw : w2.heap.size < W.heap.size := by rcases hI with h | h <;> exact h.lt
    clear hlen hxl
    gi_wp2_with (first
      | (refine ⟨trivial, ?_⟩; gi_at_call 15; refine (callsIn_wide.2 (cL _ (Kd.C_below hr3'.out hB))).mono ?_; rintro e W1 ⟨rfl, hb1⟩; have hI1 := isB_below hI hb1; have hB4 := hB.trans (hb1.mono hB.size); have hK1 := (keeps_below hb1).same D _ hK rfl; have hbw1 := hb1.size)
      | (refine ⟨trivial, ?_⟩; gi_at_call 42; refine (callsIn_wide.2 (Bld.WriteString w2.heap.size w2.heap.size (Lib.byteCells bs) t _ hI1 hsum (by omega))).mono ?_; rintro e W2 ⟨rfl, hat, hb2, hk2⟩; have hK2 := hk2.same D _ hK1 rfl; have hbw2 := hb2.size)
      | (refine ⟨trivial, ?_⟩; gi_at_call 43; rw [Lib.strCells_eq, ← byteCells_app] at hat; refine (callsIn_wide.2 (Try.Builder_String_any_k w2.heap.size w2.heap.size (bs ++ t.data.toList) _ (Lib.IsBuilderF.of (.inr hat)) (by omega))).mono ?_; rintro e W3 ⟨rfl, _, hb3, hk3⟩; have hK3 := hk3 D _ hK2 (fun h => by cases h; omega) (fun _ _ h => by cases h)))
    refine ⟨by simp, .inl ⟨_, _, rfl, run_takeDeferred hK3, ?_⟩⟩
    have hB5 : Below w.heap.size w W3 := (hB4.trans (hb2.mono (by omega))).trans (hb3.mono (by omega))
    refine ⟨.tuple #[.string ⟨(bs ++ t.data.toList).toArray⟩, .int .i64 0], by simp [results, Try.results11, Try.f11, go_sem], ?_, hB5.trans (belowK_b (w := w) (Nat.le_refl _) W3 D _ _ (by omega) hK3 rfl rfl)⟩
    rw [hefin.out, hbsH.out]
    rfl
  case stop =>
    rintro D c pre W _ _ h _
    exact h.elim
end Go.Proofs.Ytdbokcgjdkbknaa.Hand
