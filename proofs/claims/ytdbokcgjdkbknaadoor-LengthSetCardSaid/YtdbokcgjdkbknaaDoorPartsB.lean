/- Ranges over a function whose iterator writes memory of its own: the iterator's word, the loop's law. | Hand walk: the iterator of strings.SplitSeq, at a comma. | Plain and by contract: octet.Trim: every text's trimmed text. | Hand walk: the iterator of length.parts. | Hand walk: the iterator of length.parts. -/
import Derived.RangeFuncNested
import Derived.RangeFuncBound
import Derived.RangeFuncCalls
import Derived.RangeFuncLeaves
import Derived.TacticsInMore
import Derived.LoopIn
import Derived.Test.YtdbokcgjdkbknaaDoorWWords
import Derived.Test.YtdbokcgjdkbknaaDoorSplit
import Derived.Lib.CutLaws
import Derived.WalkKit
import Derived.OwnWalkIn
import Derived.Lib.Hide
import Derived.Shelf.RegionOpen
import Derived.Test.YtdbokcgjdkbknaaDoorWLast
import Derived.Test.YtdbokcgjdkbknaaDoorWMore
import Derived.Test.YtdbokcgjdkbknaaDoorPTrx1
import Derived.IntWalk
namespace Go.Proofs.YtdbokcgjdkbknaaDoor.Hand
open Go.RowKit
set_option linter.unusedVariables false
set_option linter.unusedSimpArgs false
/-- Blocks of S may have changed, and new ones lie there: nothing else has. -/
structure Turn (S : Nat → Prop) (A A' : World) : Prop where
  os : A'.os = A.os
  tape : A'.tape = A.tape
  output : A'.output = A.output
  size : A.heap.size ≤ A'.heap.size
  block : ∀ k, k < A.heap.size → ¬ S k → A'.heap[k]? = A.heap[k]?
theorem Turn.refl (S : Nat → Prop) (A : World) : Turn S A A := ⟨rfl, rfl, rfl, Nat.le_refl _, fun _ _ _ => rfl⟩
theorem Turn.trans {S : Nat → Prop} {A B C : World} (h : Turn S A B) (k : Turn S B C) : Turn S A C :=
  ⟨k.os.trans h.os, k.tape.trans h.tape, k.output.trans h.output, Nat.le_trans h.size k.size, fun i hi hs => (k.block i (Nat.lt_of_lt_of_le hi h.size) hs).trans (h.block i hi hs)⟩
theorem Turn.mono {S T : Nat → Prop} {A B : World} (h : Turn S A B) (hs : ∀ k, k < A.heap.size → S k → T k) : Turn T A B :=
  ⟨h.os, h.tape, h.output, h.size, fun i hi ht => h.block i hi (fun k => ht (hs i hi k))⟩
theorem Turn.of_below {S : Nat → Prop} {n : Nat} {A B : World} (h : Below n A B) (hs : ∀ k, n ≤ k → k < A.heap.size → S k) : Turn S A B :=
  ⟨h.os, h.tape, h.output, h.size, fun i hi ht => h.block i (Nat.lt_of_not_le fun k => ht (hs i k hi))⟩
theorem Turn.below {S : Nat → Prop} {n : Nat} {A B : World} (h : Turn S A B) (hn : n ≤ A.heap.size) (hs : ∀ k, S k → n ≤ k) : Below n A B :=
  ⟨h.os, h.tape, h.output, h.size, fun i hi => h.block i (Nat.lt_of_lt_of_le hi hn) (fun k => absurd (hs i k) (by omega))⟩
theorem Turn.new {S : Nat → Prop} {A B : World} (h : Below A.heap.size A B) : Turn S A B := Turn.of_below h (fun k h1 h2 => absurd h1 (by omega))
theorem Turn.setCell {S : Nat → Prop} (A : World) (p : Addr) (v : Value) (h : S p.block) : Turn S A (A.setCell p v) :=
  ⟨rfl, rfl, rfl, by simp, fun i hi hs => Below.heap_setCell A p v i (fun e => hs (e ▸ h))⟩
theorem Turn.putObj {S : Nat → Prop} (A : World) (l : Nat) (o : Obj) (h : S l) : Turn S A (A.putObj l o) :=
  ⟨rfl, rfl, rfl, by simp, fun i hi hs => World.putObj_heap_other (fun e => hs (e ▸ h))⟩
theorem Turn.at {S : Nat → Prop} {A B : World} (h : Turn S A B) {k : Nat} {o : Obj} (hk : A.heap[k]? = some o) (hs : ¬ S k) : B.heap[k]? = some o :=
  (h.block k (Array.getElem?_eq_some_iff.1 hk).1 hs).trans hk
theorem Turn.cell {S : Nat → Prop} {A B : World} (h : Turn S A B) {p : Addr} {v : Value} (hk : A.cell? p = some v) (hs : ¬ S p.block) : B.cell? p = some v := by
  obtain ⟨o, ho, _⟩ := cells_of_cell hk
  have := h.block p.block (Array.getElem?_eq_some_iff.1 ho).1 hs
  unfold World.cell? at hk ⊢
  rw [this]
  exact hk
/-- What an iterator that gives texts does for its caller. O: blocks of its own, laid ahead; C: blocks that a round may change. -/
def Iter (F : Fence) (n : Nat) (P : Program) (g : Nat) (lb : Array Value) (xs : List ByteArray) (O C : Nat → Prop) (K : World → Prop) : Prop :=
  ∀ (l : Nat) (J Jx : List ByteArray → World → Prop) (W : World), K W → (∀ k, W.heap.size ≤ k → ¬ C k) →
    (∀ s A A', J s A → W.heap.size ≤ A.heap.size → Turn (fun k => O k ∨ W.heap.size ≤ k) A A' → J s A') →
    (∀ s A A', Jx s A → W.heap.size ≤ A.heap.size → Turn (fun k => O k ∨ W.heap.size ≤ k) A A' → Jx s A') →
    (∀ pre x W1, J pre W1 → W.heap.size ≤ W1.heap.size → pre ++ [x] <+: xs → YieldAt F (n - 1) P l #[.string x] W1 fun e W' =>
      (e = .returned (.bool true) ∧ J (pre ++ [x]) W' ∧ Turn C W1 W') ∨ (e = .returned (.bool false) ∧ Jx (pre ++ [x]) W' ∧ Turn C W1 W')) →
    J [] W →
    CallsIn F n P g (#[.func (.yield l) #[] #[]] ++ lb) W fun e W' => (∃ v, e = .returned v) ∧ (J xs W' ∨ ∃ pre, Jx pre W')
def ownT (C0 : Nat → Prop) (I : List ByteArray → World → Prop) (Ix : Code → List ByteArray → World → Prop) (s : List ByteArray) (W : World) : Exit → Act → World → Prop
  | .normal, _, W' => Turn C0 W W' ∧ I s W'
  | .ret, _, W' => Turn C0 W W' ∧ Ix .ret s W'
  | .exit id, _, W' => Turn C0 W W' ∧ Ix (.exit id) s W'
  | _, _, _ => False
variable {F : Fence} {n : Nat} {P : Program}
theorem wpIn_range_iter {g : Operand} {ps : Array Tmp} {assign body : Code} {Q : Exit → Act → World → Prop} {a : Act} {w : World}
    (hro : F.round = none) (h1 : 1 ≤ n) {gf : Nat} {lb : Array Value} (hg : a.eval g = .func (.func gf) #[] lb) (hFg : F.fn gf) (eg : ∀ args w, (callFunc gf args).run P w = .ok (.enter gf args) w)
    {xs : List ByteArray} {O : Nat → Prop} {K : World → Prop} (C0 : Nat → Prop)
    (hit : Iter F (n - 1) P gf lb xs O (fun k => C0 k ∨ k = w.heap.size + 1) K) (hps : ps.size = 1) (hC : ∀ k, C0 k → k < w.heap.size) (hO : ∀ k, O k → k < w.heap.size)
    (hK : ∀ W, Below w.heap.size w W → K W)
    (I : List ByteArray → World → Prop) (Ix : Code → List ByteArray → World → Prop)
    (hI : ∀ s A A', I s A → w.heap.size ≤ A.heap.size → Turn (fun k => O k ∨ w.heap.size ≤ k) A A' → I s A')
    (hIx : ∀ c s A A', Ix c s A → w.heap.size ≤ A.heap.size → Turn (fun k => O k ∨ w.heap.size ≤ k) A A' → Ix c s A')
    (h0 : I [] w) (a₁ : ByteArray → Act)
    (hassign : ∀ (l : Nat) (x : ByteArray) (W : World) (K : Act → World → Prop), K (a₁ x) W →
      assign.wpIn (F.inRound l) (n - 1 - 1) P (Exit.then K (fun _ _ _ => False)) { tmps := (ps.zip #[.string x]).foldl (fun t (p, v) => t.setIfInBounds p v) a.tmps, defers := [] } W)
    (hbody : ∀ (l : Nat) (pre : List ByteArray) (x : ByteArray) (W : World), w.heap.size ≤ W.heap.size → I pre W → pre ++ [x] <+: xs → body.wpIn (F.inRound l) (n - 1 - 1) P (ownT C0 I Ix (pre ++ [x]) W) (a₁ x) W)
    (hdone : ∀ W, w.heap.size ≤ W.heap.size → I xs W → W.heap[w.heap.size]? = some (.deferred (some [])) → Q .normal { a with defers := { target := .collected w.heap.size, args := #[] } :: a.defers } W)
    (hstop : ∀ c pre W, w.heap.size ≤ W.heap.size → Ix c pre W → W.heap[w.heap.size]? = some (.deferred (some [])) → c.wpIn F n P Q { a with defers := { target := .collected w.heap.size, args := #[] } :: a.defers } W) :
    (Code.rangeFunc g ps assign body).wpIn F n P Q a w := by
  refine wpIn_rangeFunc ?_
  intro fn hfn
  rw [hro]
  obtain ⟨rec, hrec⟩ : ∃ rec : LoopState → Option Code → Loop, rec = fun st pe => { state := st, pending := pe, fn, tmps := a.tmps, params := ps, assign, body, defers := w.heap.size } := ⟨_, rfl⟩
  obtain ⟨W1, hW1⟩ : ∃ W1, (w.alloc (.deferred (some []))).alloc (.loop (rec .ready none)) = W1 := ⟨_, rfl⟩
  have hz1 : W1.heap.size = w.heap.size + 2 := by rw [← hW1]; simp
  have hb1 : Below w.heap.size w W1 := by rw [← hW1]; exact ((Below.refl _ w).alloc (Nat.le_refl _) _).alloc (by simp) _
  have hL1 : W1.heap[w.heap.size + 1]? = some (.loop (rec .ready none)) := by
    have := World.alloc_heap_new (w.alloc (.deferred (some []))) (.loop (rec .ready none))
    rw [World.size_alloc] at this
    rw [← hW1]
    exact this
  have hD1 : W1.heap[w.heap.size]? = some (.deferred (some [])) := by
    rw [← hW1]
    exact (Below.heap_alloc _ _ _ (by simp)).trans (World.alloc_heap_new w _)
  have hC1 : ∀ k, W1.heap.size ≤ k → ¬ (C0 k ∨ k = w.heap.size + 1) := by
    rintro k hk (h | h)
    · have := hC k h; omega
    · omega
  -- what abides: the invariant, the record, the block for deferred calls
  have keep : ∀ {S : Nat → Prop} {A A' : World} {k : Nat} {o : Obj}, Turn (fun k => O k ∨ W1.heap.size ≤ k) A A' → w.heap.size ≤ k → k < W1.heap.size → A.heap[k]? = some o → A'.heap[k]? = some o := fun ht h2 h3 ha => by
    refine ht.at ha ?_
    rintro (h | h)
    · have := hO _ h; omega
    · omega
  have wide : ∀ {A A' : World}, Turn (fun k => O k ∨ W1.heap.size ≤ k) A A' → Turn (fun k => O k ∨ w.heap.size ≤ k) A A' := fun ht => ht.mono fun k _ h => h.imp id (fun h => by omega)
  refine ⟨w.heap.size + 1, [{ target := .collected w.heap.size, args := #[] }], W1, { target := .fn (.func gf) lb, args := #[.func (.yield (w.heap.size + 1)) #[] #[]] }, W1, gf,
    #[.func (.yield (w.heap.size + 1)) #[] #[]] ++ lb, W1, ?_, ?_, ?_, ?_, fun _ => h1, ?_⟩
  · rw [← hW1, hrec]; exact run_enterLoop_outer _ _ _ _ _
  · simp only [resolve, hg]
    simp [go_sem]
  · intro f' hf'; simp [Target.leads] at hf'; subst hf'; exact hFg
  · simp [invoke, go_sem, eg]
  · refine (hit (w.heap.size + 1)
      (fun pre W => I pre W ∧ w.heap.size ≤ W.heap.size ∧ W.heap[w.heap.size + 1]? = some (.loop (rec .ready none)) ∧ W.heap[w.heap.size]? = some (.deferred (some [])))
      (fun pre W => w.heap.size ≤ W.heap.size ∧ ∃ c, Ix c pre W ∧ W.heap[w.heap.size + 1]? = some (.loop (rec .done (some c))) ∧ W.heap[w.heap.size]? = some (.deferred (some [])))
      W1 (hK _ hb1) hC1 ?_ ?_ ?_ ⟨hI [] _ _ h0 (Nat.le_refl _) (Turn.new hb1), by omega, hL1, hD1⟩).mono ?_
    · rintro s A A' ⟨i1, i2, i3, i4⟩ hA ht
      exact ⟨hI s A A' i1 (by omega) (wide ht), Nat.le_trans i2 ht.size, keep (S := O) ht (by omega) (by omega) i3, keep (S := O) ht (by omega) (by omega) i4⟩
    · rintro s A A' ⟨i2, c, i1, i3, i4⟩ hA ht
      exact ⟨Nat.le_trans i2 ht.size, c, hIx c s A A' i1 (by omega) (wide ht), keep (S := O) ht (by omega) (by omega) i3, keep (S := O) ht (by omega) (by omega) i4⟩
    · rintro pre x W ⟨hi, hws, hl, hk⟩ hW hpre
      have hlt : w.heap.size + 1 < W.heap.size := (Array.getElem?_eq_some_iff.1 hl).1
      have hy := run_yield (P := P) (args := #[.string x]) hl (by rw [hrec]; exact hps.symm)
      rw [hrec] at hy
      refine ⟨fn, _, assign, body, hy, roundIn_of_wpIn hfn (hassign _ x W _ ?_)⟩
      clear hy
      refine ⟨_, run_beginRound hl (by rw [hrec]), ?_⟩
      obtain ⟨W2, hW2⟩ : ∃ W2, W.putObj (w.heap.size + 1) (.loop { rec .ready none with state := .busy }) = W2 := ⟨_, rfl⟩
      have hl2 : W2.heap[w.heap.size + 1]? = some (.loop { rec .ready none with state := .busy }) := by rw [← hW2]; exact World.putObj_heap_same hlt
      have hk2 : W2.heap[w.heap.size]? = some (.deferred (some [])) := by rw [← hW2]; exact (World.putObj_heap_other (by omega)).trans hk
      have ht2 : Turn (fun k => C0 k ∨ k = w.heap.size + 1) W W2 := by rw [← hW2]; exact Turn.putObj _ _ _ (.inr rfl)
      have hi2 : I pre W2 := by rw [← hW2]; exact hI _ _ _ hi hws (Turn.putObj _ _ _ (.inr (by omega)))
      rw [hW2]
      refine wpIn_mono (hbody _ pre x W2 (Nat.le_trans hws ht2.size) hi2 hpre) ?_
      have fin : ∀ (jump : Option Code) (W3 : World), Turn C0 W2 W3 →
          (Instr.endRound (w.heap.size + 1) jump).run P W3 = .ok (.bool jump.isNone) (W3.putObj (w.heap.size + 1) (.loop (rec (if jump.isNone then .ready else .done) jump))) ∧
          w.heap.size ≤ W3.heap.size ∧
          Turn (fun k => O k ∨ w.heap.size ≤ k) W3 (W3.putObj (w.heap.size + 1) (.loop (rec (if jump.isNone then .ready else .done) jump))) ∧
          Turn (fun k => C0 k ∨ k = w.heap.size + 1) W (W3.putObj (w.heap.size + 1) (.loop (rec (if jump.isNone then .ready else .done) jump))) ∧
          (W3.putObj (w.heap.size + 1) (.loop (rec (if jump.isNone then .ready else .done) jump))).heap[w.heap.size + 1]? = some (.loop (rec (if jump.isNone then .ready else .done) jump)) ∧
          (W3.putObj (w.heap.size + 1) (.loop (rec (if jump.isNone then .ready else .done) jump))).heap[w.heap.size]? = some (.deferred (some [])) := fun jump W3 ht => by
        have hl3 := ht.at hl2 (fun h => by have := hC _ h; omega)
        have hk3 := ht.at hk2 (fun h => by have := hC _ h; omega)
        have := run_endRound (P := P) jump hl3
        rw [hrec] at this
        have hs3 := ht.size
        have hs2 := ht2.size
        refine ⟨by rw [hrec]; exact this, by omega, Turn.putObj _ _ _ (.inr (by omega)), ?_, World.putObj_heap_same (by omega), (World.putObj_heap_other (by omega)).trans hk3⟩
        exact (ht2.trans (ht.mono fun k _ h => .inl h)).trans (Turn.putObj _ _ _ (.inr rfl))
      rintro e a3 W3 hp
      cases e with
      | normal =>
        obtain ⟨ht3, hi3⟩ := hp
        obtain ⟨hr, hs3, hp3, hT, hl4, hk4⟩ := fin none W3 ht3
        exact ⟨_, _, hr, .inl ⟨rfl, ⟨hI _ _ _ hi3 hs3 hp3, Nat.le_trans hs3 hp3.size, hl4, hk4⟩, hT⟩⟩
      | ret =>
        obtain ⟨ht3, hi3⟩ := hp
        obtain ⟨hr, hs3, hp3, hT, hl4, hk4⟩ := fin (some .ret) W3 ht3
        exact ⟨_, _, hr, .inr ⟨rfl, ⟨Nat.le_trans hs3 hp3.size, .ret, hIx _ _ _ _ hi3 hs3 hp3, hl4, hk4⟩, hT⟩⟩
      | exit id =>
        obtain ⟨ht3, hi3⟩ := hp
        obtain ⟨hr, hs3, hp3, hT, hl4, hk4⟩ := fin (some (.exit id)) W3 ht3
        exact ⟨_, _, hr, .inr ⟨rfl, ⟨Nat.le_trans hs3 hp3.size, .exit id, hIx _ _ _ _ hi3 hs3 hp3, hl4, hk4⟩, hT⟩⟩
      | goto t => exact hp.elim
      | panic ch => exact hp.elim
      | outgrown => exact hp.elim
    · rintro e W2 ⟨⟨v, rfl⟩, (⟨hi, hs, hl, hk⟩ | ⟨pre, hs, c, hi, hl, hk⟩)⟩
      · exact ⟨none, _, by have := run_endLoop (P := P) hl (by rw [hrec]; simp); rw [hrec] at this; exact this, hdone _ (by simpa using hs) (hI _ _ _ hi hs (Turn.putObj _ _ _ (.inr (by omega)))) ((World.putObj_heap_other (by omega)).trans hk)⟩
      · exact ⟨some c, _, by have := run_endLoop (P := P) hl (by rw [hrec]; simp); rw [hrec] at this; exact this, hstop c pre _ (by simpa using hs) (hIx _ _ _ _ hi hs (Turn.putObj _ _ _ (.inr (by omega)))) ((World.putObj_heap_other (by omega)).trans hk)⟩
end Go.Proofs.YtdbokcgjdkbknaaDoor.Hand
namespace Go.Proofs.YtdbokcgjdkbknaaDoor.Hand
open Go.RowKit Go.Shelf Go.Proofs.YtdbokcgjdkbknaaDoorW.PrintWords Go.Proofs.YtdbokcgjdkbknaaDoorW.PrintLast Go.Proofs.YtdbokcgjdkbknaaDoorW.PrintMore
set_option linter.unusedVariables false
set_option linter.unusedSimpArgs false
attribute [local go_sem] Oper.semAt_some
/-- What stands between the commas. -/
def commaS (s : ByteArray) : List ByteArray := Lib.splitB ⟨#[44]⟩ 0 (Lib.countB s ⟨#[44]⟩) s
theorem comma_none {s : ByteArray} (h : Lib.indexB s ⟨#[44]⟩ = -1) : commaS s = [s] := Lib.splitB_miss _ _ _ _ h
theorem comma_some {s : ByteArray} {i : Nat} (h : Lib.indexB s ⟨#[44]⟩ = i) : commaS s = s.extract 0 i :: commaS (s.extract (i + 1) s.size) := by
  unfold commaS
  rw [Lib.countB_hit s ⟨#[44]⟩ i (Nat.le_refl 1) h, Nat.add_comm 1, Lib.splitB_hit _ _ _ _ _ h]
  rfl
def strOf : Option Value → Nat
  | some (.string s) => s.size
  | _ => 0
set_option maxRecDepth 100000 in
set_option maxHeartbeats 2000000 in
theorem splitSeq1_iter (n : Nat) (hn : 1 ≤ n) (b1 b2 b3 : Nat) (h12 : b1 ≠ b2) (h32 : b3 ≠ b2) (s : ByteArray) (hs : s.size ≤ 1000000) (C : Nat → Prop) (hC1 : ¬ C b1) (hC2 : ¬ C b2) (hC3 : ¬ C b3) :
    Iter Fence.wide n Tryd.prog 94 #[.pointer (some ⟨b1, 0, none⟩), .pointer (some ⟨b2, 0, none⟩), .pointer (some ⟨b3, 0, none⟩)] (commaS s) (fun k => k = b2) C
      (fun W => Boxed W b1 9 (.string ⟨#[44]⟩) ∧ Boxed W b2 9 (.string s) ∧ Boxed W b3 3 (.int .i64 0)) := by
  intro l J Jx W0 ⟨k1, k2, k3⟩ hCn hJ hJx hY h0
  have cI : ∀ (x : ByteArray) (W : World), Calls Tryd.prog 87 #[.string x, .string ⟨#[44]⟩] W fun e w' => e = .returned (.int .i64 (Lib.indexB x ⟨#[44]⟩)) ∧ w' = W := fun x W => by
    refine (Tryd.strings_Index_one x 44 W).mono fun e w' ⟨he, hw⟩ => ⟨?_, hw⟩
    rw [he]
    show _ = Ending.returned (Value.int .i64 (Lib.index x.data.toList [44]))
    rw [Lib.index_one]
  have hb1 : b1 < W0.heap.size := k1.lt
  have hb2 : b2 < W0.heap.size := k2.lt
  have hb3 : b3 < W0.heap.size := k3.lt
  refine callsIn_of_wp Tryd.func94 rfl trivial ?_ rfl
  simp only [Tryd.ntmps94, List.size_toArray, List.length_cons, List.length_nil, Nat.reduceAdd, Nat.reduceSub, Array.replicate_succ, Array.replicate_zero, List.push_toArray, List.append_toArray, List.nil_append, List.cons_append]
  have q1 := k1.cell
  gi_wp2
  clear q1
  gi_loopw [] (fun wr => ∃ (pre : List ByteArray) (r : ByteArray), r.size ≤ 1000000 ∧ W0.heap.size ≤ wr.heap.size ∧ J pre wr ∧ pre ++ commaS r = commaS s ∧ Boxed wr b1 9 (.string ⟨#[44]⟩) ∧ Boxed wr b2 9 (.string r) ∧ Boxed wr b3 3 (.int .i64 0))
    (fun wr => strOf (wr.cell? ⟨b2, 0, none⟩))
  case atStart => exact ⟨[], s, hs, Nat.le_refl _, h0, rfl, k1, k2, k3⟩
  case round =>
    obtain ⟨pre, r, hr, hsz, hJp, hpre, o1, o2, o3⟩ := hrel
    have hx := Lib.indexB_cases r ⟨#[44]⟩
    have e1 : (⟨#[44]⟩ : ByteArray).size = 1 := rfl
    rcases hx with hx | ⟨i, hx, hi⟩
    · rw [comma_none hx] at hpre
      obtain ⟨fn, tmps, assign, body, hy, hR⟩ := hY pre r wr hJp hsz (by rw [hpre]; exact List.prefix_refl _)
      have p1 := o1.cell
      have p2 := o2.cell
      have cI2 := cI r wr
      rw [hx] at cI2
      have hpreH := Lib.hid hpre
      clear cI hpre hY hJ hJx hx o1 o2 o3
      gi_wp2_with (refine ⟨trivial, ?_⟩; gi_at_call 87; refine (callsIn_wide.2 cI2).mono ?_; rintro e w' ⟨rfl, hw⟩; subst hw)
      focus
        refine hR.mono ?_
        rintro e W3 (⟨rfl, hJ3, hk3⟩ | ⟨rfl, hJx3, hk3⟩)
        · gi_wp2
          go_end0
          exact ⟨⟨_, rfl⟩, .inl (by rw [← hpreH.out]; exact hJ3)⟩
        · gi_wp2
          go_end0
          exact ⟨⟨_, rfl⟩, .inr ⟨_, hJx3⟩⟩
    · rw [comma_some hx] at hpre
      rw [e1] at hi
      have hpre2 : pre ++ [r.extract 0 i] ++ commaS (r.extract (i + 1) r.size) = commaS s := by rw [← hpre]; simp
      obtain ⟨fn, tmps, assign, body, hy, hR⟩ := hY pre (r.extract 0 i) wr hJp hsz (by rw [← hpre]; exact ⟨commaS (r.extract (i + 1) r.size), by simp⟩)
      have p1 := o1.cell
      have p2 := o2.cell
      have p3 := o3.cell
      have cI2 := cI r wr
      rw [hx] at cI2
      have hpreH := Lib.hid hpre2
      have hrz : (r.extract (i + 1) r.size).size = r.size - (i + 1) := by rw [ByteArray.size_extract]; omega
      have hms : strOf (wr.cell? ⟨b2, 0, none⟩) = r.size := by rw [p2]; rfl
      have hmsH := Lib.hid hms
      have hrzH := Lib.hid hrz
      clear cI hpre hpre2 hY hx hms hrz e1
      gi_wp2_with (refine ⟨trivial, ?_⟩; gi_at_call 87; refine (callsIn_wide.2 cI2).mono ?_; rintro e w' ⟨rfl, hw⟩; subst hw)
      focus
        refine hR.mono ?_
        rintro e W3 (⟨rfl, hJ3, hk3⟩ | ⟨rfl, hJx3, hk3⟩)
        · have r1 : Boxed W3 b1 9 (.string ⟨#[44]⟩) := hk3.at o1 hC1
          have r2 : Boxed W3 b2 9 (.string r) := hk3.at o2 hC2
          have r3 : Boxed W3 b3 3 (.int .i64 0) := hk3.at o3 hC3
          have z1 := r1.cell
          have z2 := r2.cell
          have z3 := r2.frozen
          have hs3 := hk3.size
          clear p1 p2 p3
          gi_wp2
          focus
            go_roundw
            case rel =>
              refine ⟨pre ++ [r.extract 0 i], r.extract (i + 1) r.size, by rw [hrzH.out]; omega, by simp; omega, hJ _ _ _ hJ3 (by omega) (Turn.setCell _ _ _ (.inl rfl)), hpreH.out, ?_, ?_, ?_⟩
              · exact r1.other h12 _
              · exact r2.set _
              · exact r3.other h32 _
            case measure =>
              rw [hmsH.out, (r2.set _).cell]
              show (r.extract (i + 1) r.size).size < r.size
              rw [hrzH.out]
              omega
        · gi_wp2
          refine bodyPost_ret (results_none rfl _ _ _) rfl ?_
          exact ⟨⟨_, rfl⟩, .inr ⟨_, hJx3⟩⟩
end Go.Proofs.YtdbokcgjdkbknaaDoor.Hand
namespace Go.Proofs.YtdbokcgjdkbknaaDoor.PTr
open Go.RowKit Go.Proofs.YtdbokcgjdkbknaaDoorW.PrintWords Go.Proofs.YtdbokcgjdkbknaaDoorW.PrintMore
set_option linter.unusedVariables false
set_option linter.unusedSimpArgs false
theorem bt_nat (s : ByteArray) (i : Nat) (h : i < s.size) : bt s (i : Int) = ((s[i]'h).toNat : Int) := by
  unfold bt; rw [dif_pos (by simpa using h)]; rfl
theorem w64 {n : Int} (h0 : -9223372036854775808 ≤ n) (h1 : n ≤ 9223372036854775807) : wrap64 n = n := IntWalk.wrap64_in n ⟨h0, h1⟩
theorem wsucc {i n : Nat} (h : i < n) (hn : n ≤ 140737488351232) : wrap64 ((i : Int) + 1) = ((i + 1 : Nat) : Int) := by
  rw [w64 (by omega) (by omega)]; omega
def blk (c : Int) : Bool := decide (c = 32) || decide (c = 9)
theorem blank_s (c : Int) : octet_blank.f c = some (blk c) := by
  unfold octet_blank.f blk
  by_cases h : c = 32
  · rw [if_pos h]; simp [h]
  · rw [if_neg h]; by_cases h9 : c = 9 <;> simp [h, h9]
def trR (s : ByteArray) (i : Nat) : Nat → ByteArray
  | 0 => s.extract i 0
  | j + 1 => if i < j + 1 then if blk (bt s j) = true then trR s i j else s.extract i (j + 1) else s.extract i (j + 1)
def trL (s : ByteArray) : Nat → Nat → ByteArray
  | 0, i => trR s i s.size
  | d + 1, i => if blk (bt s i) = true then trL s d (i + 1) else trR s i s.size
theorem wpred {j n : Nat} (h : j < n) (hn : n ≤ 140737488351232) : wrap64 (((j + 1 : Nat) : Int) - 1) = (j : Int) := by
  rw [w64 (by omega) (by omega)]; omega
theorem otrim_r (s : ByteArray) (hn : s.size ≤ 140737488351232) (i : Nat) : ∀ j : Nat, i ≤ j → j ≤ s.size → Ev (fun k => octet_Trim.l1 k s (i : Int) (j : Int)) (trR s i j)
  | 0, h, h2 => by
    refine Ev.step (f := fun _ => some (s.extract i 0)) (fun k => ?_) (Ev.now _)
    show octet_Trim.l1 (k + 1) s (i : Int) ((0 : Nat) : Int) = _
    simp only [octet_Trim.l1]
    rw [if_neg (by omega), if_pos (by omega), if_pos (by omega), if_pos (by omega)]
    rfl
  | j + 1, h, h2 => by
    unfold trR
    by_cases hij : i < j + 1
    · rw [if_pos hij]
      have ih := otrim_r s hn i j (by omega) (by omega)
      cases hb : blk (bt s (j : Int))
      · refine Ev.step (f := fun _ => some (s.extract i (j + 1))) (fun k => ?_) (by simpa using Ev.now _)
        show octet_Trim.l1 (k + 1) s (i : Int) ((j + 1 : Nat) : Int) = _
        simp only [octet_Trim.l1]
        rw [wpred (show j < s.size by omega) hn, if_pos (by omega), if_pos (by omega), if_pos (by omega), blank_s, hb]
        simp only [Option.bind_some]
        rw [if_neg (by decide), if_pos (by omega), if_pos (by omega), if_pos (by omega)]
        rfl
      · rw [if_pos rfl]
        refine Ev.step (f := fun k => octet_Trim.l1 k s (i : Int) (j : Int)) (fun k => ?_) ih
        show octet_Trim.l1 (k + 1) s (i : Int) ((j + 1 : Nat) : Int) = _
        simp only [octet_Trim.l1]
        rw [wpred (show j < s.size by omega) hn, if_pos (by omega), if_pos (by omega), if_pos (by omega), blank_s, hb]
        rfl
    · rw [if_neg hij]
      refine Ev.step (f := fun _ => some (s.extract i (j + 1))) (fun k => ?_) (Ev.now _)
      show octet_Trim.l1 (k + 1) s (i : Int) ((j + 1 : Nat) : Int) = _
      simp only [octet_Trim.l1]
      rw [if_neg (by omega), if_pos (by omega), if_pos (by omega), if_pos (by omega)]
      rfl
theorem otrim_l (s : ByteArray) (hn : s.size ≤ 140737488351232) : ∀ d i : Nat, i + d = s.size → Ev (fun k => octet_Trim.l0 k s (i : Int) (s.size : Int)) (trL s d i)
  | 0, i, h => by
    refine Ev.step (f := fun k => octet_Trim.j1 k s (i : Int) (s.size : Int)) (fun k => ?_) (Ev.step (f := fun k => octet_Trim.l1 k s (i : Int) (s.size : Int)) (fun k => ?_) (otrim_r s hn i s.size (by omega) (Nat.le_refl _)))
    · show octet_Trim.l0 (k + 1) s (i : Int) (s.size : Int) = _
      simp only [octet_Trim.l0]
      rw [if_neg (by omega)]
    · show octet_Trim.j1 (k + 1) s (i : Int) (s.size : Int) = _
      rw [octet_Trim.j1]
  | d + 1, i, h => by
    have hlt : i < s.size := by omega
    unfold trL
    cases hb : blk (bt s (i : Int))
    · rw [if_neg (by decide)]
      refine Ev.step (f := fun k => octet_Trim.j1 k s (i : Int) (s.size : Int)) (fun k => ?_) (Ev.step (f := fun k => octet_Trim.l1 k s (i : Int) (s.size : Int)) (fun k => ?_) (otrim_r s hn i s.size (by omega) (Nat.le_refl _)))
      · show octet_Trim.l0 (k + 1) s (i : Int) (s.size : Int) = _
        simp only [octet_Trim.l0]
        rw [if_pos (by omega), if_pos (by omega), if_pos (by omega), blank_s, hb]
        rfl
      · show octet_Trim.j1 (k + 1) s (i : Int) (s.size : Int) = _
        rw [octet_Trim.j1]
    · rw [if_pos rfl]
      refine Ev.step (f := fun k => octet_Trim.l0 k s ((i + 1 : Nat) : Int) (s.size : Int)) (fun k => ?_) (otrim_l s hn d (i + 1) (by omega))
      show octet_Trim.l0 (k + 1) s (i : Int) (s.size : Int) = _
      simp only [octet_Trim.l0]
      rw [if_pos (by omega), if_pos (by omega), if_pos (by omega), blank_s, hb, wsucc hlt hn]
      rfl
theorem otrim_s (s : ByteArray) (hn : s.size ≤ 140737488351232) : Ev (fun k => octet_Trim.f k s) (trL s s.size 0) := otrim_l s hn s.size 0 (by omega)
/-- A text without the blanks at its ends. -/
def trimS (s : ByteArray) : ByteArray := trL s s.size 0
theorem Trim_calls (s : ByteArray) (hn : s.size ≤ 140737488351232) (w : World) : Calls Tryd.prog 57 #[.string s] w fun e w' => e = .returned (.string (trimS s)) ∧ Below w.heap.size w w' := by
  obtain ⟨k, hk⟩ := (otrim_s s hn).rounds
  refine (octet_Trim.calls k s _ w hk).mono ?_
  rintro e w' ⟨rfl, q, rfl⟩
  exact ⟨rfl, pw_below_drewN (Below.refl _ _) q⟩
end Go.Proofs.YtdbokcgjdkbknaaDoor.PTr
namespace Go.Proofs.YtdbokcgjdkbknaaDoor.Hand
open Go.RowKit Go.Shelf Go.Proofs.YtdbokcgjdkbknaaDoor.PTr Go.Proofs.YtdbokcgjdkbknaaDoorW.PrintWords Go.Proofs.YtdbokcgjdkbknaaDoorW.PrintLast Go.Proofs.YtdbokcgjdkbknaaDoorW.PrintMore
set_option linter.unusedVariables false
set_option linter.unusedSimpArgs false
attribute [local go_sem] Oper.semAt_some
theorem yield_any {P : Program} {m m' l l' : Nat} {args : Array Value} {W : World} {R : Ending → World → Prop} (h : YieldAt Fence.wide m P l args W R) : YieldAt (Fence.wide.inRound l') m' P l args W R := by
  obtain ⟨fn, tmps, assign, body, hy, hR⟩ := h
  exact ⟨fn, tmps, assign, body, hy, hR.1, fun c cs _ => hR.2 c cs (room_wide _)⟩
theorem Turn.then {S T : Nat → Prop} {A B C : World} (h : Turn S A B) (k : Turn T B C) (hs : ∀ i, i < A.heap.size → T i → S i) : Turn S A C :=
  ⟨k.os.trans h.os, k.tape.trans h.tape, k.output.trans h.output, Nat.le_trans h.size k.size, fun i hi hn => (k.block i (Nat.lt_of_lt_of_le hi h.size) (fun ht => hn (hs i hi ht))).trans (h.block i hi hn)⟩
/-- Marks of loops that are over; their blocks lie between B and L. -/
def Marks (B L : Nat) : List Deferred → World → Prop
  | [], _ => True
  | d :: ds, w => (∃ D, d = { target := .collected D, args := #[] } ∧ B ≤ D ∧ D < L ∧ w.heap[D]? = some (.deferred (some []))) ∧ (∀ d' ∈ ds, d' ≠ d) ∧ Marks B L ds w
theorem Marks.turn {B L : Nat} {S : Nat → Prop} {w w' : World} (ht : Turn S w w') (hS : ∀ k, B ≤ k → k < L → ¬ S k) : ∀ {ds : List Deferred}, Marks B L ds w → Marks B L ds w'
  | [], _ => trivial
  | d :: ds, ⟨⟨D, e, h1, h2, h3⟩, hd, h⟩ => ⟨⟨D, e, h1, h2, ht.at h3 (hS D h1 h2)⟩, hd, Marks.turn ht hS h⟩
theorem Marks.up {B L L' : Nat} (hl : L ≤ L') {w : World} : ∀ {ds : List Deferred}, Marks B L ds w → Marks B L' ds w
  | [], _ => trivial
  | d :: ds, ⟨⟨D, e, h1, h2, h3⟩, hd, h⟩ => ⟨⟨D, e, h1, Nat.lt_of_lt_of_le h2 hl, h3⟩, hd, Marks.up hl h⟩
theorem Marks.lt {B L : Nat} {w : World} : ∀ {ds : List Deferred}, Marks B L ds w → ∀ d ∈ ds, ∃ D, d = { target := .collected D, args := #[] } ∧ D < L
  | [], _, _, h => by cases h
  | d :: ds, ⟨⟨D, e, _, h2, _⟩, _, h⟩, d', hd => by
    rcases List.mem_cons.1 hd with rfl | hd
    · exact ⟨D, e, h2⟩
    · exact Marks.lt h d' hd
theorem Marks.shut {B L D : Nat} {w : World} : ∀ {ds : List Deferred}, (∀ d ∈ ds, d ≠ { target := .collected D, args := #[] }) → Marks B L ds w → Marks B L ds (w.putObj D (.deferred none))
  | [], _, _ => trivial
  | d :: ds, hn, ⟨⟨D', e, h1, h2, h3⟩, hd, h⟩ => by
    have hne : D' ≠ D := fun e' => hn d (by simp) (by rw [e, e'])
    exact ⟨⟨D', e, h1, h2, (World.putObj_heap_other hne).trans h3⟩, hd, Marks.shut (fun x hx => hn x (by simp [hx])) h⟩
theorem Marks.leave {F : Fence} {n : Nat} {P : Program} {fn : Func} {tmps : Array Value} {R : Ending → World → Prop} {B L : Nat} (G : World → Prop) (hG : ∀ w D, B ≤ D → G w → G (w.putObj D (.deferred none)))
    (hR : ∀ w, G w → LeavesInM F n P fn tmps R [] .returning w) : ∀ (ds : List Deferred) (w : World), Marks B L ds w → G w → LeavesInM F n P fn tmps R ds .returning w
  | [], w, _, hg => hR w hg
  | d :: ds, w, ⟨⟨D, e, h1, h2, h3⟩, hd, h⟩, hg => by
    refine ⟨by simp, .inl ⟨D, _, by rw [e], run_takeDeferred h3, ?_⟩⟩
    exact Marks.leave G hG hR ds _ (Marks.shut (fun x hx => by rw [← e]; exact hd x hx) h) (hG _ _ h1 hg)
theorem strs_at {w : World} {A : Option Addr} {xs : List ByteArray} (h : Kd.C Kd.string w A xs.length xs) (k : Nat) (hk : k < xs.length) :
    ∃ ad, A = some ad ∧ w.cell? (ad.add k) = some (.string (xs[k]'hk)) := by
  obtain ⟨ad, c, e, hc, hK, hc0⟩ := Kd.C_get h (⟨#[]⟩ : ByteArray) (k : Int) (by omega) (by omega)
  refine ⟨ad, e, ?_⟩
  have hK' : c = [.string (xs.getD (k : Int).toNat ⟨#[]⟩)] := by first | exact hK | exact hK.1
  subst hK'
  have := hc0 0 _ rfl
  have h2 : w.cell? (ad.add k) = some (.string (xs.getD k ⟨#[]⟩)) := by simpa [Kd.string, Kd.scalar] using this
  rw [h2]
  simp [List.getD_eq_getElem?_getD, hk]
/-- What stands between the commas of some texts, without blanks. -/
def partsS (vs : List ByteArray) : List ByteArray := vs.flatMap fun v => (commaS v).map trimS
theorem SplitSeq_calls (s : ByteArray) (w : World) :
    Calls Tryd.prog 56 #[.string s, .string ⟨#[44]⟩] w fun e w' =>
      e = .returned (.func (.func 94) #[] #[.pointer (some ⟨w.heap.size + 1, 0, none⟩), .pointer (some ⟨w.heap.size, 0, none⟩), .pointer (some ⟨w.heap.size + 2, 0, none⟩)]) ∧
        w' = ((w.alloc (.cells #[.string s] 9)).alloc (.cells #[.string ⟨#[44]⟩] 9)).alloc (.cells #[.int .i64 0] 3) := by
  have c1 : Calls Tryd.prog 76 #[.string s, .string ⟨#[44]⟩, .int .i64 0] w fun e w' =>
      e = .returned (.func (.func 94) #[] #[.pointer (some ⟨w.heap.size + 1, 0, none⟩), .pointer (some ⟨w.heap.size, 0, none⟩), .pointer (some ⟨w.heap.size + 2, 0, none⟩)]) ∧
        w' = ((w.alloc (.cells #[.string s] 9)).alloc (.cells #[.string ⟨#[44]⟩] 9)).alloc (.cells #[.int .i64 0] 3) := by
    go_enter Tryd.func76, Tryd.ntmps76
    go_wp2
    go_ret
    exact ⟨by simp, rfl⟩
  go_enter Tryd.func56, Tryd.ntmps56
  go_wp2_with (go_at_call 76; refine c1.mono ?_; rintro e w' ⟨rfl, hw⟩; subst hw)
  go_ret
  exact ⟨rfl, rfl⟩
end Go.Proofs.YtdbokcgjdkbknaaDoor.Hand
namespace Go.Proofs.YtdbokcgjdkbknaaDoor.Hand
open Go.RowKit Go.Shelf Go.Proofs.YtdbokcgjdkbknaaDoor.PTr Go.Proofs.YtdbokcgjdkbknaaDoorW.PrintWords Go.Proofs.YtdbokcgjdkbknaaDoorW.PrintLast Go.Proofs.YtdbokcgjdkbknaaDoorW.PrintMore
set_option linter.unusedVariables false
set_option linter.unusedSimpArgs false
attribute [local go_sem] Oper.semAt_some
theorem rin_any {P : Program} {m m' l l' : Nat} {f : FuncId} {tmps : Array Value} {assign body : Code} {w : World} {R : Ending → World → Prop} (h : RoundIn Fence.wide m P l f tmps assign body w R) : RoundIn (Fence.wide.inRound l') m' P l f tmps assign body w R :=
  ⟨h.1, fun c cs _ => h.2 c cs (room_wide _)⟩
theorem yb {e : Ending} {A B : Prop} (h : (e = .returned (.bool true) ∧ A) ∨ (e = .returned (.bool false) ∧ B)) : ∃ b, e = .returned (.bool b) ∧ ((b = true ∧ A) ∨ (b = false ∧ B)) := by
  rcases h with ⟨h, a⟩ | ⟨h, a⟩
  · exact ⟨true, h, .inl ⟨rfl, a⟩⟩
  · exact ⟨false, h, .inr ⟨rfl, a⟩⟩
theorem comma_le (s : ByteArray) : ∀ x ∈ commaS s, x.size ≤ s.size := by
  obtain ⟨m, hm⟩ : ∃ m, s.size = m := ⟨_, rfl⟩
  induction m using Nat.strongRecOn generalizing s with
  | _ m ih =>
    intro x hx
    rcases Lib.indexB_cases s ⟨#[44]⟩ with h | ⟨i, h, hi⟩
    · rw [comma_none h] at hx
      rw [List.mem_singleton.1 hx]
      exact Nat.le_refl _
    · have e1 : (⟨#[44]⟩ : ByteArray).size = 1 := rfl
      rw [e1] at hi
      rw [comma_some h] at hx
      rcases List.mem_cons.1 hx with rfl | hx
      · rw [ByteArray.size_extract]; omega
      · have hz : (s.extract (i + 1) s.size).size = s.size - (i + 1) := by rw [ByteArray.size_extract]; omega
        have := ih _ (by omega) (s.extract (i + 1) s.size) rfl x hx
        omega
theorem parts_take (vs : List ByteArray) (k : Nat) (h : k < vs.length) : partsS (vs.take (k + 1)) = partsS (vs.take k) ++ (commaS (vs[k]'h)).map trimS := by
  unfold partsS
  rw [List.take_add_one, List.flatMap_append, List.getElem?_eq_getElem h]
  simp
theorem parts_prefix (vs : List ByteArray) (k : Nat) (h : k < vs.length) {p : List ByteArray} (hp : p <+: commaS (vs[k]'h)) : partsS (vs.take k) ++ p.map trimS <+: partsS vs := by
  obtain ⟨q, hq⟩ := hp
  refine ⟨q.map trimS ++ partsS (vs.drop (k + 1)), ?_⟩
  have e : partsS vs = partsS (vs.take (k + 1)) ++ partsS (vs.drop (k + 1)) := by
    unfold partsS
    rw [← List.flatMap_append, List.take_append_drop]
  rw [e, parts_take vs k h, ← hq]
  simp
set_option maxRecDepth 100000 in
set_option maxHeartbeats 4000000 in
theorem parts1_iter (n : Nat) (hn : 6 ≤ n) (bv : Nat) (A : Option Addr) (c : Nat) (vs : List ByteArray) (hvl : vs.length ≤ 100000) (hvs : ∀ v ∈ vs, v.size ≤ 1000000) (hc : vs.length ≤ c) (w₀ : World) (C : Nat → Prop) (hCv : ¬ C bv) (hCA : ∀ ad, A = some ad → ¬ C ad.block) (hvr : Kd.C Kd.string w₀ A vs.length vs) :
    Iter Fence.wide n Tryd.prog 55 #[.pointer (some ⟨bv, 0, none⟩)] (partsS vs) (fun _ => False) C
      (fun W => Boxed W bv 49 (.slice A vs.length c) ∧ Below w₀.heap.size w₀ W) := by
  intro l J Jx W0 ⟨kb, hb0⟩ hCn hJ hJx hY h0
  have hbv : bv < W0.heap.size := kb.lt
  have cT := fun (s : ByteArray) (hs : s.size ≤ 1000000) (W : World) => Trim_calls s (by omega) W
  have cS := SplitSeq_calls
  have n1 : 1 ≤ n := by omega
  have n2 : 1 ≤ n - 1 := by omega
  have n3 : 1 ≤ n - 1 - 1 := by omega
  have n4 : 1 ≤ n - 1 - 1 - 1 := by omega
  have hvr' := Lib.hid hvr
  have hvsH := Lib.hid hvs
  have hYH := Lib.hid hY
  have hJH := Lib.hid hJ
  have hJxH := Lib.hid hJx
  clear hvr hvs hY hJ hJx
  refine callsIn_of_wp_marks Tryd.func55 rfl trivial ?_ rfl
  simp only [Tryd.ntmps55, List.size_toArray, List.length_cons, List.length_nil, Nat.reduceAdd, Nat.reduceSub, Array.replicate_succ, Array.replicate_zero, List.push_toArray, List.append_toArray, List.nil_append, List.cons_append]
  have hT1 : ∀ o, Turn C W0 (W0.alloc o) := fun o => Turn.new ((Below.refl _ _).alloc (Nat.le_refl _) _)
  have q1 := kb.alloc (.cells #[.func (.yield l) #[] #[]] 39)
  have q2 := q1.cell
  gi_wp2
  have hb1 := Boxed.new W0 39 (.func (.yield l) #[] #[])
  refine wpIn_loop (fun a wr => ∃ (k : Nat) (ds : List Deferred) (u4 u9 u10 u11 u12 u13 u20 : Value), k ≤ vs.length ∧ J (partsS (vs.take k)) wr ∧ W0.heap.size + 1 ≤ wr.heap.size ∧ Turn C W0 wr ∧ Boxed wr W0.heap.size 39 (.func (.yield l) #[] #[]) ∧ Marks (W0.heap.size + 1) wr.heap.size ds wr ∧
      a = { tmps := #[.func (.yield l) #[] #[], .pointer (some ⟨bv, 0, none⟩), .pointer (some ⟨W0.heap.size, 0, none⟩), undef, u4, undef, .slice A vs.length c, .int .i64 vs.length, .int .i64 k, u9, u10, u11, u12, u13, undef, undef, undef, undef, undef, undef, u20], defers := ds })
    (fun a _ => vs.length - (intOf (a.tmps.getD 8 undef)).toNat) ?_ ?_
  · exact ⟨0, [], _, _, _, _, _, _, _, Nat.zero_le _, hJH.out _ _ _ h0 (Nat.le_refl _) (Turn.new ((Below.refl _ _).alloc (Nat.le_refl _) _)), by simp, hT1 _, hb1, trivial, rfl⟩
  · rintro a wr ⟨k, ds, u4, u9, u10, u11, u12, u13, u20, hk, hJw, hsz, hTw, hbw, hMw, rfl⟩
    clear hT1 q1 q2 hb1 h0
    by_cases hlt : k < vs.length
    · obtain ⟨ad, rfl, hcell⟩ := strs_at hvr'.out k hlt
      have hca : (ad.add k).block = ad.block := by unfold Addr.add; split <;> rfl
      have hcell1 := hTw.cell (pw_cell_below hb0 hcell) (by rw [hca]; exact hCA ad rfl)
      have hv := hvsH.out (vs[k]'hlt) (List.getElem_mem hlt)
      have htk := parts_take vs k hlt
      have hpx : ∀ p : List ByteArray, p <+: commaS (vs[k]'hlt) → partsS (vs.take k) ++ p.map trimS <+: partsS vs := fun p hp => parts_prefix vs k hlt hp
      generalize vs[k]'hlt = v at *
      generalize hdone : partsS (vs.take k) = dn at *
      have htkH := Lib.hid htk
      have hpxH := Lib.hid hpx
      clear htk hpx hcell hdone hca
      try dsimp only
      gi_wp2_with (refine ⟨trivial, ?_⟩; gi_at_call 56; refine (callsIn_wide.2 (cS v _)).mono ?_; rintro e w' ⟨rfl, hw⟩)
      rw [← hw]
      have hzw : w'.heap.size = wr.heap.size + 3 := by rw [hw]; simp
      have hBw : Below wr.heap.size wr w' := by rw [hw]; exact (((Below.refl _ _).alloc (Nat.le_refl _) _).alloc (by simp) _).alloc (by simp; omega) _
      have e0 : Boxed w' wr.heap.size 9 (.string v) := by rw [hw]; exact ((Boxed.new wr _ _).alloc _).alloc _
      have e1 : Boxed w' (wr.heap.size + 1) 9 (.string ⟨#[44]⟩) := by
        rw [hw]
        have := (Boxed.new (wr.alloc (.cells #[.string v] 9)) 9 (.string ⟨#[44]⟩)).alloc (.cells #[.int .i64 0] 3)
        rwa [World.size_alloc] at this
      have e2 : Boxed w' (wr.heap.size + 2) 3 (.int .i64 0) := by
        rw [hw]
        have := Boxed.new ((wr.alloc (.cells #[.string v] 9)).alloc (.cells #[.string ⟨#[44]⟩] 9)) 3 (.int .i64 0)
        rwa [World.size_alloc, World.size_alloc] at this
      have hTw' : Turn C W0 w' := hTw.trans (Turn.new hBw)
      have hJw' : J dn w' := hJH.out _ _ _ hJw (by omega) (Turn.new hBw)
      have hbw' : Boxed w' W0.heap.size 39 (.func (.yield l) #[] #[]) := (Turn.new (S := fun _ => False) hBw).at hbw (fun h => h)
      have hMw' : Marks (W0.heap.size + 1) wr.heap.size ds w' := Marks.turn (Turn.new (S := fun _ => False) hBw) (fun _ _ _ h => h) hMw
      have hCl : ∀ i, C i → i < W0.heap.size := fun i hi => Nat.lt_of_not_le fun h => hCn i h hi
      clear hw hTw hJw hbw hMw cS hcell1
      refine wpIn_range_iter (F := Fence.wide) rfl n1 (gf := 94) (lb := #[.pointer (some ⟨wr.heap.size + 1, 0, none⟩), .pointer (some ⟨wr.heap.size, 0, none⟩), .pointer (some ⟨wr.heap.size + 2, 0, none⟩)]) rfl trivial (enters_of Tryd.func94 (by kernel_rfl) rfl) C
        (splitSeq1_iter (n - 1) n2 (wr.heap.size + 1) wr.heap.size (wr.heap.size + 2) (by omega) (by omega) v hv (fun i => C i ∨ i = w'.heap.size + 1) ?c1 ?c2 ?c3) rfl (fun i hi => by have := hCl i hi; omega) (fun i hi => by omega)
        (fun W hb => ⟨(Turn.new (S := fun _ => False) hb).at e1 (fun h => h), (Turn.new (S := fun _ => False) hb).at e0 (fun h => h), (Turn.new (S := fun _ => False) hb).at e2 (fun h => h)⟩)
        (fun p W => J (dn ++ p.map trimS) W ∧ Turn C W0 W ∧ Boxed W W0.heap.size 39 (.func (.yield l) #[] #[]) ∧ Marks (W0.heap.size + 1) wr.heap.size ds W)
        (fun c p W => c = .ret ∧ Jx (dn ++ p.map trimS) W ∧ Marks (W0.heap.size + 1) wr.heap.size ds W)
        ?hI ?hIx ⟨by simpa using hJw', hTw', hbw', hMw'⟩
        (fun x => { tmps := #[.func (.yield l) #[] #[], .pointer (some ⟨bv, 0, none⟩), .pointer (some ⟨W0.heap.size, 0, none⟩), undef, .string v, .string x, .slice (some ad) vs.length c, .int .i64 vs.length, .int .i64 k, .bool true, .pointer (some (ad.add k)), .string v, .string v, .func (.func 94) #[] #[.pointer (some ⟨wr.heap.size + 1, 0, none⟩), .pointer (some ⟨wr.heap.size, 0, none⟩), .pointer (some ⟨wr.heap.size + 2, 0, none⟩)], .string x, undef, undef, undef, undef, undef, u20], defers := [] })
        ?assign ?body ?done ?stop
      case c1 => exact fun h => by rcases h with h | h; have := hCl _ h; omega; omega
      case c2 => exact fun h => by rcases h with h | h; have := hCl _ h; omega; omega
      case c3 => exact fun h => by rcases h with h | h; have := hCl _ h; omega; omega
      case hI =>
        rintro p X Y ⟨i1, i2, i3, i4⟩ hX ht
        refine ⟨hJH.out _ _ _ i1 (by omega) (ht.mono fun i _ h => .inr (by omega)), i2.then ht (fun i hi h => by omega), ht.at i3 (by omega), Marks.turn ht (fun i _ _ => by omega) i4⟩
      case hIx =>
        rintro cd p X Y ⟨i0, i1, i4⟩ hX ht
        exact ⟨i0, hJxH.out _ _ _ i1 (by omega) (ht.mono fun i _ h => .inr (by omega)), Marks.turn ht (fun i _ _ => by omega) i4⟩
      case assign =>
        intro l' x W K hK
        gi_wp2
        exact hK
      case body =>
        rintro l' p x W hW ⟨i1, i2, i3, i4⟩ hp
        have hx : x.size ≤ 1000000 := by
          obtain ⟨q, hq⟩ := hp
          have := comma_le v x (by rw [← hq]; simp)
          omega
        have hq := hpxH.out (p ++ [x]) hp
        rw [List.map_append, ← List.append_assoc] at hq
        have b3 := i3.cell
        have hqH := Lib.hid hq
        have hW1 : W0.heap.size + 1 ≤ W.heap.size := by omega
        clear hq hp
        try dsimp only
        have hmx : Tryd.prog.follows .mixedOrders = true := by kernel_rfl
        have hBd : Below W.heap.size W W.drew := by first | exact (Below.refl _ _).drew | exact pw_below_drewN (Below.refl _ _) 1
        have b3d := pw_cell_below hBd b3
        have jd := hJH.out _ _ _ i1 (by omega) (Turn.new hBd)
        have hsd := hBd.size
        gi_wp2
        gi_region_with_o (first | (refine ⟨trivial, ?_⟩; gi_at_call 57; refine (CallsIn.inRound l' (callsIn_wide.2 (cT x hx _))).mono ?_; rintro e W1 ⟨rfl, hb1⟩; have j1 := hJH.out _ _ _ jd (by omega) (Turn.new hb1); have hs1 := hb1.size; have b4 := pw_cell_below hb1 b3d; obtain ⟨fn, tmps, assign, body, hy, hR⟩ := hYH.out _ (trimS x) W1 j1 (by omega) hqH.out) | (refine (rin_any (hR.mono (fun e w h => yb h))).mono ?_; rintro e W3 ⟨b, rfl, hbb⟩))
        all_goals rcases hbb with ⟨rfl, j3, h3⟩ | ⟨rfl, j3, h3⟩
        all_goals gi_wp2
        all_goals (try go_bits)
        all_goals have hT3 : Turn C W W3 := ((Turn.new hBd).trans (Turn.new hb1)).trans h3
        all_goals first
          | exact ⟨hT3, by rw [List.map_append, ← List.append_assoc]; exact j3, i2.trans hT3, hT3.at i3 (hCn _ (Nat.le_refl _)), Marks.turn hT3 (fun i _ _ => hCn i (by omega)) i4⟩
          | exact ⟨hT3, rfl, by rw [List.map_append, ← List.append_assoc]; exact j3, Marks.turn hT3 (fun i _ _ => hCn i (by omega)) i4⟩
      case done =>
        rintro W hW ⟨i1, i2, i3, i4⟩ hD
        try dsimp only
        gi_wp2
        focus
          have hWD : w'.heap.size < W.heap.size := (Array.getElem?_eq_some_iff.1 hD).1
          refine ⟨⟨k + 1, { target := .collected w'.heap.size, args := #[] } :: ds, _, _, _, _, _, _, _, by omega, by rw [htkH.out]; exact i1, by omega, i2, i3, ⟨⟨w'.heap.size, rfl, by omega, hWD, hD⟩, ?_, Marks.up (by omega) i4⟩, rfl⟩, ?_⟩
          · intro d hd e
            obtain ⟨D, e2, hD2⟩ := i4.lt d hd
            rw [e] at e2
            injection e2 with e3
            injection e3 with e4
            omega
          · simp [intOf]; omega
      case stop =>
        rintro _ p W hW ⟨rfl, i1, i4⟩ hD
        try dsimp only
        gi_wp2
        focus
          have hWD : w'.heap.size < W.heap.size := (Array.getElem?_eq_some_iff.1 hD).1
          refine Marks.leave (B := W0.heap.size + 1) (L := W.heap.size) (fun X => Jx (dn ++ p.map trimS) X ∧ W0.heap.size ≤ X.heap.size) ?_ ?_ ({ target := .collected w'.heap.size, args := #[] } :: ds) W ⟨⟨w'.heap.size, rfl, by omega, hWD, hD⟩, ?_, Marks.up (by omega) i4⟩ ⟨i1, by omega⟩
          · rintro X D hB ⟨g1, g2⟩
            exact ⟨hJxH.out _ _ _ g1 g2 (Turn.putObj _ _ _ (.inr (by omega))), by simpa using g2⟩
          · rintro X ⟨g1, g2⟩
            exact ⟨_, results_none rfl _ _ _, ⟨_, rfl⟩, .inr ⟨_, g1⟩⟩
          · intro d hd e
            obtain ⟨D, e2, hD2⟩ := i4.lt d hd
            rw [e] at e2
            injection e2 with e3
            injection e3 with e4
            omega
    · have hkl : k = vs.length := by omega
      subst hkl
      rw [List.take_of_length_le (Nat.le_refl _)] at hJw
      try dsimp only
      gi_wp2
      focus
        refine Marks.leave (B := W0.heap.size + 1) (L := wr.heap.size) (fun X => J (partsS vs) X ∧ W0.heap.size ≤ X.heap.size) ?_ ?_ ds wr hMw ⟨hJw, by omega⟩
        · rintro X D hB ⟨g1, g2⟩
          exact ⟨hJH.out _ _ _ g1 g2 (Turn.putObj _ _ _ (.inr (by omega))), by simpa using g2⟩
        · rintro X ⟨g1, g2⟩
          exact ⟨_, results_none rfl _ _ _, ⟨_, rfl⟩, .inl g1⟩
end Go.Proofs.YtdbokcgjdkbknaaDoor.Hand
