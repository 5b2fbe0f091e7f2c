/- Hand walk: start.Request. -/
import Derived.Test.YtdbokcgjdkbknaaDoorSplit
import Derived.Test.YtdbokcgjdkbknaaDoorMinor
import Derived.Test.YtdbokcgjdkbknaaDoorOctetV
import Derived.Test.YtdbokcgjdkbknaaDoorKinds
import Derived.StillTailTactics
import Derived.Deep.RegionHeld3
namespace Go.Proofs.YtdbokcgjdkbknaaDoor.Hand
open Go.RowKit Go.Proofs.YtdbokcgjdkbknaaDoorW.PrintWords Go.Proofs.YtdbokcgjdkbknaaDoorW.PrintLast Go.Proofs.YtdbokcgjdkbknaaDoorW.PrintMore
set_option linter.unusedVariables false
set_option linter.unusedSimpArgs false
/-- ask: the error of the first test that fails. -/
theorem ask_calls (g : Nat) (ok : Bool) (wrong e0 : Int) (w : World) (o : TypeId) (hblk : w.heap[g]? = some (.cells #[.int .i64 e0] o (0, 0))) :
    Calls Tryd.prog 43 #[.bool ok, .int .i64 wrong, .pointer (some ⟨g, 0, none⟩)] w fun e w' => e = .returned (.tuple #[]) ∧ w' = (if e0 = 0 ∧ ok = false then w.setCell ⟨g, 0, none⟩ (.int .i64 wrong) else w) := by
  have hc : w.cell? ⟨g, 0, none⟩ = some (.int .i64 e0) := by simp [World.cell?, hblk]
  have hf : w.frozen? ⟨g, 0, none⟩ = false := blk_frozen hblk _
  by_cases h : e0 = 0
  · subst h
    cases ok
    · rw [if_pos ⟨rfl, rfl⟩]
      go_enter Tryd.func43, Tryd.ntmps43
      go_wp2
      go_end0
      exact ⟨rfl, rfl⟩
    · rw [if_neg (by simp)]
      go_enter Tryd.func43, Tryd.ntmps43
      go_wp2
      go_end0
      exact ⟨rfl, rfl⟩
  · have h2 : (e0 == 0) = false := by rw [beq_eq_false_iff_ne]; exact h
    rw [if_neg (fun h3 => h h3.1)]
    go_enter Tryd.func43, Tryd.ntmps43
    go_wp2
    go_end0
    exact ⟨rfl, rfl⟩
def wordsS (s : ByteArray) : List ByteArray := Lib.splitB ⟨#[32]⟩ 0 (Lib.countB s ⟨#[32]⟩) s
theorem words_len (s : ByteArray) : (wordsS s).length = Lib.countB s ⟨#[32]⟩ + 1 := Lib.splitB_all ⟨#[32]⟩ (Nat.le_refl 1) 0 _ s rfl
theorem words_calls (s : ByteArray) (w : World) (hs : s.size < 4294967281) : Calls Tryd.prog 42 #[.string s, .string ⟨#[32]⟩] w fun e w' => e = .returned (.slice (some ⟨w.heap.size, 0, none⟩) (wordsS s).length (wordsS s).length) ∧ w' = w.alloc (.cells ((wordsS s).map Value.string).toArray 9) := by
  rw [words_len]
  exact split1_calls s 32 w hs
def errS (a b : ByteArray) (f : Int) : Int := if Oct.tokenS a = false then 6 else if Oct.visibleS b = false then 11 else f
def headC (a b : ByteArray) (n : Int) : Array Value := #[.string a, .string b, .int .i64 n, .int .i64 0, .string ⟨#[]⟩, .slice none 0 0]
def headV (a b : ByteArray) (n : Int) : Value := .agg (headC a b n)
def retR (s a b : ByteArray) (n f : Int) : Ending := .returned (.tuple #[if errS a b f = 0 then headV a b n else headV ⟨#[]⟩ ⟨#[]⟩ 0, .int .i64 (errS a b f)])
theorem words3_calls (s a b c : ByteArray) (w : World) (hs : s.size < 4294967281) (hw : wordsS s = [a, b, c]) : Calls Tryd.prog 42 #[.string s, .string ⟨#[32]⟩] w fun e w' => e = .returned (.slice (some ⟨w.heap.size, 0, none⟩) 3 3) ∧ w'.heap[w.heap.size]? = some (.cells #[.string a, .string b, .string c] 9 (0, 0)) ∧ Below w.heap.size w w' ∧ w'.heap.size = w.heap.size + 1 := by
  have h := words_calls s w hs
  rw [hw] at h
  refine h.mono ?_
  rintro e w' ⟨rfl, rfl⟩
  exact ⟨rfl, blk_new _ _, (Below.refl _ _).alloc (Nat.le_refl _) _, by simp⟩
def askE (e : Int) (ok : Bool) (wrong : Int) : Int := if e = 0 ∧ ok = false then wrong else e
theorem errS_ask (a b : ByteArray) (f : Int) : askE (askE (askE 0 (Oct.tokenS a) 6) (Oct.visibleS b) 11) (f == 0) f = errS a b f := by
  unfold errS askE
  cases Oct.tokenS a <;> cases Oct.visibleS b <;> simp
  exact fun h => h.symm
/-- What lies in memory while Request runs: its result, the words, the head, the error. -/
structure RQ (w W : World) (gh ge : Nat) (a b c : ByteArray) (n e : Int) : Prop where
  r : W.heap[w.heap.size]? = some (.cells (headC ⟨#[]⟩ ⟨#[]⟩ 0) 33 (0, 0))
  s : W.heap[w.heap.size + 1]? = some (.cells #[.string a, .string b, .string c] 9 (0, 0))
  h : W.heap[gh]? = some (.cells (headC a b n) 33 (0, 0))
  e : W.heap[ge]? = some (.cells #[.int .i64 e] 25 (0, 0))
  b : Below w.heap.size w W
  lh : w.heap.size < gh
  le : w.heap.size < ge
theorem RQ.below {w W W' : World} {gh ge : Nat} {a b c : ByteArray} {n e : Int} (h : RQ w W gh ge a b c n e) (hb : Below W.heap.size W W') : RQ w W' gh ge a b c n e :=
  ⟨blk_below h.r hb, blk_below h.s hb, blk_below h.h hb, blk_below h.e hb, h.b.trans (hb.mono h.b.size), h.lh, h.le⟩
theorem RQ.drawn {w W W' : World} {gh ge : Nat} {a b c : ByteArray} {n e : Int} (h : RQ w W gh ge a b c n e) (hb : Drawn0 W W') : RQ w W' gh ge a b c n e := by
  obtain ⟨m, rfl⟩ := hb
  exact ⟨h.r, h.s, h.h, h.e, pw_below_drewN h.b m, h.lh, h.le⟩
theorem RQ.setE {w W : World} {gh ge : Nat} {a b c : ByteArray} {n e : Int} (h : RQ w W gh ge a b c n e) (e' : Int) : RQ w (W.setCell ⟨ge, 0, none⟩ (.int .i64 e')) gh ge a b c n e' :=
  ⟨blk_far h.r (blk_ne h.r h.e (by decide)) _, blk_far h.s (blk_ne h.s h.e (by decide)) _, blk_far h.h (blk_ne h.h h.e (by decide)) _, blk_put h.e 0 _ rfl, h.b.setCell (Nat.le_of_lt h.le) _, h.lh, h.le⟩
theorem RQ.setN {w W : World} {gh ge : Nat} {a b c : ByteArray} {n e : Int} (h : RQ w W gh ge a b c n e) (n' : Int) : RQ w (W.setCell ⟨gh, 2, none⟩ (.int .i64 n')) gh ge a b c n' e :=
  ⟨blk_far h.r (Nat.ne_of_lt h.lh) _, blk_far h.s (blk_ne h.s h.h (by decide)) _, blk_put h.h 2 _ rfl, blk_far h.e (blk_ne h.e h.h (by decide)) _, h.b.setCell (Nat.le_of_lt h.lh) _, h.lh, h.le⟩
theorem RQ.ask {w W : World} {gh ge : Nat} {a b c : ByteArray} {n e : Int} (h : RQ w W gh ge a b c n e) (ok : Bool) (wrong : Int) :
    Calls Tryd.prog 43 #[.bool ok, .int .i64 wrong, .pointer (some ⟨ge, 0, none⟩)] W fun x W' => x = .returned (.tuple #[]) ∧ RQ w W' gh ge a b c n (askE e ok wrong) := by
  refine (ask_calls ge ok wrong e W _ h.e).mono ?_
  rintro x W' ⟨rfl, rfl⟩
  refine ⟨rfl, ?_⟩
  unfold askE
  by_cases k : e = 0 ∧ ok = false
  · rw [if_pos k, if_pos k]; exact h.setE wrong
  · rw [if_neg k, if_neg k]; exact h
theorem RQ.cells {w W : World} {gh ge : Nat} {a b c : ByteArray} {n e : Int} (h : RQ w W gh ge a b c n e) : W.cell? ⟨gh, 0, none⟩ = some (.string a) ∧ W.cell? ⟨gh, 1, none⟩ = some (.string b) ∧ W.cell? ⟨gh, 2, none⟩ = some (.int .i64 n) ∧ W.frozen? ⟨gh, 2, none⟩ = false ∧ W.cell? ⟨w.heap.size + 1, 2, none⟩ = some (.string c) ∧ W.cell? ⟨ge, 0, none⟩ = some (.int .i64 e) :=
  ⟨blk_cell h.h 0, blk_cell h.h 1, blk_cell h.h 2, blk_frozen h.h 2, blk_cell h.s 2, blk_cell h.e 0⟩
set_option maxHeartbeats 1000000 in
set_option maxRecDepth 100000 in
theorem Request_three (s : ByteArray) (a b c : ByteArray) (n f : Int) (w : World) (hs : s.size < 4294967281) (hw : wordsS s = [a, b, c]) (hm : start_Minor.f c = some (n, f)) :
    Calls Tryd.prog 16 #[.string s] w fun e w' => e = retR s a b n f ∧ Below w.heap.size w w' := by
  have cS := fun W => words3_calls s a b c W hs hw
  have cM := fun W => start_Minor.calls c n f W hm
  clear hw hm
  go_enter Tryd.func16, Tryd.ntmps16
  go_wp2_with (first | (go_at_call 42; refine (cS _).mono ?_; rintro e w1 ⟨rfl, hb1, hB1, hz1⟩))
  have hb0 := blk_below (blk_new w _) hB1
  have hB := ((Below.refl w.heap.size w).alloc (Nat.le_refl _) _).trans (hB1.mono (by simp))
  rw [World.size_alloc] at hb1 hz1
  clear hB1 cS
  have hx0 : w1.cell? ⟨w.heap.size + 1, 0, none⟩ = some (.string a) := blk_cell hb1 0
  have hx1 : w1.cell? ⟨w.heap.size + 1, 1, none⟩ = some (.string b) := blk_cell hb1 1
  have hy0 : ∀ o, (w1.alloc o).cell? ⟨w.heap.size + 1, 0, none⟩ = some (.string a) := fun o => blk_cell (blk_alloc hb1 o) 0
  have hy1 : ∀ o, (w1.alloc o).cell? ⟨w.heap.size + 1, 1, none⟩ = some (.string b) := fun o => blk_cell (blk_alloc hb1 o) 1
  have hzH := Lib.hid hz1
  clear hz1
  go_wp2_with fail
  go_region
  have hQ0 : ∀ W, W = ((w1.alloc (.cells #[.string a, .string b, .int .i64 0, .int .i64 0, .string ⟨#[]⟩, .slice none 0 0] 33)).alloc (.cells #[.int .i64 0] 25)).drew → RQ w W w1.heap.size (w1.heap.size + 1) a b c 0 0 := fun W hW => by
    have h1 := hzH.out
    subst hW
    refine ⟨blk_drew (blk_alloc (blk_alloc hb0 _) _), blk_drew (blk_alloc (blk_alloc hb1 _) _), blk_drew (blk_alloc (blk_new w1 _) _), ?_, ((hB.alloc hB.size _).alloc ?_ _).drew, by omega, by omega⟩
    · have := blk_new (w1.alloc (.cells #[.string a, .string b, .int .i64 0, .int .i64 0, .string ⟨#[]⟩, .slice none 0 0] 33)) (.cells #[.int .i64 0] 25)
      rw [World.size_alloc] at this
      exact blk_drew this
    · have := hB.size; simp; omega
  have eg := enters_of Tryd.func43 (by kernel_rfl) rfl
  clear hb1 hb0 hB hx0 hx1 hy0 hy1
  go_wp2_with (go_at_call 44; have hQ1 := hQ0 _ rfl; refine (Oct.Token_calls a _).mono ?_; rintro e w2 ⟨rfl, hb⟩; have hQ2 := hQ1.below hb; clear hb hQ1 hQ0; obtain ⟨c0, c1, c2, f2, c3, c4⟩ := hQ2.cells)
  go_wp2_with (go_at_call 43; refine (hQ2.ask _ _).mono ?_; clear c0 c1 c2 f2 c3 c4 hQ2; rintro e w3 ⟨rfl, hQ3⟩; obtain ⟨c0, c1, c2, f2, c3, c4⟩ := hQ3.cells)
  go_wp2_with (go_at_call 45; refine (Oct.Visible_calls b _).mono ?_; rintro e w4 ⟨rfl, hb⟩; have hQ4 := hQ3.below hb; clear c0 c1 c2 f2 c3 c4 hb hQ3; obtain ⟨c0, c1, c2, f2, c3, c4⟩ := hQ4.cells)
  go_wp2_with (go_at_call 43; refine (hQ4.ask _ _).mono ?_; clear c0 c1 c2 f2 c3 c4 hQ4; rintro e w5 ⟨rfl, hQ5⟩; obtain ⟨c0, c1, c2, f2, c3, c4⟩ := hQ5.cells)
  go_wp2_with (go_at_call 18; refine (cM _).mono ?_; rintro e w6 ⟨rfl, hb⟩; have hQ6 := hQ5.drawn hb; clear c0 c1 c2 f2 c3 c4 hb hQ5; obtain ⟨c0, c1, c2, f2, c3, c4⟩ := hQ6.cells)
  go_wp2_with (go_at_call 43; refine (hQ6.ask _ _).mono ?_; clear c0 c1 c2 f2 c3 c4 hQ6; rintro e w7 ⟨rfl, hQ7⟩; rw [errS_ask] at hQ7; obtain ⟨c0, c1, c2, f2, c3, c4⟩ := hQ7.cells)
  go_wp2_with fail
  all_goals
    have hQ8 := hQ7.setN n
    obtain ⟨w8, hw8⟩ : ∃ W, w7.setCell ⟨w1.heap.size, 2, none⟩ (.int .i64 n) = W := ⟨_, rfl⟩
    rw [hw8] at hQ8 ⊢
    clear hw8 c0 c1 c2 f2 c3 c4 hQ7
    have cE : w8.cell? ⟨w1.heap.size + 1, 0, none⟩ = some (.int .i64 (errS a b f)) := blk_cell hQ8.e 0
    have cH : ∀ i, w8.cell? ⟨w1.heap.size, i, none⟩ = (headC a b n)[i]? := fun i => blk_cell hQ8.h i
    have cR : ∀ i, w8.cell? ⟨w.heap.size, i, none⟩ = (headC ⟨#[]⟩ ⟨#[]⟩ 0)[i]? := fun i => blk_cell hQ8.r i
    have fR : ∀ i, w8.frozen? ⟨w.heap.size, i, none⟩ = false := fun i => blk_frozen hQ8.r i
    have h0 := cH 0; have h1 := cH 1; have h2 := cH 2; have h3 := cH 3; have h4 := cH 4; have h5 := cH 5
    have r0 := cR 0; have r1 := cR 1; have r2 := cR 2; have r3 := cR 3; have r4 := cR 4; have r5 := cR 5
    have g0 := fR 0; have g1 := fR 1; have g2 := fR 2; have g3 := fR 3; have g4 := fR 4; have g5 := fR 5
    simp [headC] at h0 h1 h2 h3 h4 h5 r0 r1 r2 r3 r4 r5
    have hB8 := hQ8.b
    clear cH cR fR hQ8
    have n1 : ¬ w1.heap.size + 1 = w.heap.size := by have := hzH.out; omega
    have n2 : ¬ w.heap.size = w1.heap.size + 1 := by have := hzH.out; omega
    have n3 : ¬ w1.heap.size = w.heap.size := by have := hzH.out; omega
    have n4 : ¬ w.heap.size = w1.heap.size := by have := hzH.out; omega
    go_region
    go_wp2
  · have hte : (errS a b f != 0) = true := by assumption
    have hE : ¬ errS a b f = 0 := by simpa using hte
    refine bodyPost_ret (v := .tuple #[headV ⟨#[]⟩ ⟨#[]⟩ 0, .int .i64 (errS a b f)]) (by simp [results, Tryd.results16, go_sem, headV, headC, *]) rfl ⟨by unfold retR; rw [if_neg hE], ?_⟩
    exact ((((((hB8.setCell (p := ⟨w.heap.size, 0, none⟩) (Nat.le_refl _) _).setCell (p := ⟨w.heap.size, 1, none⟩) (Nat.le_refl _) _).setCell (p := ⟨w.heap.size, 2, none⟩) (Nat.le_refl _) _).setCell (p := ⟨w.heap.size, 3, none⟩) (Nat.le_refl _) _).setCell (p := ⟨w.heap.size, 4, none⟩) (Nat.le_refl _) _).setCell (p := ⟨w.heap.size, 5, none⟩) (Nat.le_refl _) _).drew
  · have hte : (errS a b f != 0) = false := by assumption
    have hE : errS a b f = 0 := by simpa using hte
    refine bodyPost_ret (v := .tuple #[headV a b n, .int .i64 (errS a b f)]) (by simp [results, Tryd.results16, go_sem, headV, headC, *]) rfl ⟨by unfold retR; rw [if_pos hE], ?_⟩
    exact ((((((hB8.setCell (p := ⟨w.heap.size, 0, none⟩) (Nat.le_refl _) _).setCell (p := ⟨w.heap.size, 1, none⟩) (Nat.le_refl _) _).setCell (p := ⟨w.heap.size, 2, none⟩) (Nat.le_refl _) _).setCell (p := ⟨w.heap.size, 3, none⟩) (Nat.le_refl _) _).setCell (p := ⟨w.heap.size, 4, none⟩) (Nat.le_refl _) _).setCell (p := ⟨w.heap.size, 5, none⟩) (Nat.le_refl _) _).drew
end Go.Proofs.YtdbokcgjdkbknaaDoor.Hand
