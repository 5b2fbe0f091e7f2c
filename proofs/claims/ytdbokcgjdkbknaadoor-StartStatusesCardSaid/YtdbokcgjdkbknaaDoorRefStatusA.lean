/- Hand walk: the reference's Status (layer 15). -/
import Derived.Test.YtdbokcgjdkbknaaDoorPureStart
import Derived.Test.YtdbokcgjdkbknaaDoorRefNum
import Derived.Test.YtdbokcgjdkbknaaDoorPureNumD
namespace Go.Proofs.YtdbokcgjdkbknaaDoor.PSa
open Go.RowKit Go.Proofs.YtdbokcgjdkbknaaDoor.Hand Go.Proofs.YtdbokcgjdkbknaaDoorW.PrintWords Go.Proofs.YtdbokcgjdkbknaaDoorW.PrintLast Go.Proofs.YtdbokcgjdkbknaaDoorW.PrintMore
set_option linter.unusedVariables false
set_option linter.unusedSimpArgs false
def okS (s : ByteArray) : Bool := decide (12 ≤ s.size) && (formedB (s.extract 0 8) && (decide (bt s 8 = 32) && (dgt (bt s 9) && (dgt (bt s 10) && (dgt (bt s 11) && (decide (s.size = 12) || decide (bt s 12 = 32)))))))
def num3 (s : ByteArray) : Int := (bt s 9 - 48) * 100 + (bt s 10 - 48) * 10 + (bt s 11 - 48)
def statS (s : ByteArray) : HeadR :=
  if okS s = true then
    if (minorB (s.extract 0 8)).2 = 0 then
      if num3 s < 100 ∨ 599 < num3 s then badR 12
      else if Oct.valueS (s.extract 13 s.size) = true then (⟨#[]⟩, ⟨#[]⟩, (minorB (s.extract 0 8)).1, num3 s, s.extract 13 s.size, [], 0) else badR 7
    else badR (minorB (s.extract 0 8)).2
  else badR 3
/-- What lies in memory: the result. -/
structure SQ (w W : World) : Prop where
  r : W.heap[w.heap.size]? = some (.cells (headC ⟨#[]⟩ ⟨#[]⟩ 0) 33 (0, 0))
  b : Below w.heap.size w W
theorem SQ.drawn {w W W' : World} (h : SQ w W) (hb : Drawn0 W W') : SQ w W' := by
  obtain ⟨m, rfl⟩ := hb
  exact ⟨h.r, pw_below_drewN h.b m⟩
theorem SQ.below {w W W' : World} (h : SQ w W) (hb : Below W.heap.size W W') : SQ w W' := ⟨blk_below h.r hb, h.b.trans (hb.mono h.b.size)⟩
theorem SQ.new (w : World) : SQ w (w.alloc (.cells #[.string ⟨#[]⟩, .string ⟨#[]⟩, .int .i64 0, .int .i64 0, .string ⟨#[]⟩, .slice none 0 0] 33)) := ⟨blk_new w _, (Below.refl _ _).alloc (Nat.le_refl _) _⟩
theorem SQ.cells {w W : World} (h : SQ w W) : (W.cell? ⟨w.heap.size, 0, none⟩ = some (.string ⟨#[]⟩) ∧ W.cell? ⟨w.heap.size, 1, none⟩ = some (.string ⟨#[]⟩) ∧ W.cell? ⟨w.heap.size, 2, none⟩ = some (.int .i64 0) ∧ W.cell? ⟨w.heap.size, 3, none⟩ = some (.int .i64 0) ∧ W.cell? ⟨w.heap.size, 4, none⟩ = some (.string ⟨#[]⟩) ∧ W.cell? ⟨w.heap.size, 5, none⟩ = some (.slice none 0 0)) ∧
    (W.frozen? ⟨w.heap.size, 0, none⟩ = false ∧ W.frozen? ⟨w.heap.size, 1, none⟩ = false ∧ W.frozen? ⟨w.heap.size, 2, none⟩ = false ∧ W.frozen? ⟨w.heap.size, 3, none⟩ = false ∧ W.frozen? ⟨w.heap.size, 4, none⟩ = false ∧ W.frozen? ⟨w.heap.size, 5, none⟩ = false) :=
  ⟨⟨blk_cell h.r 0, blk_cell h.r 1, blk_cell h.r 2, blk_cell h.r 3, blk_cell h.r 4, blk_cell h.r 5⟩, ⟨blk_frozen h.r 0, blk_frozen h.r 1, blk_frozen h.r 2, blk_frozen h.r 3, blk_frozen h.r 4, blk_frozen h.r 5⟩⟩
set_option maxHeartbeats 4000000 in
set_option maxRecDepth 100000 in
theorem RefStatus_bad (s : ByteArray) (w : World) (h : okS s = false) (hs : s.size ≤ 140737488355328) :
    Calls Tryd.prog 23 #[.string s] w fun e w' => e = .returned (.tuple #[headV ⟨#[]⟩ ⟨#[]⟩ 0, .int .i64 3]) ∧ Below w.heap.size w w' := by
  have cF := fun W => abutmentref15_Formed.calls (s.extract 0 8) (formedB (s.extract 0 8)) W (rformed_s _)
  have cD := fun r W => abutmentref15_digit.calls r (dgt r) W (rdigit_s r)
  have hQ := SQ.new w
  go_enter Tryd.func23, Tryd.ntmps23
  go_upto_region 1 with (fail)
  generalize w.alloc (.cells #[.string ⟨#[]⟩, .string ⟨#[]⟩, .int .i64 0, .int .i64 0, .string ⟨#[]⟩, .slice none 0 0] 33) = w1 at hQ ⊢
  obtain ⟨⟨r0, r1, r2, r3, r4, r5⟩, g0, g1, g2, g3, g4, g5⟩ := hQ.cells
  by_cases h12 : 12 ≤ s.size
  · unfold okS at h
    rw [decide_eq_true h12, Bool.true_and, show bt s 8 = ((s[8]'(by omega)).toNat : Int) from bt_nat s 8 (by omega), show bt s 9 = ((s[9]'(by omega)).toNat : Int) from bt_nat s 9 (by omega), show bt s 10 = ((s[10]'(by omega)).toNat : Int) from bt_nat s 10 (by omega), show bt s 11 = ((s[11]'(by omega)).toNat : Int) from bt_nat s 11 (by omega)] at h
    generalize formedB (s.extract 0 8) = F at h cF
    cases F
    · clear h
      go_wp2_with (first | (go_at_call 49; refine (cF _).mono ?_; clear r0 r1 r2 r3 r4 r5 g0 g1 g2 g3 g4 g5; rintro e w2 ⟨rfl, hd⟩; replace hQ := hQ.drawn hd; clear hd; obtain ⟨⟨r0, r1, r2, r3, r4, r5⟩, g0, g1, g2, g3, g4, g5⟩ := hQ.cells) | (go_at_call 51; refine (cD _ _).mono ?_; clear r0 r1 r2 r3 r4 r5 g0 g1 g2 g3 g4 g5; rintro e w2 ⟨rfl, hd⟩; replace hQ := hQ.drawn hd; clear hd; obtain ⟨⟨r0, r1, r2, r3, r4, r5⟩, g0, g1, g2, g3, g4, g5⟩ := hQ.cells))
      refine bodyPost_ret (v := .tuple #[headV ⟨#[]⟩ ⟨#[]⟩ 0, .int .i64 3]) (by simp [results, Tryd.results23, go_sem, headV, headC, *]) rfl ⟨rfl, ?_⟩
      exact ((((((hQ.b.setCell (p := ⟨w.heap.size, 0, none⟩) (Nat.le_refl _) _).setCell (p := ⟨w.heap.size, 1, none⟩) (Nat.le_refl _) _).setCell (p := ⟨w.heap.size, 2, none⟩) (Nat.le_refl _) _).setCell (p := ⟨w.heap.size, 3, none⟩) (Nat.le_refl _) _).setCell (p := ⟨w.heap.size, 4, none⟩) (Nat.le_refl _) _).setCell (p := ⟨w.heap.size, 5, none⟩) (Nat.le_refl _) _)
    · rw [Bool.true_and] at h
      cases b8 : decide (((s[8]'(by omega)).toNat : Int) = 32)
      · have e8 : (((s[8]'(by omega)).toNat : Int) != 32) = true := by simpa using b8
        clear b8
        clear h
        go_wp2_with (first | (go_at_call 49; refine (cF _).mono ?_; clear r0 r1 r2 r3 r4 r5 g0 g1 g2 g3 g4 g5; rintro e w2 ⟨rfl, hd⟩; replace hQ := hQ.drawn hd; clear hd; obtain ⟨⟨r0, r1, r2, r3, r4, r5⟩, g0, g1, g2, g3, g4, g5⟩ := hQ.cells) | (go_at_call 51; refine (cD _ _).mono ?_; clear r0 r1 r2 r3 r4 r5 g0 g1 g2 g3 g4 g5; rintro e w2 ⟨rfl, hd⟩; replace hQ := hQ.drawn hd; clear hd; obtain ⟨⟨r0, r1, r2, r3, r4, r5⟩, g0, g1, g2, g3, g4, g5⟩ := hQ.cells))
        refine bodyPost_ret (v := .tuple #[headV ⟨#[]⟩ ⟨#[]⟩ 0, .int .i64 3]) (by simp [results, Tryd.results23, go_sem, headV, headC, *]) rfl ⟨rfl, ?_⟩
        exact ((((((hQ.b.setCell (p := ⟨w.heap.size, 0, none⟩) (Nat.le_refl _) _).setCell (p := ⟨w.heap.size, 1, none⟩) (Nat.le_refl _) _).setCell (p := ⟨w.heap.size, 2, none⟩) (Nat.le_refl _) _).setCell (p := ⟨w.heap.size, 3, none⟩) (Nat.le_refl _) _).setCell (p := ⟨w.heap.size, 4, none⟩) (Nat.le_refl _) _).setCell (p := ⟨w.heap.size, 5, none⟩) (Nat.le_refl _) _)
      · have e8 : (((s[8]'(by omega)).toNat : Int) != 32) = false := by simpa using b8
        rw [b8, Bool.true_and] at h
        clear b8
        cases b9 : dgt ((s[9]'(by omega)).toNat : Int)
        · clear h
          go_wp2_with (first | (go_at_call 49; refine (cF _).mono ?_; clear r0 r1 r2 r3 r4 r5 g0 g1 g2 g3 g4 g5; rintro e w2 ⟨rfl, hd⟩; replace hQ := hQ.drawn hd; clear hd; obtain ⟨⟨r0, r1, r2, r3, r4, r5⟩, g0, g1, g2, g3, g4, g5⟩ := hQ.cells) | (go_at_call 51; refine (cD _ _).mono ?_; clear r0 r1 r2 r3 r4 r5 g0 g1 g2 g3 g4 g5; rintro e w2 ⟨rfl, hd⟩; replace hQ := hQ.drawn hd; clear hd; obtain ⟨⟨r0, r1, r2, r3, r4, r5⟩, g0, g1, g2, g3, g4, g5⟩ := hQ.cells))
          refine bodyPost_ret (v := .tuple #[headV ⟨#[]⟩ ⟨#[]⟩ 0, .int .i64 3]) (by simp [results, Tryd.results23, go_sem, headV, headC, *]) rfl ⟨rfl, ?_⟩
          exact ((((((hQ.b.setCell (p := ⟨w.heap.size, 0, none⟩) (Nat.le_refl _) _).setCell (p := ⟨w.heap.size, 1, none⟩) (Nat.le_refl _) _).setCell (p := ⟨w.heap.size, 2, none⟩) (Nat.le_refl _) _).setCell (p := ⟨w.heap.size, 3, none⟩) (Nat.le_refl _) _).setCell (p := ⟨w.heap.size, 4, none⟩) (Nat.le_refl _) _).setCell (p := ⟨w.heap.size, 5, none⟩) (Nat.le_refl _) _)
        · rw [b9, Bool.true_and] at h
          cases b10 : dgt ((s[10]'(by omega)).toNat : Int)
          · clear h
            go_wp2_with (first | (go_at_call 49; refine (cF _).mono ?_; clear r0 r1 r2 r3 r4 r5 g0 g1 g2 g3 g4 g5; rintro e w2 ⟨rfl, hd⟩; replace hQ := hQ.drawn hd; clear hd; obtain ⟨⟨r0, r1, r2, r3, r4, r5⟩, g0, g1, g2, g3, g4, g5⟩ := hQ.cells) | (go_at_call 51; refine (cD _ _).mono ?_; clear r0 r1 r2 r3 r4 r5 g0 g1 g2 g3 g4 g5; rintro e w2 ⟨rfl, hd⟩; replace hQ := hQ.drawn hd; clear hd; obtain ⟨⟨r0, r1, r2, r3, r4, r5⟩, g0, g1, g2, g3, g4, g5⟩ := hQ.cells))
            refine bodyPost_ret (v := .tuple #[headV ⟨#[]⟩ ⟨#[]⟩ 0, .int .i64 3]) (by simp [results, Tryd.results23, go_sem, headV, headC, *]) rfl ⟨rfl, ?_⟩
            exact ((((((hQ.b.setCell (p := ⟨w.heap.size, 0, none⟩) (Nat.le_refl _) _).setCell (p := ⟨w.heap.size, 1, none⟩) (Nat.le_refl _) _).setCell (p := ⟨w.heap.size, 2, none⟩) (Nat.le_refl _) _).setCell (p := ⟨w.heap.size, 3, none⟩) (Nat.le_refl _) _).setCell (p := ⟨w.heap.size, 4, none⟩) (Nat.le_refl _) _).setCell (p := ⟨w.heap.size, 5, none⟩) (Nat.le_refl _) _)
          · rw [b10, Bool.true_and] at h
            cases b11 : dgt ((s[11]'(by omega)).toNat : Int)
            · clear h
              go_wp2_with (first | (go_at_call 49; refine (cF _).mono ?_; clear r0 r1 r2 r3 r4 r5 g0 g1 g2 g3 g4 g5; rintro e w2 ⟨rfl, hd⟩; replace hQ := hQ.drawn hd; clear hd; obtain ⟨⟨r0, r1, r2, r3, r4, r5⟩, g0, g1, g2, g3, g4, g5⟩ := hQ.cells) | (go_at_call 51; refine (cD _ _).mono ?_; clear r0 r1 r2 r3 r4 r5 g0 g1 g2 g3 g4 g5; rintro e w2 ⟨rfl, hd⟩; replace hQ := hQ.drawn hd; clear hd; obtain ⟨⟨r0, r1, r2, r3, r4, r5⟩, g0, g1, g2, g3, g4, g5⟩ := hQ.cells))
              refine bodyPost_ret (v := .tuple #[headV ⟨#[]⟩ ⟨#[]⟩ 0, .int .i64 3]) (by simp [results, Tryd.results23, go_sem, headV, headC, *]) rfl ⟨rfl, ?_⟩
              exact ((((((hQ.b.setCell (p := ⟨w.heap.size, 0, none⟩) (Nat.le_refl _) _).setCell (p := ⟨w.heap.size, 1, none⟩) (Nat.le_refl _) _).setCell (p := ⟨w.heap.size, 2, none⟩) (Nat.le_refl _) _).setCell (p := ⟨w.heap.size, 3, none⟩) (Nat.le_refl _) _).setCell (p := ⟨w.heap.size, 4, none⟩) (Nat.le_refl _) _).setCell (p := ⟨w.heap.size, 5, none⟩) (Nat.le_refl _) _)
            · rw [b11, Bool.true_and] at h
              have hz : ¬ s.size = 12 := by intro h'; rw [decide_eq_true h'] at h; cases h
              rw [decide_eq_false hz, Bool.false_or, show bt s 12 = ((s[12]'(by omega)).toNat : Int) from bt_nat s 12 (by omega)] at h
              have hz2 : 12 < s.size := by omega
              have e12 : (((s[12]'(by omega)).toNat : Int) != 32) = true := by simpa using h
              clear h
              go_wp2_with (first | (go_at_call 49; refine (cF _).mono ?_; clear r0 r1 r2 r3 r4 r5 g0 g1 g2 g3 g4 g5; rintro e w2 ⟨rfl, hd⟩; replace hQ := hQ.drawn hd; clear hd; obtain ⟨⟨r0, r1, r2, r3, r4, r5⟩, g0, g1, g2, g3, g4, g5⟩ := hQ.cells) | (go_at_call 51; refine (cD _ _).mono ?_; clear r0 r1 r2 r3 r4 r5 g0 g1 g2 g3 g4 g5; rintro e w2 ⟨rfl, hd⟩; replace hQ := hQ.drawn hd; clear hd; obtain ⟨⟨r0, r1, r2, r3, r4, r5⟩, g0, g1, g2, g3, g4, g5⟩ := hQ.cells))
              refine bodyPost_ret (v := .tuple #[headV ⟨#[]⟩ ⟨#[]⟩ 0, .int .i64 3]) (by simp [results, Tryd.results23, go_sem, headV, headC, *]) rfl ⟨rfl, ?_⟩
              exact ((((((hQ.b.setCell (p := ⟨w.heap.size, 0, none⟩) (Nat.le_refl _) _).setCell (p := ⟨w.heap.size, 1, none⟩) (Nat.le_refl _) _).setCell (p := ⟨w.heap.size, 2, none⟩) (Nat.le_refl _) _).setCell (p := ⟨w.heap.size, 3, none⟩) (Nat.le_refl _) _).setCell (p := ⟨w.heap.size, 4, none⟩) (Nat.le_refl _) _).setCell (p := ⟨w.heap.size, 5, none⟩) (Nat.le_refl _) _)
  · clear h
    go_wp2_with (first | (go_at_call 49; refine (cF _).mono ?_; clear r0 r1 r2 r3 r4 r5 g0 g1 g2 g3 g4 g5; rintro e w2 ⟨rfl, hd⟩; replace hQ := hQ.drawn hd; clear hd; obtain ⟨⟨r0, r1, r2, r3, r4, r5⟩, g0, g1, g2, g3, g4, g5⟩ := hQ.cells) | (go_at_call 51; refine (cD _ _).mono ?_; clear r0 r1 r2 r3 r4 r5 g0 g1 g2 g3 g4 g5; rintro e w2 ⟨rfl, hd⟩; replace hQ := hQ.drawn hd; clear hd; obtain ⟨⟨r0, r1, r2, r3, r4, r5⟩, g0, g1, g2, g3, g4, g5⟩ := hQ.cells))
    refine bodyPost_ret (v := .tuple #[headV ⟨#[]⟩ ⟨#[]⟩ 0, .int .i64 3]) (by simp [results, Tryd.results23, go_sem, headV, headC, *]) rfl ⟨rfl, ?_⟩
    exact ((((((hQ.b.setCell (p := ⟨w.heap.size, 0, none⟩) (Nat.le_refl _) _).setCell (p := ⟨w.heap.size, 1, none⟩) (Nat.le_refl _) _).setCell (p := ⟨w.heap.size, 2, none⟩) (Nat.le_refl _) _).setCell (p := ⟨w.heap.size, 3, none⟩) (Nat.le_refl _) _).setCell (p := ⟨w.heap.size, 4, none⟩) (Nat.le_refl _) _).setCell (p := ⟨w.heap.size, 5, none⟩) (Nat.le_refl _) _)
end Go.Proofs.YtdbokcgjdkbknaaDoor.PSa
