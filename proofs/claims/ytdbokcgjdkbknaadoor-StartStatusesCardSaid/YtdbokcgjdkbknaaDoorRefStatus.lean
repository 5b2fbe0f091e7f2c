/- Hand walk: the reference's Status (layer 15), the good lines. -/
import Derived.Test.YtdbokcgjdkbknaaDoorRefStatusA
import Derived.Test.YtdbokcgjdkbknaaDoorRefNum
import Derived.Test.YtdbokcgjdkbknaaDoorPureNumD
namespace Go.Proofs.YtdbokcgjdkbknaaDoor.PSa
open Go.RowKit Go.Proofs.YtdbokcgjdkbknaaDoor.Hand Go.Proofs.YtdbokcgjdkbknaaDoorW.PrintWords Go.Proofs.YtdbokcgjdkbknaaDoorW.PrintLast Go.Proofs.YtdbokcgjdkbknaaDoorW.PrintMore
set_option linter.unusedVariables false
set_option linter.unusedSimpArgs false
theorem number3 (s : ByteArray) (h12 : 12 ≤ s.size) (d9 : dgt (bt s 9) = true) (d10 : dgt (bt s 10) = true) (d11 : dgt (bt s 11) = true) : PNum.numSpec 10 999 (s.extract 9 12).data.toList = (num3 s, 0) := by
  have e9 : bt s 9 = ((s[9]'(by omega)).toNat : Int) := bt_nat s 9 (by omega)
  have e10 : bt s 10 = ((s[10]'(by omega)).toNat : Int) := bt_nat s 10 (by omega)
  have e11 : bt s 11 = ((s[11]'(by omega)).toNat : Int) := bt_nat s 11 (by omega)
  have hl : (s.extract 9 12).data.toList = [s[9]'(by omega), s[10]'(by omega), s[11]'(by omega)] := by
    rw [Lib.extract_data, drop_cons s 9 (by omega), drop_cons s 10 (by omega), drop_cons s 11 (by omega)]
    rfl
  unfold num3
  rw [hl]
  rw [e9] at d9 ⊢
  rw [e10] at d10 ⊢
  rw [e11] at d11 ⊢
  have hv : ∀ c : UInt8, dgt (c.toNat : Int) = true → PNum.val c = (c.toNat : Int) - 48 ∧ 0 ≤ PNum.val c ∧ PNum.val c ≤ 9 := by
    intro c hc
    unfold dgt at hc
    simp only [Bool.and_eq_true, decide_eq_true_eq] at hc
    unfold PNum.val
    rw [if_pos (by omega)]
    omega
  obtain ⟨v9, l9, u9⟩ := hv _ d9
  obtain ⟨v10, l10, u10⟩ := hv _ d10
  obtain ⟨v11, l11, u11⟩ := hv _ d11
  rw [← v9, ← v10, ← v11]
  generalize s[9]'(by omega) = a at *
  generalize s[10]'(by omega) = b at *
  generalize s[11]'(by omega) = c at *
  have hn : PNum.numv 10 [a, b, c] 0 = PNum.val a * 100 + PNum.val b * 10 + PNum.val c := by
    show ((0 * 10 + PNum.val a) * 10 + PNum.val b) * 10 + PNum.val c = _
    omega
  have hb : PNum.badd 10 [a, b, c] = false := by
    unfold PNum.badd
    simp
    omega
  unfold PNum.numSpec
  rw [if_neg (by simp), hb, if_neg (by simp), hn, if_neg (by omega)]
theorem value_l (s : ByteArray) (hn : s.size ≤ 140737488351232) : ∀ (d i : Nat), i + d = s.size → Ev (fun k => abutmentref01_Value.l0 k s (i : Int)) ((s.data.toList.drop i).all fun c => Oct.valueI c.toNat)
  | 0, i, h => by
    refine Ev.step (f := fun _ => some true) (fun k => ?_) ?_
    · show abutmentref01_Value.l0 (k + 1) s (i : Int) = _
      simp only [abutmentref01_Value.l0]
      rw [if_neg (by omega)]
    · rw [List.drop_of_length_le (by simp; omega)]
      exact Ev.now _
  | d + 1, i, h => by
    have hlt : i < s.size := by omega
    have ih := value_l s hn d (i + 1) (by omega)
    rw [drop_cons s i hlt, List.all_cons]
    have hv : Oct.valueI ((s[i]'hlt).toNat : Int) = (bt s i == 9 || (decide (32 ≤ bt s i) && bt s i != 127)) := by rw [bt_nat s i hlt]; rfl
    cases hc : Oct.valueI ((s[i]'hlt).toNat : Int)
    · refine Ev.step (f := fun _ => some false) (fun k => ?_) (by rw [Bool.false_and]; exact Ev.now _)
      rw [hc] at hv
      have hv2 := hv.symm
      simp at hv2
      show abutmentref01_Value.l0 (k + 1) s (i : Int) = _
      simp only [abutmentref01_Value.l0]
      rw [if_pos (by omega), if_pos (by omega), if_neg hv2.1]
      by_cases h1 : bt s i < 32
      · rw [if_pos h1]
      · rw [if_neg h1, if_pos (hv2.2 (by omega))]
    · rw [Bool.true_and]
      rw [hc] at hv
      have hv2 := hv.symm
      simp at hv2
      refine Ev.step (f := fun k => abutmentref01_Value.l0 k s ((i + 1 : Nat) : Int)) (fun k => ?_) ih
      show abutmentref01_Value.l0 (k + 1) s (i : Int) = _
      simp only [abutmentref01_Value.l0]
      rw [if_pos (by omega), if_pos (by omega), wsucc hlt hn]
      rcases hv2 with h1 | ⟨h1, h2⟩
      · rw [if_pos h1, if_neg (by omega)]
      · split <;> first | done | rfl | (rw [if_neg h2]; done) | (rw [if_neg (by omega), if_neg h2]; done) | (rw [if_neg (by omega)]; done)
theorem value_s (s : ByteArray) (hn : s.size ≤ 140737488351232) : Ev (fun k => abutmentref01_Value.f k s) (Oct.valueS s) := value_l s hn s.size 0 (by omega)
/-- What lies in memory later: the result, the head. -/
structure SP (w W : World) (gh : Nat) (n st : Int) (rs : ByteArray) : Prop where
  r : W.heap[w.heap.size]? = some (.cells (headC ⟨#[]⟩ ⟨#[]⟩ 0) 33 (0, 0))
  h : W.heap[gh]? = some (.cells #[.string ⟨#[]⟩, .string ⟨#[]⟩, .int .i64 n, .int .i64 st, .string rs, .slice none 0 0] 33 (0, 0))
  b : Below w.heap.size w W
theorem SP.drawn {w W W' : World} {gh : Nat} {n st : Int} {rs : ByteArray} (h : SP w W gh n st rs) (hb : Drawn0 W W') : SP w W' gh n st rs := by
  obtain ⟨m, rfl⟩ := hb
  exact ⟨h.r, h.h, pw_below_drewN h.b m⟩
theorem SP.cells {w W : World} {gh : Nat} {n st : Int} {rs : ByteArray} (h : SP w W gh n st rs) : (W.cell? ⟨w.heap.size, 0, none⟩ = some (.string ⟨#[]⟩) ∧ W.cell? ⟨w.heap.size, 1, none⟩ = some (.string ⟨#[]⟩) ∧ W.cell? ⟨w.heap.size, 2, none⟩ = some (.int .i64 0) ∧ W.cell? ⟨w.heap.size, 3, none⟩ = some (.int .i64 0) ∧ W.cell? ⟨w.heap.size, 4, none⟩ = some (.string ⟨#[]⟩) ∧ W.cell? ⟨w.heap.size, 5, none⟩ = some (.slice none 0 0)) ∧
    (W.frozen? ⟨w.heap.size, 0, none⟩ = false ∧ W.frozen? ⟨w.heap.size, 1, none⟩ = false ∧ W.frozen? ⟨w.heap.size, 2, none⟩ = false ∧ W.frozen? ⟨w.heap.size, 3, none⟩ = false ∧ W.frozen? ⟨w.heap.size, 4, none⟩ = false ∧ W.frozen? ⟨w.heap.size, 5, none⟩ = false) ∧
    (W.cell? ⟨gh, 0, none⟩ = some (.string ⟨#[]⟩) ∧ W.cell? ⟨gh, 1, none⟩ = some (.string ⟨#[]⟩) ∧ W.cell? ⟨gh, 2, none⟩ = some (.int .i64 n) ∧ W.cell? ⟨gh, 3, none⟩ = some (.int .i64 st) ∧ W.cell? ⟨gh, 4, none⟩ = some (.string rs) ∧ W.cell? ⟨gh, 5, none⟩ = some (.slice none 0 0)) :=
  ⟨⟨blk_cell h.r 0, blk_cell h.r 1, blk_cell h.r 2, blk_cell h.r 3, blk_cell h.r 4, blk_cell h.r 5⟩, ⟨blk_frozen h.r 0, blk_frozen h.r 1, blk_frozen h.r 2, blk_frozen h.r 3, blk_frozen h.r 4, blk_frozen h.r 5⟩, ⟨blk_cell h.h 0, blk_cell h.h 1, blk_cell h.h 2, blk_cell h.h 3, blk_cell h.h 4, blk_cell h.h 5⟩⟩
theorem SQ.put {w W : World} (h : SQ w W) (n st : Int) (rs : ByteArray) : SP w (W.alloc (.cells #[.string ⟨#[]⟩, .string ⟨#[]⟩, .int .i64 n, .int .i64 st, .string rs, .slice none 0 0] 33)) W.heap.size n st rs :=
  ⟨blk_alloc h.r _, blk_new W _, h.b.alloc h.b.size _⟩
def headR (n st : Int) (rs : ByteArray) : Value := .agg #[.string ⟨#[]⟩, .string ⟨#[]⟩, .int .i64 n, .int .i64 st, .string rs, .slice none 0 0]
def statEnd (mi me N : Int) (vb : Bool) (rs : ByteArray) : Ending :=
  .returned (.tuple #[if me = 0 then if N < 100 ∨ 599 < N then headV ⟨#[]⟩ ⟨#[]⟩ 0 else if vb = true then headR mi N rs else headV ⟨#[]⟩ ⟨#[]⟩ 0 else headV ⟨#[]⟩ ⟨#[]⟩ 0,
    .int .i64 (if me = 0 then if N < 100 ∨ 599 < N then 12 else if vb = true then 0 else 7 else me)])
theorem statEnd_me {mi me N : Int} {vb : Bool} {rs : ByteArray} (h : (me != 0) = true) : Ending.returned (.tuple #[headV ⟨#[]⟩ ⟨#[]⟩ 0, .int .i64 me]) = statEnd mi me N vb rs := by
  have : ¬ me = 0 := by simpa using h
  unfold statEnd; rw [if_neg this, if_neg this]
theorem statEnd_n {mi me N : Int} {vb : Bool} {rs : ByteArray} (h : (me != 0) = false) (h2 : N < 100 ∨ 599 < N) : Ending.returned (.tuple #[headV ⟨#[]⟩ ⟨#[]⟩ 0, .int .i64 12]) = statEnd mi me N vb rs := by
  have : me = 0 := by simpa using h
  unfold statEnd; rw [if_pos this, if_pos this, if_pos h2, if_pos h2]
theorem statEnd_v {mi me N : Int} {vb : Bool} {rs : ByteArray} (h : (me != 0) = false) (h1 : ¬ N < 100) (h2 : ¬ 599 < N) (h3 : vb = false) : Ending.returned (.tuple #[headV ⟨#[]⟩ ⟨#[]⟩ 0, .int .i64 7]) = statEnd mi me N vb rs := by
  have : me = 0 := by simpa using h
  subst h3
  have h4 : ¬ (N < 100 ∨ 599 < N) := by omega
  unfold statEnd; rw [if_pos this, if_pos this, if_neg h4, if_neg h4, if_neg (by simp), if_neg (by simp)]
theorem statEnd_ok {mi me N : Int} {vb : Bool} {rs : ByteArray} (h : (me != 0) = false) (h1 : ¬ N < 100) (h2 : ¬ 599 < N) (h3 : vb = true) : Ending.returned (.tuple #[headR mi N rs, .int .i64 0]) = statEnd mi me N vb rs := by
  have : me = 0 := by simpa using h
  subst h3
  have h4 : ¬ (N < 100 ∨ 599 < N) := by omega
  unfold statEnd; rw [if_pos this, if_pos this, if_neg h4, if_neg h4, if_pos rfl, if_pos rfl]
set_option maxHeartbeats 4000000 in
set_option maxRecDepth 100000 in
theorem RefStatus_good (s : ByteArray) (w : World) (h : okS s = true) (hs : s.size ≤ 140737488351232) :
    Calls Tryd.prog 23 #[.string s] w fun e w' => e = statEnd (minorB (s.extract 0 8)).1 (minorB (s.extract 0 8)).2 (num3 s) (Oct.valueS (s.extract 13 s.size)) (s.extract 13 s.size) ∧ Below w.heap.size w w' := by
  unfold okS at h
  simp only [Bool.and_eq_true, decide_eq_true_eq, Bool.or_eq_true] at h
  obtain ⟨h12, hF, b8, b9, b10, b11, b12⟩ := h
  obtain ⟨kn, hkn⟩ := (PNum.Number_ev 10 999 (.inl rfl) (by omega) (by omega) (s.extract 9 12) (by rw [ByteArray.size_extract]; omega)).rounds
  rw [number3 s h12 b9 b10 b11] at hkn
  obtain ⟨kv, hkv⟩ := (value_s (s.extract 13 s.size) (by rw [ByteArray.size_extract]; omega)).rounds
  have cF := fun W => abutmentref15_Formed.calls (s.extract 0 8) (formedB (s.extract 0 8)) W (rformed_s _)
  have cM := fun W => abutmentref15_Minor.calls (s.extract 0 8) (minorB (s.extract 0 8)).1 (minorB (s.extract 0 8)).2 W (rminor_s _)
  have cN := fun W => abutmentref02_Number.calls kn (s.extract 9 12) 10 999 (num3 s) 0 W hkn
  have cV := fun W => abutmentref01_Value.calls kv (s.extract 13 s.size) (Oct.valueS (s.extract 13 s.size)) W hkv
  have cD := fun r W => abutmentref15_digit.calls r (dgt r) W (rdigit_s r)
  rw [hF] at cF
  clear hkn hkv hF kn kv
  have e8 : (((s[8]'(by omega)).toNat : Int) != 32) = false := by
    rw [show bt s 8 = ((s[8]'(by omega)).toNat : Int) from bt_nat s 8 (by omega)] at b8
    simpa using b8
  rw [show bt s 9 = ((s[9]'(by omega)).toNat : Int) from bt_nat s 9 (by omega)] at b9
  rw [show bt s 10 = ((s[10]'(by omega)).toNat : Int) from bt_nat s 10 (by omega)] at b10
  rw [show bt s 11 = ((s[11]'(by omega)).toNat : Int) from bt_nat s 11 (by omega)] at b11
  clear b8
  generalize (minorB (s.extract 0 8)).1 = mn1 at cM ⊢
  generalize (minorB (s.extract 0 8)).2 = me at cM ⊢
  generalize num3 s = N at cN ⊢
  generalize hvb : Oct.valueS (s.extract 13 s.size) = vb at cV ⊢
  clear hvb
  generalize hrs : s.extract 13 s.size = rs at cV ⊢
  have hshort : s.size ≤ 13 → rs = ⟨#[]⟩ := fun h => by
    rw [← hrs]
    apply ByteArray.ext
    apply Array.ext'
    rw [Lib.extract_data, List.drop_of_length_le (by simp; omega)]
    simp
  have hQ := SQ.new w
  go_enter Tryd.func23, Tryd.ntmps23
  go_upto_region 1 with (fail)
  generalize w.alloc (.cells #[.string ⟨#[]⟩, .string ⟨#[]⟩, .int .i64 0, .int .i64 0, .string ⟨#[]⟩, .slice none 0 0] 33) = w1 at hQ ⊢
  obtain ⟨⟨r0, r1, r2, r3, r4, r5⟩, g0, g1, g2, g3, g4, g5⟩ := hQ.cells
  have hcut : s.size = 12 ∨ (12 < s.size ∧ ∀ h : 12 < s.size, (((s[12]'h).toNat : Int) != 32) = false) := by
    rcases b12 with h1 | h1
    · exact .inl h1
    · by_cases h2 : 12 < s.size
      · refine .inr ⟨h2, fun h3 => ?_⟩
        rw [show bt s 12 = ((s[12]'(by omega)).toNat : Int) from bt_nat s 12 (by omega)] at h1
        simpa using h1
      · exact .inl (by omega)
  clear b12
  have hrsH := Lib.hid hrs
  have hcut2 : s.size ≤ 12 ∨ (12 < s.size ∧ ∀ h : 12 < s.size, (((s[12]'h).toNat : Int) != 32) = false) := by rcases hcut with h | h; exact .inl (by omega); exact .inr h
  clear hcut
  by_cases h13 : s.size ≤ 13
  · have hr0 := hshort h13
    subst hr0
    clear hshort hrs
    rcases hcut2 with h14 | ⟨h14, e12'⟩
    · cases vb
      all_goals
        go_wp2_with (first | (go_at_call 49; refine (cF _).mono ?_; clear r0 r1 r2 r3 r4 r5 g0 g1 g2 g3 g4 g5; rintro e w2 ⟨rfl, hd⟩; replace hQ := hQ.drawn hd; clear hd; obtain ⟨⟨r0, r1, r2, r3, r4, r5⟩, g0, g1, g2, g3, g4, g5⟩ := hQ.cells) | (go_at_call 51; refine (cD _ _).mono ?_; clear r0 r1 r2 r3 r4 r5 g0 g1 g2 g3 g4 g5; rintro e w2 ⟨rfl, hd⟩; replace hQ := hQ.drawn hd; clear hd; obtain ⟨⟨r0, r1, r2, r3, r4, r5⟩, g0, g1, g2, g3, g4, g5⟩ := hQ.cells) | (go_at_call 19; refine (cM _).mono ?_; clear r0 r1 r2 r3 r4 r5 g0 g1 g2 g3 g4 g5; rintro e w2 ⟨rfl, hd⟩; replace hQ := hQ.below hd; clear hd; obtain ⟨⟨r0, r1, r2, r3, r4, r5⟩, g0, g1, g2, g3, g4, g5⟩ := hQ.cells) | (go_at_call 35; refine (cN _).mono ?_; clear r0 r1 r2 r3 r4 r5 g0 g1 g2 g3 g4 g5; rintro e w2 ⟨rfl, hd⟩; replace hQ := hQ.drawn hd; clear hd; obtain ⟨⟨r0, r1, r2, r3, r4, r5⟩, g0, g1, g2, g3, g4, g5⟩ := hQ.cells; have hP := hQ.put mn1 N ⟨#[]⟩) | (go_at_call 52; refine (cV _).mono ?_; clear hQ r0 r1 r2 r3 r4 r5 g0 g1 g2 g3 g4 g5; rintro e w4 ⟨rfl, hd⟩; replace hP := hP.drawn hd; clear hd; obtain ⟨⟨r0, r1, r2, r3, r4, r5⟩, ⟨g0, g1, g2, g3, g4, g5⟩, k0, k1, k2, k3, k4, k5⟩ := hP.cells))
        all_goals
          first
          | (refine (fun (hE : (me != 0) = true) => ?_) ?_; rotate_left; assumption; refine bodyPost_ret (v := .tuple #[headV ⟨#[]⟩ ⟨#[]⟩ 0, .int .i64 me]) (by simp [results, Tryd.results23, go_sem, headV, headC, headR, *]) rfl ⟨statEnd_me hE, ?_⟩; exact ((((((hQ.b.setCell (p := ⟨w.heap.size, 0, none⟩) (Nat.le_refl _) _).setCell (p := ⟨w.heap.size, 1, none⟩) (Nat.le_refl _) _).setCell (p := ⟨w.heap.size, 2, none⟩) (Nat.le_refl _) _).setCell (p := ⟨w.heap.size, 3, none⟩) (Nat.le_refl _) _).setCell (p := ⟨w.heap.size, 4, none⟩) (Nat.le_refl _) _).setCell (p := ⟨w.heap.size, 5, none⟩) (Nat.le_refl _) _))
          | (refine (fun (hE : (me != 0) = false) => ?_) ?_; rotate_left; assumption; refine (fun (hN : N < 100 ∨ 599 < N) => ?_) ?_; rotate_left; omega; refine bodyPost_ret (v := .tuple #[headV ⟨#[]⟩ ⟨#[]⟩ 0, .int .i64 12]) (by simp [results, Tryd.results23, go_sem, headV, headC, headR, *]) rfl ⟨statEnd_n hE hN, ?_⟩; exact ((((((hQ.b.setCell (p := ⟨w.heap.size, 0, none⟩) (Nat.le_refl _) _).setCell (p := ⟨w.heap.size, 1, none⟩) (Nat.le_refl _) _).setCell (p := ⟨w.heap.size, 2, none⟩) (Nat.le_refl _) _).setCell (p := ⟨w.heap.size, 3, none⟩) (Nat.le_refl _) _).setCell (p := ⟨w.heap.size, 4, none⟩) (Nat.le_refl _) _).setCell (p := ⟨w.heap.size, 5, none⟩) (Nat.le_refl _) _))
          | (refine (fun (hE : (me != 0) = false) => ?_) ?_; rotate_left; assumption; refine (fun (hN : ¬ N < 100) => ?_) ?_; rotate_left; omega; refine (fun (hM : ¬ 599 < N) => ?_) ?_; rotate_left; omega; refine bodyPost_ret (v := .tuple #[headV ⟨#[]⟩ ⟨#[]⟩ 0, .int .i64 7]) (by simp [results, Tryd.results23, go_sem, headV, headC, headR, *]) rfl ⟨statEnd_v hE hN hM rfl, ?_⟩; exact ((((((hP.b.setCell (p := ⟨w.heap.size, 0, none⟩) (Nat.le_refl _) _).setCell (p := ⟨w.heap.size, 1, none⟩) (Nat.le_refl _) _).setCell (p := ⟨w.heap.size, 2, none⟩) (Nat.le_refl _) _).setCell (p := ⟨w.heap.size, 3, none⟩) (Nat.le_refl _) _).setCell (p := ⟨w.heap.size, 4, none⟩) (Nat.le_refl _) _).setCell (p := ⟨w.heap.size, 5, none⟩) (Nat.le_refl _) _))
          | (refine (fun (hE : (me != 0) = false) => ?_) ?_; rotate_left; assumption; refine (fun (hN : ¬ N < 100) => ?_) ?_; rotate_left; omega; refine (fun (hM : ¬ 599 < N) => ?_) ?_; rotate_left; omega; refine bodyPost_ret (v := .tuple #[headR mn1 N ⟨#[]⟩, .int .i64 0]) (by simp [results, Tryd.results23, go_sem, headV, headC, headR, *]) rfl ⟨statEnd_ok hE hN hM rfl, ?_⟩; exact ((((((hP.b.setCell (p := ⟨w.heap.size, 0, none⟩) (Nat.le_refl _) _).setCell (p := ⟨w.heap.size, 1, none⟩) (Nat.le_refl _) _).setCell (p := ⟨w.heap.size, 2, none⟩) (Nat.le_refl _) _).setCell (p := ⟨w.heap.size, 3, none⟩) (Nat.le_refl _) _).setCell (p := ⟨w.heap.size, 4, none⟩) (Nat.le_refl _) _).setCell (p := ⟨w.heap.size, 5, none⟩) (Nat.le_refl _) _))
    · have e12 := e12' h14
      clear e12'
      cases vb
      all_goals
        go_wp2_with (first | (go_at_call 49; refine (cF _).mono ?_; clear r0 r1 r2 r3 r4 r5 g0 g1 g2 g3 g4 g5; rintro e w2 ⟨rfl, hd⟩; replace hQ := hQ.drawn hd; clear hd; obtain ⟨⟨r0, r1, r2, r3, r4, r5⟩, g0, g1, g2, g3, g4, g5⟩ := hQ.cells) | (go_at_call 51; refine (cD _ _).mono ?_; clear r0 r1 r2 r3 r4 r5 g0 g1 g2 g3 g4 g5; rintro e w2 ⟨rfl, hd⟩; replace hQ := hQ.drawn hd; clear hd; obtain ⟨⟨r0, r1, r2, r3, r4, r5⟩, g0, g1, g2, g3, g4, g5⟩ := hQ.cells) | (go_at_call 19; refine (cM _).mono ?_; clear r0 r1 r2 r3 r4 r5 g0 g1 g2 g3 g4 g5; rintro e w2 ⟨rfl, hd⟩; replace hQ := hQ.below hd; clear hd; obtain ⟨⟨r0, r1, r2, r3, r4, r5⟩, g0, g1, g2, g3, g4, g5⟩ := hQ.cells) | (go_at_call 35; refine (cN _).mono ?_; clear r0 r1 r2 r3 r4 r5 g0 g1 g2 g3 g4 g5; rintro e w2 ⟨rfl, hd⟩; replace hQ := hQ.drawn hd; clear hd; obtain ⟨⟨r0, r1, r2, r3, r4, r5⟩, g0, g1, g2, g3, g4, g5⟩ := hQ.cells; have hP := hQ.put mn1 N ⟨#[]⟩) | (go_at_call 52; refine (cV _).mono ?_; clear hQ r0 r1 r2 r3 r4 r5 g0 g1 g2 g3 g4 g5; rintro e w4 ⟨rfl, hd⟩; replace hP := hP.drawn hd; clear hd; obtain ⟨⟨r0, r1, r2, r3, r4, r5⟩, ⟨g0, g1, g2, g3, g4, g5⟩, k0, k1, k2, k3, k4, k5⟩ := hP.cells))
        all_goals
          first
          | (refine (fun (hE : (me != 0) = true) => ?_) ?_; rotate_left; assumption; refine bodyPost_ret (v := .tuple #[headV ⟨#[]⟩ ⟨#[]⟩ 0, .int .i64 me]) (by simp [results, Tryd.results23, go_sem, headV, headC, headR, *]) rfl ⟨statEnd_me hE, ?_⟩; exact ((((((hQ.b.setCell (p := ⟨w.heap.size, 0, none⟩) (Nat.le_refl _) _).setCell (p := ⟨w.heap.size, 1, none⟩) (Nat.le_refl _) _).setCell (p := ⟨w.heap.size, 2, none⟩) (Nat.le_refl _) _).setCell (p := ⟨w.heap.size, 3, none⟩) (Nat.le_refl _) _).setCell (p := ⟨w.heap.size, 4, none⟩) (Nat.le_refl _) _).setCell (p := ⟨w.heap.size, 5, none⟩) (Nat.le_refl _) _))
          | (refine (fun (hE : (me != 0) = false) => ?_) ?_; rotate_left; assumption; refine (fun (hN : N < 100 ∨ 599 < N) => ?_) ?_; rotate_left; omega; refine bodyPost_ret (v := .tuple #[headV ⟨#[]⟩ ⟨#[]⟩ 0, .int .i64 12]) (by simp [results, Tryd.results23, go_sem, headV, headC, headR, *]) rfl ⟨statEnd_n hE hN, ?_⟩; exact ((((((hQ.b.setCell (p := ⟨w.heap.size, 0, none⟩) (Nat.le_refl _) _).setCell (p := ⟨w.heap.size, 1, none⟩) (Nat.le_refl _) _).setCell (p := ⟨w.heap.size, 2, none⟩) (Nat.le_refl _) _).setCell (p := ⟨w.heap.size, 3, none⟩) (Nat.le_refl _) _).setCell (p := ⟨w.heap.size, 4, none⟩) (Nat.le_refl _) _).setCell (p := ⟨w.heap.size, 5, none⟩) (Nat.le_refl _) _))
          | (refine (fun (hE : (me != 0) = false) => ?_) ?_; rotate_left; assumption; refine (fun (hN : ¬ N < 100) => ?_) ?_; rotate_left; omega; refine (fun (hM : ¬ 599 < N) => ?_) ?_; rotate_left; omega; refine bodyPost_ret (v := .tuple #[headV ⟨#[]⟩ ⟨#[]⟩ 0, .int .i64 7]) (by simp [results, Tryd.results23, go_sem, headV, headC, headR, *]) rfl ⟨statEnd_v hE hN hM rfl, ?_⟩; exact ((((((hP.b.setCell (p := ⟨w.heap.size, 0, none⟩) (Nat.le_refl _) _).setCell (p := ⟨w.heap.size, 1, none⟩) (Nat.le_refl _) _).setCell (p := ⟨w.heap.size, 2, none⟩) (Nat.le_refl _) _).setCell (p := ⟨w.heap.size, 3, none⟩) (Nat.le_refl _) _).setCell (p := ⟨w.heap.size, 4, none⟩) (Nat.le_refl _) _).setCell (p := ⟨w.heap.size, 5, none⟩) (Nat.le_refl _) _))
          | (refine (fun (hE : (me != 0) = false) => ?_) ?_; rotate_left; assumption; refine (fun (hN : ¬ N < 100) => ?_) ?_; rotate_left; omega; refine (fun (hM : ¬ 599 < N) => ?_) ?_; rotate_left; omega; refine bodyPost_ret (v := .tuple #[headR mn1 N ⟨#[]⟩, .int .i64 0]) (by simp [results, Tryd.results23, go_sem, headV, headC, headR, *]) rfl ⟨statEnd_ok hE hN hM rfl, ?_⟩; exact ((((((hP.b.setCell (p := ⟨w.heap.size, 0, none⟩) (Nat.le_refl _) _).setCell (p := ⟨w.heap.size, 1, none⟩) (Nat.le_refl _) _).setCell (p := ⟨w.heap.size, 2, none⟩) (Nat.le_refl _) _).setCell (p := ⟨w.heap.size, 3, none⟩) (Nat.le_refl _) _).setCell (p := ⟨w.heap.size, 4, none⟩) (Nat.le_refl _) _).setCell (p := ⟨w.heap.size, 5, none⟩) (Nat.le_refl _) _))
  · subst hrs
    clear hshort
    rcases hcut2 with h14 | ⟨h14, e12'⟩
    · exfalso; omega
    · have e12 := e12' h14
      clear e12'
      cases vb
      all_goals
        go_wp2_with (first | (go_at_call 49; refine (cF _).mono ?_; clear r0 r1 r2 r3 r4 r5 g0 g1 g2 g3 g4 g5; rintro e w2 ⟨rfl, hd⟩; replace hQ := hQ.drawn hd; clear hd; obtain ⟨⟨r0, r1, r2, r3, r4, r5⟩, g0, g1, g2, g3, g4, g5⟩ := hQ.cells) | (go_at_call 51; refine (cD _ _).mono ?_; clear r0 r1 r2 r3 r4 r5 g0 g1 g2 g3 g4 g5; rintro e w2 ⟨rfl, hd⟩; replace hQ := hQ.drawn hd; clear hd; obtain ⟨⟨r0, r1, r2, r3, r4, r5⟩, g0, g1, g2, g3, g4, g5⟩ := hQ.cells) | (go_at_call 19; refine (cM _).mono ?_; clear r0 r1 r2 r3 r4 r5 g0 g1 g2 g3 g4 g5; rintro e w2 ⟨rfl, hd⟩; replace hQ := hQ.below hd; clear hd; obtain ⟨⟨r0, r1, r2, r3, r4, r5⟩, g0, g1, g2, g3, g4, g5⟩ := hQ.cells) | (go_at_call 35; refine (cN _).mono ?_; clear r0 r1 r2 r3 r4 r5 g0 g1 g2 g3 g4 g5; rintro e w2 ⟨rfl, hd⟩; replace hQ := hQ.drawn hd; clear hd; obtain ⟨⟨r0, r1, r2, r3, r4, r5⟩, g0, g1, g2, g3, g4, g5⟩ := hQ.cells; have hP := hQ.put mn1 N (s.extract 13 s.size)) | (go_at_call 52; refine (cV _).mono ?_; clear hQ r0 r1 r2 r3 r4 r5 g0 g1 g2 g3 g4 g5; rintro e w4 ⟨rfl, hd⟩; replace hP := hP.drawn hd; clear hd; obtain ⟨⟨r0, r1, r2, r3, r4, r5⟩, ⟨g0, g1, g2, g3, g4, g5⟩, k0, k1, k2, k3, k4, k5⟩ := hP.cells))
        all_goals
          first
          | (refine (fun (hE : (me != 0) = true) => ?_) ?_; rotate_left; assumption; refine bodyPost_ret (v := .tuple #[headV ⟨#[]⟩ ⟨#[]⟩ 0, .int .i64 me]) (by simp [results, Tryd.results23, go_sem, headV, headC, headR, *]) rfl ⟨statEnd_me hE, ?_⟩; exact ((((((hQ.b.setCell (p := ⟨w.heap.size, 0, none⟩) (Nat.le_refl _) _).setCell (p := ⟨w.heap.size, 1, none⟩) (Nat.le_refl _) _).setCell (p := ⟨w.heap.size, 2, none⟩) (Nat.le_refl _) _).setCell (p := ⟨w.heap.size, 3, none⟩) (Nat.le_refl _) _).setCell (p := ⟨w.heap.size, 4, none⟩) (Nat.le_refl _) _).setCell (p := ⟨w.heap.size, 5, none⟩) (Nat.le_refl _) _))
          | (refine (fun (hE : (me != 0) = false) => ?_) ?_; rotate_left; assumption; refine (fun (hN : N < 100 ∨ 599 < N) => ?_) ?_; rotate_left; omega; refine bodyPost_ret (v := .tuple #[headV ⟨#[]⟩ ⟨#[]⟩ 0, .int .i64 12]) (by simp [results, Tryd.results23, go_sem, headV, headC, headR, *]) rfl ⟨statEnd_n hE hN, ?_⟩; exact ((((((hQ.b.setCell (p := ⟨w.heap.size, 0, none⟩) (Nat.le_refl _) _).setCell (p := ⟨w.heap.size, 1, none⟩) (Nat.le_refl _) _).setCell (p := ⟨w.heap.size, 2, none⟩) (Nat.le_refl _) _).setCell (p := ⟨w.heap.size, 3, none⟩) (Nat.le_refl _) _).setCell (p := ⟨w.heap.size, 4, none⟩) (Nat.le_refl _) _).setCell (p := ⟨w.heap.size, 5, none⟩) (Nat.le_refl _) _))
          | (refine (fun (hE : (me != 0) = false) => ?_) ?_; rotate_left; assumption; refine (fun (hN : ¬ N < 100) => ?_) ?_; rotate_left; omega; refine (fun (hM : ¬ 599 < N) => ?_) ?_; rotate_left; omega; refine bodyPost_ret (v := .tuple #[headV ⟨#[]⟩ ⟨#[]⟩ 0, .int .i64 7]) (by simp [results, Tryd.results23, go_sem, headV, headC, headR, *]) rfl ⟨statEnd_v hE hN hM rfl, ?_⟩; exact ((((((hP.b.setCell (p := ⟨w.heap.size, 0, none⟩) (Nat.le_refl _) _).setCell (p := ⟨w.heap.size, 1, none⟩) (Nat.le_refl _) _).setCell (p := ⟨w.heap.size, 2, none⟩) (Nat.le_refl _) _).setCell (p := ⟨w.heap.size, 3, none⟩) (Nat.le_refl _) _).setCell (p := ⟨w.heap.size, 4, none⟩) (Nat.le_refl _) _).setCell (p := ⟨w.heap.size, 5, none⟩) (Nat.le_refl _) _))
          | (refine (fun (hE : (me != 0) = false) => ?_) ?_; rotate_left; assumption; refine (fun (hN : ¬ N < 100) => ?_) ?_; rotate_left; omega; refine (fun (hM : ¬ 599 < N) => ?_) ?_; rotate_left; omega; refine bodyPost_ret (v := .tuple #[headR mn1 N (s.extract 13 s.size), .int .i64 0]) (by simp [results, Tryd.results23, go_sem, headV, headC, headR, *]) rfl ⟨statEnd_ok hE hN hM rfl, ?_⟩; exact ((((((hP.b.setCell (p := ⟨w.heap.size, 0, none⟩) (Nat.le_refl _) _).setCell (p := ⟨w.heap.size, 1, none⟩) (Nat.le_refl _) _).setCell (p := ⟨w.heap.size, 2, none⟩) (Nat.le_refl _) _).setCell (p := ⟨w.heap.size, 3, none⟩) (Nat.le_refl _) _).setCell (p := ⟨w.heap.size, 4, none⟩) (Nat.le_refl _) _).setCell (p := ⟨w.heap.size, 5, none⟩) (Nat.le_refl _) _))
end Go.Proofs.YtdbokcgjdkbknaaDoor.PSa
