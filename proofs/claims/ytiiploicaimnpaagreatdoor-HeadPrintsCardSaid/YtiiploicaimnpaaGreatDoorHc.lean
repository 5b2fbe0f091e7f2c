/- Hand walks: package lines. | Hand walk: (*lines.Lines).Feed, Whole, Line, Within, New. | Hand walk: (*lines.Lines).Whole, Line, Within, New. | Plain: what a head's parser holds, octet by octet. | Hand walks: head's Parser: what it keeps in memory; a line that is whole. | Hand walk: (*head.Parser).line. -/
import Derived.Test.YtiiploicaimnpaaGreatDoorHa
import Derived.Lib.Hide
import Derived.IntWalk
import Derived.WalkKit
import Derived.Shelf.Abstract
import Derived.BigCall
import Derived.Test.YtiiploicaimnpaaGreatDoorHb
namespace Go.Proofs.YtiiploicaimnpaaGreatDoor.Hand
open Go.RowKit Go.Proofs.YtiiploicaimnpaaGreatDoorW.PrintWords Go.Proofs.YtiiploicaimnpaaGreatDoorW.PrintLast Go.Proofs.YtiiploicaimnpaaGreatDoorW.PrintMore
set_option linter.unusedVariables false
set_option linter.unusedSimpArgs false
/-- What a taker of lines holds. -/
structure LS where
  left : Int
  spent : Int
  line : List Int
  within : Bool
  turn : Bool
  whole : Bool
  e : Int
def LS.ok (s : LS) : Prop := 0 ≤ s.left ∧ (s.line.length : Int) ≤ s.spent ∧ s.left + s.spent ≤ 65536
def lcells (s : LS) (v : Value) : Array Value := #[.int .i64 s.left, .int .i64 s.spent, v, .bool s.within, .bool s.turn, .bool s.whole, .int .i64 s.e]
structure LAt (W : World) (b : Nat) (S : Nat → Prop) (s : LS) : Prop where
  ok : s.ok
  own : S b
  ex : ∃ v, W.heap[b]? = some (.cells (lcells s v) 123 (0, 0)) ∧ Kd.R (Kd.int .u8) 5 W 0 S v s.line
theorem LAt.wide {W : World} {b : Nat} {S T : Nat → Prop} {s : LS} (h : LAt W b S s) (hs : ∀ k, S k → T k) : LAt W b T s := by
  obtain ⟨h1, h2, v, h3, h4⟩ := h
  exact ⟨h1, hs _ h2, v, h3, Kd.R_mono h4 hs⟩
theorem LAt.kept {W W' : World} {b : Nat} {S T : Nat → Prop} {s : LS} (h : LAt W b S s) (hf : Fr T W W') (hn : ∀ k, S k → ¬ T k) : LAt W' b S s := by
  obtain ⟨h1, h2, v, h3, h4⟩ := h
  exact ⟨h1, h2, v, hf.blk h3 (hn _ h2), Kd.R_kept h4 hf.1 hn⟩
/-- One octet seen. -/
def seeS (s : LS) (c : Int) : Int × LS :=
  if s.left = 0 then (4, s)
  else if s.turn ≠ decide (c = 10) then (8, s)
  else if c = 13 then (0, { s with left := s.left - 1, spent := s.spent + 1, within := !s.whole, turn := true })
  else if c = 10 then (0, { s with left := s.left - 1, spent := s.spent + 1, within := false, turn := false, whole := true })
  else (0, { s with left := s.left - 1, spent := s.spent + 1, line := s.line ++ [c], within := !s.whole })
theorem Fr.old {S : Nat → Prop} {A B : World} (h : Fr (fun k => S k ∨ A.heap.size ≤ k) A B) : Fr S A B := ⟨⟨h.1.1, fun i hi hn => h.1.2 i hi (fun k => k.elim hn (fun k => by omega))⟩, h.2⟩
theorem info_lu8 : (Tryz.prog.info? 5).map (fun i => (i.zero, i.size, i.bytes)) = some (some (.int .u8 0), 1, 1) := by kernel_rfl
theorem u8_ne : ∀ q, q ∈ 5 :: (Kd.int .u8).E → q ≠ 123 := by
  intro q hq
  rcases List.mem_cons.1 hq with rfl | hq
  · decide
  · cases hq
/-- A store into the object's own block. -/
theorem lset {W : World} {b : Nat} {S : Nat → Prop} {v : Value} {line : List Int} {cs cs' : Array Value} (h : W.heap[b]? = some (.cells cs 123 (0, 0)) ∧ Kd.R (Kd.int .u8) 5 W 0 S v line) (j : Nat) (u : Value) (e : cs.setIfInBounds j u = cs') :
    (W.setCell ⟨b, j, none⟩ u).heap[b]? = some (.cells cs' 123 (0, 0)) ∧ Kd.R (Kd.int .u8) 5 (W.setCell ⟨b, j, none⟩ u) 0 S v line := ⟨blk_put h.1 j u e, Kd.R_set h.2 h.1 u8_ne j u⟩
set_option maxHeartbeats 1000000 in
set_option maxRecDepth 100000 in
theorem see_calls (b : Nat) (S : Nat → Prop) (s : LS) (c : Int) (W : World) (hc0 : 0 ≤ c) (hc1 : c ≤ 255) (h : LAt W b S s) (hS : ∀ k, W.heap.size ≤ k → S k) :
    Calls Tryz.prog 106 #[.pointer (some ⟨b, 0, none⟩), .int .u8 c] W fun x W' => x = .returned (.int .i64 (seeS s c).1) ∧ LAt W' b S (seeS s c).2 ∧ Fr S W W' := by
  obtain ⟨hok, hb, v, hblk, hR⟩ := h
  obtain ⟨left, spent, line, within, turn, whole, e⟩ := s
  obtain ⟨k0, k1, k2⟩ := hok
  dsimp only at k0 k1 k2 hR
  have d0 : W.cell? ⟨b, 0, none⟩ = some (.int .i64 left) := blk_cell hblk 0
  have d1 : W.cell? ⟨b, 1, none⟩ = some (.int .i64 spent) := blk_cell hblk 1
  have d2 : W.cell? ⟨b, 2, none⟩ = some v := blk_cell hblk 2
  have d3 : W.cell? ⟨b, 3, none⟩ = some (.bool within) := blk_cell hblk 3
  have d4 : W.cell? ⟨b, 4, none⟩ = some (.bool turn) := blk_cell hblk 4
  have d5 : W.cell? ⟨b, 5, none⟩ = some (.bool whole) := blk_cell hblk 5
  have g0 : W.frozen? ⟨b, 0, none⟩ = false := blk_frozen hblk 0
  have g1 : W.frozen? ⟨b, 1, none⟩ = false := blk_frozen hblk 1
  have g2 : W.frozen? ⟨b, 2, none⟩ = false := blk_frozen hblk 2
  have g3 : W.frozen? ⟨b, 3, none⟩ = false := blk_frozen hblk 3
  have g4 : W.frozen? ⟨b, 4, none⟩ = false := blk_frozen hblk 4
  have g5 : W.frozen? ⟨b, 5, none⟩ = false := blk_frozen hblk 5
  have hblkH := Lib.hid hblk
  have hRH := Lib.hid hR
  clear hblk hR
  have w0 : wrap64 (left - 1) = left - 1 := by first | exact IntWalk.wrap64_in _ ⟨by omega, by omega⟩ | (unfold wrap64; omega)
  have w1 : wrap64 (spent + 1) = spent + 1 := by first | exact IntWalk.wrap64_in _ ⟨by omega, by omega⟩ | (unfold wrap64; omega)
  unfold seeS
  dsimp only
  by_cases hl : left = 0
  · subst hl
    rw [if_pos rfl]
    go_enter Tryz.func106, Tryz.ntmps106
    go_wp2
    go_ret
    exact ⟨rfl, ⟨⟨k0, k1, k2⟩, hb, v, hblkH.out, hRH.out⟩, Fr.refl _ _⟩
  · rw [if_neg hl]
    have hl2 : (left == 0) = false := by simpa using hl
    cases turn
    · by_cases hc : c = 10
      · subst hc
        rw [if_pos (by decide)]
        go_enter Tryz.func106, Tryz.ntmps106
        go_wp2
        go_ret
        exact ⟨rfl, ⟨⟨k0, k1, k2⟩, hb, v, hblkH.out, hRH.out⟩, Fr.refl _ _⟩
      · rw [if_neg (by simp [hc])]
        have hc2 : (c == 10) = false := by simpa using hc
        by_cases hc3 : c = 13
        · subst hc3
          rw [if_pos rfl]
          go_enter Tryz.func106, Tryz.ntmps106
          go_wp2
          go_ret
          exact ⟨rfl, ⟨⟨by simp only; omega, by simp only; omega, by simp only; omega⟩, hb, v, lset (lset (lset (lset ⟨hblkH.out, hRH.out⟩ 4 _ rfl) 0 _ rfl) 1 _ rfl) 3 _ rfl⟩, ((((Fr.refl S W).setCell (p := ⟨b, 4, none⟩) (.inl hb) _).setCell (p := ⟨b, 0, none⟩) (.inl hb) _).setCell (p := ⟨b, 1, none⟩) (.inl hb) _).setCell (p := ⟨b, 3, none⟩) (.inl hb) _⟩
        · rw [if_neg hc3, if_neg hc]
          have hc4 : (c == 13) = false := by simpa using hc3
          go_enter Tryz.func106, Tryz.ntmps106
          go_wp2_with (at_builtin; refine Kd.R_append (Kd.int .u8) (w0 := W) 0 rfl (.tmp 9) (.tmp 11) 88 5 (.int .u8 0) 1 rfl Tryz.underlying88 info_lu8 rfl (by decide) (by omega) v line c [.int .u8 c] S (fun _ => False) rfl rfl ?aP (fun _ hk => hk.elim) ?aF hRH.out ?aB ?aS ?aL ?_; (case aP => exact rfl); (case aF => exact hS); (case aB => exact Below.refl _ _); (case aS => exact Nat.zero_le _); (case aL => omega); intro v1 w1 ho hb1 hg hat; obtain ⟨A1, cp1, rfl⟩ := Kd.R_slice ho; have hne := Kd.R_ne hRH.out hblkH.out (by decide); have hb2 := blk_grown hblkH.out hg hne; clear d0 d1 d2 d3 d4 d5 g0 g1 g2 g3 g4 g5; have d0 : w1.cell? ⟨b, 0, none⟩ = some (.int .i64 left) := blk_cell hb2 0; have d1 : w1.cell? ⟨b, 1, none⟩ = some (.int .i64 spent) := blk_cell hb2 1; have d3 : w1.cell? ⟨b, 3, none⟩ = some (.bool within) := blk_cell hb2 3; have d5 : w1.cell? ⟨b, 5, none⟩ = some (.bool whole) := blk_cell hb2 5; have d2 : w1.cell? ⟨b, 2, none⟩ = some v := blk_cell hb2 2; have g0 : w1.frozen? ⟨b, 0, none⟩ = false := blk_frozen hb2 0; have g1 : w1.frozen? ⟨b, 1, none⟩ = false := blk_frozen hb2 1; have g2 : w1.frozen? ⟨b, 2, none⟩ = false := blk_frozen hb2 2; have g3 : w1.frozen? ⟨b, 3, none⟩ = false := blk_frozen hb2 3; have hb3 := Lib.hid hb2; have hgH := Lib.hid hg; have hatH := Lib.hid hat; have hoH := Lib.hid ho; clear hb2 hg hat ho hne)
          go_ret
          have hfr : Fr S W w1 := (Fr.refl S W).grown hgH.out hb1 (fun k hk => .inl (hRH.out.1 k hk))
          exact ⟨rfl, ⟨⟨by simp only; omega, by simp only [List.length_append, List.length_singleton]; omega, by simp only; omega⟩, hb, _, lset (lset (lset (lset ⟨hb3.out, hoH.out⟩ 2 _ rfl) 0 _ rfl) 1 _ rfl) 3 _ (by simp [lcells])⟩, (((hfr.setCell (p := ⟨b, 2, none⟩) (.inl hb) _).setCell (p := ⟨b, 0, none⟩) (.inl hb) _).setCell (p := ⟨b, 1, none⟩) (.inl hb) _).setCell (p := ⟨b, 3, none⟩) (.inl hb) _⟩
    · by_cases hc : c = 10
      · subst hc
        rw [if_neg (by decide), if_neg (by decide), if_pos rfl]
        go_enter Tryz.func106, Tryz.ntmps106
        go_wp2
        go_ret
        exact ⟨rfl, ⟨⟨by simp only; omega, by simp only; omega, by simp only; omega⟩, hb, v, lset (lset (lset (lset (lset ⟨hblkH.out, hRH.out⟩ 4 _ rfl) 5 _ rfl) 0 _ rfl) 1 _ rfl) 3 _ rfl⟩, (((((Fr.refl S W).setCell (p := ⟨b, 4, none⟩) (.inl hb) _).setCell (p := ⟨b, 5, none⟩) (.inl hb) _).setCell (p := ⟨b, 0, none⟩) (.inl hb) _).setCell (p := ⟨b, 1, none⟩) (.inl hb) _).setCell (p := ⟨b, 3, none⟩) (.inl hb) _⟩
      · rw [if_pos (by simp [hc])]
        have hc2 : (c == 10) = false := by simpa using hc
        go_enter Tryz.func106, Tryz.ntmps106
        go_wp2
        go_ret
        exact ⟨rfl, ⟨⟨k0, k1, k2⟩, hb, v, hblkH.out, hRH.out⟩, Fr.refl _ _⟩
end Go.Proofs.YtiiploicaimnpaaGreatDoor.Hand
namespace Go.Proofs.YtiiploicaimnpaaGreatDoor.Hand
open Go.RowKit Go.Proofs.YtiiploicaimnpaaGreatDoorW.PrintWords Go.Proofs.YtiiploicaimnpaaGreatDoorW.PrintLast Go.Proofs.YtiiploicaimnpaaGreatDoorW.PrintMore
set_option linter.unusedVariables false
set_option linter.unusedSimpArgs false
def LS.setE (s : LS) (e : Int) : LS := { s with e := e }
/-- Octets fed. -/
def feedL (s : LS) : List Int → Int × LS
  | [] => (0, s)
  | c :: l => if s.whole = false ∧ s.e = 0 then if (seeS s c).1 = 0 then ((feedL ((seeS s c).2.setE (seeS s c).1) l).1 + 1, (feedL ((seeS s c).2.setE (seeS s c).1) l).2) else (0, (seeS s c).2.setE (seeS s c).1) else (0, s)
theorem feedL_stop {s : LS} (h : ¬ (s.whole = false ∧ s.e = 0)) (l : List Int) : feedL s l = (0, s) := by
  cases l with
  | nil => rfl
  | cons c l => rw [feedL, if_neg h]
theorem feedL_ok {s : LS} (h : s.whole = false ∧ s.e = 0) {c : Int} (h2 : (seeS s c).1 = 0) (l : List Int) : feedL s (c :: l) = ((feedL ((seeS s c).2.setE (seeS s c).1) l).1 + 1, (feedL ((seeS s c).2.setE (seeS s c).1) l).2) := by rw [feedL, if_pos h, if_pos h2]
theorem feedL_bad {s : LS} (h : s.whole = false ∧ s.e = 0) {c : Int} (h2 : ¬ (seeS s c).1 = 0) (l : List Int) : feedL s (c :: l) = (0, (seeS s c).2.setE (seeS s c).1) := by rw [feedL, if_pos h, if_neg h2]
def eBit (b : Nat) (w : World) : Nat := match w.cell? ⟨b, 6, none⟩ with
  | some (.int .i64 e) => if e = 0 then 1 else 0
  | _ => 0
theorem LAt.cells {W : World} {b : Nat} {S : Nat → Prop} {s : LS} (h : LAt W b S s) : W.cell? ⟨b, 5, none⟩ = some (.bool s.whole) ∧ W.cell? ⟨b, 6, none⟩ = some (.int .i64 s.e) ∧ W.frozen? ⟨b, 6, none⟩ = false ∧ W.frozen? ⟨b, 5, none⟩ = false ∧ W.cell? ⟨b, 3, none⟩ = some (.bool s.within) := by
  obtain ⟨_, _, v, hb, _⟩ := h
  exact ⟨blk_cell hb 5, blk_cell hb 6, blk_frozen hb 6, blk_frozen hb 5, blk_cell hb 3⟩
theorem LAt.put {W : World} {b : Nat} {S : Nat → Prop} {s : LS} (h : LAt W b S s) (e : Int) : LAt (W.setCell ⟨b, 6, none⟩ (.int .i64 e)) b S (s.setE e) := by
  obtain ⟨h1, h2, v, h3⟩ := h
  exact ⟨h1, h2, v, lset h3 6 _ rfl⟩
theorem LAt.drew {W : World} {b : Nat} {S : Nat → Prop} {s : LS} (h : LAt W b S s) : LAt W.drew b S s := by
  obtain ⟨h1, h2, v, h3, h4⟩ := h
  exact ⟨h1, h2, v, blk_drew h3, Kd.R_drew h4⟩
theorem LAt.bit {W : World} {b : Nat} {S : Nat → Prop} {s : LS} (h : LAt W b S s) : eBit b W = if s.e = 0 then 1 else 0 := by
  unfold eBit
  rw [h.cells.2.1]
theorem bytes_at (t : ByteArray) (u : Nat) (h : u < t.size) : (bytesOf t).drop u = ((t[u]'h).toNat : Int) :: (bytesOf t).drop (u + 1) := by
  have hl : u < (bytesOf t).length := by rw [bytesOf_length]; exact h
  rw [List.drop_eq_getElem_cons hl]
  congr 1
  simp [bytesOf]
  rfl
set_option maxHeartbeats 1000000 in
set_option maxRecDepth 100000 in
theorem Feed_calls (b : Nat) (S : Nat → Prop) (s : LS) (t : ByteArray) (W : World) (ht : t.size ≤ 140737488355328) (h : LAt W b S s) (hS : ∀ k, W.heap.size ≤ k → S k) :
    Calls Tryz.prog 63 #[.pointer (some ⟨b, 0, none⟩), .string t] W fun x W' => x = .returned (.tuple #[.int .i64 (feedL s (bytesOf t)).1, .int .i64 (feedL s (bytesOf t)).2.e]) ∧ LAt W' b S (feedL s (bytesOf t)).2 ∧ Fr S W W' := by
  obtain ⟨R, hR⟩ : ∃ R, feedL s (bytesOf t) = R := ⟨_, rfl⟩
  rw [hR]
  have hR' := Lib.hid hR
  have hH := Lib.hid h
  have eg := enters_of Tryz.func106 (by kernel_rfl) rfl
  clear hR h
  go_enter Tryz.func63, Tryz.ntmps63
  go_wp2
  go_loopw [4] (fun vu wr => ∃ (u : Nat) (s1 : LS), u ≤ t.size ∧ vu = .int .i64 u ∧ Hid (LAt wr b S s1) ∧ Hid (Fr S W wr) ∧ Hid (((feedL s1 ((bytesOf t).drop u)).1 + u, (feedL s1 ((bytesOf t).drop u)).2) = R)) (fun vu wr => 2 * (t.size - (intOf vu).toNat) + eBit b wr)
  case atStart => exact ⟨0, s, Nat.zero_le _, rfl, hH, Lib.hid (Fr.refl _ _), Lib.hid (by rw [← hR'.out]; simp)⟩
  case round =>
    clear hR'
    obtain ⟨u, s1, hu, rfl, hA, hF, hI⟩ := hrel
    obtain ⟨d5, d6, g6, g5, d3⟩ := hA.out.cells
    have hbit := Lib.hid hA.out.bit
    have hS1 : ∀ k, wr.heap.size ≤ k → S k := fun k hk => hS k (Nat.le_trans hF.out.size hk)
    by_cases hlt : u < t.size
    · by_cases hg : s1.whole = false ∧ s1.e = 0
      · have hI2 := hI.out
        rw [bytes_at t u hlt] at hI2
        have hc0 : (0 : Int) ≤ ((t[u]'hlt).toNat : Int) := by omega
        have hc1 : ((t[u]'hlt).toNat : Int) ≤ 255 := by have := (t[u]'hlt).toNat_lt; omega
        have cS := fun W => see_calls b S s1 ((t[u]'hlt).toNat : Int) W hc0 hc1
        obtain ⟨c, hc⟩ : ∃ c, ((t[u]'hlt).toNat : Int) = c := ⟨_, rfl⟩
        rw [hc] at hI2 cS
        obtain ⟨hg1, hg2⟩ := hg
        rw [hg1] at d5
        rw [hg2] at d6
        have hI3 := Lib.hid hI2
        have hg3 := Lib.hid hg1
        have hg4 := Lib.hid hg2
        clear hI hI2 hg1 hg2
        go_wp2_with (go_at_fn 106; fail)
        refine (cS _ hA.out hS1).mono ?_
        clear d5 d6 g6 g5 d3
        rintro x W' ⟨rfl, hA2, hF2⟩
        obtain ⟨d5, d6, g6, g5, d3⟩ := hA2.cells
        have hA3 := Lib.hid (hA2.put (seeS s1 c).1)
        have hF3 := Lib.hid (hF.out.trans (hF2.setCell (p := ⟨b, 6, none⟩) (.inl hA2.own) (.int .i64 (seeS s1 c).1)))
        clear hA2 hF2
        by_cases he : (seeS s1 c).1 = 0
        · have he2 : ((seeS s1 c).1 == 0) = true := by simpa using he
          have hwu : wrap64 ((u : Int) + 1) = ((u + 1 : Nat) : Int) := by rw [IntWalk.wrap64_in _ ⟨by omega, by omega⟩]; omega
          have heH := Lib.hid he
          clear he
          go_wp2
          go_roundw
          case rel =>
            refine ⟨u + 1, _, by omega, rfl, hA3, hF3, Lib.hid ?_⟩
            have := hI3.out
            rw [feedL_ok ⟨hg3.out, hg4.out⟩ heH.out] at this
            rw [← this]
            simp only [Prod.mk.injEq, and_true]
            omega
          case measure =>
            rw [hA3.out.bit, hbit.out, if_pos hg4.out]
            simp [intOf]
            split <;> omega
        · have he2 : ((seeS s1 c).1 == 0) = false := by simpa using he
          have heH := Lib.hid he
          clear he
          go_wp2
          go_roundw
          case rel =>
            refine ⟨u, _, by omega, rfl, hA3, hF3, Lib.hid ?_⟩
            have := hI3.out
            rw [feedL_bad ⟨hg3.out, hg4.out⟩ heH.out] at this
            rw [feedL_stop (by intro h; exact heH.out h.2), ← this]
          case measure =>
            have hz : ((seeS s1 c).2.setE (seeS s1 c).1).e = (seeS s1 c).1 := rfl
            rw [hA3.out.bit, hbit.out, if_pos hg4.out, hz, if_neg heH.out]
            simp [intOf]
      · have hI2 := hI.out
        rw [feedL_stop hg] at hI2
        have hI3 := Lib.hid hI2
        clear hI hI2
        by_cases hw : s1.whole = false
        · have he : (s1.e == 0) = false := by
            rw [beq_eq_false_iff_ne]
            exact fun h => hg ⟨hw, h⟩
          rw [hw] at d5
          clear hw hg
          go_wp2
          go_region
          go_wp2
          go_ret2
          have hR := hI3.out
          subst hR
          exact ⟨by simp, hA.out.drew, hF.out.drew⟩
        · have hw2 : s1.whole = true := by simpa using hw
          rw [hw2] at d5
          clear hw hw2 hg
          go_wp2
          go_region
          go_wp2
          go_ret2
          have hR := hI3.out
          subst hR
          exact ⟨by simp, hA.out.drew, hF.out.drew⟩
    · have hI2 := hI.out
      rw [List.drop_of_length_le (by rw [bytesOf_length]; omega)] at hI2
      have hI3 := Lib.hid hI2
      have hn : ¬ (u : Int) < (t.size : Int) := by omega
      clear hI hI2
      go_wp2
      go_region
      go_wp2
      go_ret2
      have hR := hI3.out
      subst hR
      exact ⟨by simp [feedL], hA.out.drew, hF.out.drew⟩
end Go.Proofs.YtiiploicaimnpaaGreatDoor.Hand
namespace Go.Proofs.YtiiploicaimnpaaGreatDoor.Hand
open Go.RowKit Go.Proofs.YtiiploicaimnpaaGreatDoorW.PrintWords Go.Proofs.YtiiploicaimnpaaGreatDoorW.PrintLast Go.Proofs.YtiiploicaimnpaaGreatDoorW.PrintMore
set_option linter.unusedVariables false
set_option linter.unusedSimpArgs false
theorem LAt.next {W W' : World} {b : Nat} {S : Nat → Prop} {s : LS} (h : LAt W b S s) (hb : Below W.heap.size W W') : LAt W' b S s := by
  obtain ⟨h1, h2, v, h3, h4⟩ := h
  exact ⟨h1, h2, v, blk_below h3 hb, Kd.R_below h4 hb⟩
theorem Whole_calls (b : Nat) (S : Nat → Prop) (s : LS) (W : World) (h : LAt W b S s) :
    Calls Tryz.prog 64 #[.pointer (some ⟨b, 0, none⟩)] W fun x W' => x = .returned (.bool s.whole) ∧ Below W.heap.size W W' := by
  obtain ⟨d5, d6, g6, g5, d3⟩ := h.cells
  clear h
  go_enter Tryz.func64, Tryz.ntmps64
  go_wp2
  go_ret
  exact ⟨rfl, by first | exact Below.refl _ _ | exact below_drew (Below.refl _ _)⟩
set_option maxHeartbeats 1000000 in
theorem Line_calls (b : Nat) (S : Nat → Prop) (s : LS) (W : World) (h : LAt W b S s) (hw : s.whole = true) :
    Calls Tryz.prog 66 #[.pointer (some ⟨b, 0, none⟩)] W fun x W' => x = .returned (.string (strOfNums s.line)) ∧ LAt W' b S { s with line := [], whole := false } ∧ Fr S W W' := by
  have cW := fun W h => Whole_calls b S s W h
  rw [hw] at cW
  obtain ⟨hok, hb, v, hblk, hR⟩ := h
  obtain ⟨left, spent, line, within, turn, whole, e⟩ := s
  dsimp only at hw hR ⊢
  subst hw
  obtain ⟨k0, k1, k2⟩ := hok
  dsimp only at k0 k1 k2
  obtain ⟨A, cp, rfl, hcp, hC⟩ := Kd.R_reads hR
  have hT := Kd.R_take (m := 0) hR (Nat.zero_le _)
  have hblkH := Lib.hid hblk
  have hRH := Lib.hid hR
  have hCH := Lib.hid hC
  have hTH := Lib.hid hT
  clear hblk hR hC hT
  go_enter Tryz.func66, Tryz.ntmps66
  go_wp2_with (go_at_call 64; refine (cW _ ⟨⟨k0, k1, k2⟩, hb, _, hblkH.out, hRH.out⟩).mono ?_; rintro x W1 ⟨rfl, hB⟩; have hb1 := blk_below hblkH.out hB; have d2 : W1.cell? ⟨b, 2, none⟩ = some (.slice A line.length cp) := blk_cell hb1 2; have d5 : W1.cell? ⟨b, 5, none⟩ = some (.bool true) := blk_cell hb1 5; have g2 : W1.frozen? ⟨b, 2, none⟩ = false := blk_frozen hb1 2; have g5 : W1.frozen? ⟨b, 5, none⟩ = false := blk_frozen hb1 5; have hcv := Kd.C_string Tryz.underlying88 Tryz.underlying5 Tryz.underlying9 (c := cp) (Kd.C_below hCH.out hB))
  go_ret
  have hT2 := Kd.R_below hTH.out hB
  rw [List.take_zero] at hT2
  refine ⟨rfl, ⟨⟨k0, by simp only [List.length_nil]; omega, k2⟩, hb, _, lset (lset ⟨hb1, hT2⟩ 2 _ rfl) 5 _ rfl⟩, ((Fr.of_below S hB).setCell (p := ⟨b, 2, none⟩) (.inl hb) _).setCell (p := ⟨b, 5, none⟩) (.inl hb) _⟩
theorem New_none (m : Int) (W : World) (h : m < 0 ∨ 65536 < m) :
    Calls Tryz.prog 44 #[.int .i64 m] W fun x W' => x = .returned (.pointer none) ∧ W' = W := by
  by_cases h0 : m < 0
  · go_enter Tryz.func44, Tryz.ntmps44
    go_wp2
    go_ret
    exact ⟨rfl, rfl⟩
  · have h2 : m > 65536 := by omega
    go_enter Tryz.func44, Tryz.ntmps44
    go_wp2
    go_ret
    exact ⟨rfl, rfl⟩
def newL (m : Int) : LS := ⟨m, 0, [], false, false, false, 0⟩
theorem New_some (m : Int) (W : World) (h0 : ¬ m < 0) (h1 : ¬ m > 65536) :
    Calls Tryz.prog 44 #[.int .i64 m] W fun x W' => x = .returned (.pointer (some ⟨W.heap.size, 0, none⟩)) ∧ W' = W.alloc (.cells (lcells (newL m) (.slice none 0 0)) 123) := by
  go_enter Tryz.func44, Tryz.ntmps44
  go_wp2
  go_ret
  exact ⟨rfl, rfl⟩
end Go.Proofs.YtiiploicaimnpaaGreatDoor.Hand
namespace Go.Proofs.YtiiploicaimnpaaGreatDoor.Hand
open Go.RowKit Go.Proofs.YtiiploicaimnpaaGreatDoorW.PrintWords Go.Proofs.YtiiploicaimnpaaGreatDoorW.PrintLast Go.Proofs.YtiiploicaimnpaaGreatDoorW.PrintMore
set_option linter.unusedVariables false
set_option linter.unusedSimpArgs false
abbrev HeadT := ByteArray × ByteArray × Int × Int × ByteArray × List S85
def noHead : HeadT := (⟨#[]⟩, ⟨#[]⟩, 0, 0, ⟨#[]⟩, [])
structure PS where
  l : LS
  kind : Int
  m0 : Int
  m1 : Int
  m2 : Int
  m3 : Int
  m4 : Int
  all : List ByteArray
  fin : Bool
  h : HeadT
  e : Int
/-- How some lines are parsed: kind, Fields, Fold, lines. -/
abbrev ParseT := Int → Int → Int → List ByteArray → HeadT × Int
/-- A line that is whole. -/
def lineP (F : ParseT) (s : PS) (x : ByteArray) : PS :=
  if ¬ x.size = 0 then { s with all := s.all ++ [x] }
  else if 0 < s.all.length ∨ s.kind = 2 then { s with fin := true, h := (F s.kind s.m1 s.m4 s.all).1, e := (F s.kind s.m1 s.m4 s.all).2 }
  else s
def LS.taken (s : LS) : LS := { s with line := [], whole := false }
def PS.setL (s : PS) (l : LS) : PS := { s with l := l }
def PS.setE (s : PS) (e : Int) : PS := { s with e := e }
/-- Octets fed. -/
def feedO (F : ParseT) (s : PS) : List Int → Int × PS
  | [] => (0, s)
  | c :: t =>
    if s.fin = false ∧ s.e = 0 then
      if (seeS s.l c).1 = 0 then
        if (seeS s.l c).2.whole = true then ((feedO F (lineP F (s.setL ((seeS s.l c).2.setE 0).taken) (strOfNums (seeS s.l c).2.line)) t).1 + 1, (feedO F (lineP F (s.setL ((seeS s.l c).2.setE 0).taken) (strOfNums (seeS s.l c).2.line)) t).2)
        else ((feedO F (s.setL ((seeS s.l c).2.setE 0)) t).1 + 1, (feedO F (s.setL ((seeS s.l c).2.setE 0)) t).2)
      else (0, (s.setL ((seeS s.l c).2.setE (seeS s.l c).1)).setE (seeS s.l c).1)
    else (0, s)
theorem feedO_stop {F : ParseT} {s : PS} (h : ¬ (s.fin = false ∧ s.e = 0)) (t : List Int) : feedO F s t = (0, s) := by
  cases t with
  | nil => rfl
  | cons c t => rw [feedO, if_neg h]
/-- One round of the parser's loop: what the taker of lines takes, and what comes of it. -/
def roundO (F : ParseT) (s : PS) (l : LS) : PS :=
  if l.e = 0 then if l.whole = true then lineP F (s.setL l.taken) (strOfNums l.line) else s.setL l else (s.setL l).setE l.e
theorem roundO_same (F : ParseT) {s : PS} (h3 : s.l.whole = false) (h4 : s.l.e = 0) : roundO F s s.l = s := by
  unfold roundO
  rw [if_pos h4, if_neg (by simp [h3])]
  rfl
theorem seeS_whole (s : LS) (c : Int) (h : ¬ (seeS s c).1 = 0) : (seeS s c).2 = s := by
  unfold seeS at h ⊢
  split
  · rfl
  · split
    · rfl
    · rename_i h1 h2
      rw [if_neg h1, if_neg h2] at h
      split at h
      · exact absurd rfl h
      · split at h <;> exact absurd rfl h
theorem setE_e (s : LS) (e : Int) : (s.setE e).e = e := rfl
theorem setE_whole (s : LS) (e : Int) : (s.setE e).whole = s.whole := rfl
theorem feed_round (F : ParseT) : ∀ (t : List Int) (s : PS), s.fin = false → s.e = 0 → s.l.whole = false → s.l.e = 0 →
    feedO F s t = ((feedL s.l t).1 + (feedO F (roundO F s (feedL s.l t).2) (t.drop (feedL s.l t).1.toNat)).1, (feedO F (roundO F s (feedL s.l t).2) (t.drop (feedL s.l t).1.toNat)).2) ∧ 0 ≤ (feedL s.l t).1 ∧ (feedL s.l t).1 ≤ t.length ∧
      (t ≠ [] → (feedL s.l t).2.e = 0 → 0 < (feedL s.l t).1)
  | [], s, h1, h2, h3, h4 => by
    refine ⟨?_, by simp [feedL], by simp [feedL], by simp⟩
    show (0, s) = (0 + (feedO F (roundO F s s.l) []).1, (feedO F (roundO F s s.l) []).2)
    rw [roundO_same F h3 h4]
    rfl
  | c :: t, s, h1, h2, h3, h4 => by
    have hc : s.fin = false ∧ s.e = 0 := ⟨h1, h2⟩
    by_cases hz : (seeS s.l c).1 = 0
    · rw [feedL_ok ⟨h3, h4⟩ hz, feedO, if_pos hc, if_pos hz]
      rw [hz]
      by_cases hw : (seeS s.l c).2.whole = true
      · rw [if_pos hw]
        rw [feedL_stop (by rw [setE_whole, hw]; simp)]
        refine ⟨?_, by simp, by simp only [List.length_cons]; omega, by simp⟩
        simp only [roundO, setE_e]
        rw [if_pos trivial, setE_whole, if_pos hw]
        simp only [Int.zero_add, Int.toNat_one, List.drop_succ_cons, List.drop_zero]
        refine Prod.ext ?_ rfl
        show _ + 1 = 1 + _
        exact Int.add_comm _ _
      · rw [if_neg hw]
        have hw2 : (seeS s.l c).2.whole = false := by simpa using hw
        obtain ⟨i1, i2, i3, i4⟩ := feed_round F t (s.setL ((seeS s.l c).2.setE 0)) h1 h2 (by exact hw2) rfl
        have e1 : (s.setL ((seeS s.l c).2.setE 0)).l = (seeS s.l c).2.setE 0 := rfl
        rw [e1] at i1 i2 i3 i4
        have e2 : ∀ l, roundO F (s.setL ((seeS s.l c).2.setE 0)) l = roundO F s l := fun l => rfl
        rw [e2] at i1
        refine ⟨?_, by simp only; omega, by simp only [List.length_cons]; omega, fun _ _ => by simp only; omega⟩
        have e3 : ((feedL ((seeS s.l c).2.setE 0) t).1 + 1).toNat = (feedL ((seeS s.l c).2.setE 0) t).1.toNat + 1 := by omega
        simp only
        rw [e3, List.drop_succ_cons, i1]
        refine Prod.ext ?_ rfl
        show _ + _ + 1 = _ + 1 + _
        omega
    · rw [feedL_bad ⟨h3, h4⟩ hz, feedO, if_pos hc, if_neg hz]
      refine ⟨?_, by simp, by simp only [List.length_cons]; omega, fun _ h => absurd h hz⟩
      simp only [roundO, setE_e]
      rw [if_neg hz, feedO_stop (by intro h; exact hz h.2)]
      simp
end Go.Proofs.YtiiploicaimnpaaGreatDoor.Hand
namespace Go.Proofs.YtiiploicaimnpaaGreatDoor.Hand
open Go.RowKit Go.Proofs.YtiiploicaimnpaaGreatDoorW.PrintWords Go.Proofs.YtiiploicaimnpaaGreatDoorW.PrintLast Go.Proofs.YtiiploicaimnpaaGreatDoorW.PrintMore
set_option linter.unusedVariables false
set_option linter.unusedSimpArgs false
def pcells (s : PS) (bl : Nat) (va vf : Value) : Array Value := #[.pointer (some ⟨bl, 0, none⟩), .int .i64 s.kind, .int .i64 s.m0, .int .i64 s.m1, .int .i64 s.m2, .int .i64 s.m3, .int .i64 s.m4, va, .bool s.fin, .string s.h.1, .string s.h.2.1, .int .i64 s.h.2.2.1, .int .i64 s.h.2.2.2.1, .string s.h.2.2.2.2.1, vf, .int .i64 s.e]
/-- A parser in memory, its parts told apart. -/
structure PIn (W : World) (p : Nat) (S : Nat → Prop) (bl : Nat) (Sl So : Nat → Prop) (va vf : Value) (s : PS) : Prop where
  obj : W.heap[p]? = some (.cells (pcells s bl va vf) 80 (0, 0))
  lin : LAt W bl Sl s.l
  rall : Kd.R Kd.string 9 W 0 So va s.all
  rfld : Kd.R k85 85 W 0 So vf s.h.2.2.2.2.2
  own : S p
  lt : ∀ k, S k → k < W.heap.size
  sl : ∀ k, Sl k → S k ∧ k ≠ p ∧ ¬ So k
  so : ∀ k, So k → S k ∧ k ≠ p
theorem LAt.bound {W : World} {b : Nat} {S : Nat → Prop} {s : LS} (h : LAt W b S s) : LAt W b (fun k => S k ∧ k < W.heap.size) s := by
  obtain ⟨h1, h2, v, h3, h4⟩ := h
  exact ⟨h1, ⟨h2, blk_lt h3⟩, v, h3, Kd.R_mono (Kd.R_bound h4) (fun k hk => ⟨hk.1, hk.2.2.1⟩)⟩
theorem PIn.next {W W' : World} {p : Nat} {S : Nat → Prop} {bl : Nat} {Sl So : Nat → Prop} {va vf : Value} {s : PS} (h : PIn W p S bl Sl So va vf s) (hb : Below W.heap.size W W') : PIn W' p S bl Sl So va vf s :=
  ⟨blk_below h.obj hb, h.lin.next hb, Kd.R_below h.rall hb, Kd.R_below h.rfld hb, h.own, fun k hk => Nat.lt_of_lt_of_le (h.lt k hk) hb.size, h.sl, h.so⟩
/-- The taker of lines has worked. -/
theorem PIn.lines {W W1 : World} {p : Nat} {S : Nat → Prop} {bl : Nat} {Sl So : Nat → Prop} {va vf : Value} {s : PS} {l1 : LS} (h : PIn W p S bl Sl So va vf s) (hl : LAt W1 bl (fun k => Sl k ∨ W.heap.size ≤ k) l1) (hf : Fr (fun k => Sl k ∨ W.heap.size ≤ k) W W1) :
    PIn W1 p (fun k => (S k ∨ W.heap.size ≤ k) ∧ k < W1.heap.size) bl (fun k => (Sl k ∨ W.heap.size ≤ k) ∧ k < W1.heap.size) So va vf (s.setL l1) ∧ Fr S W W1 := by
  have hf2 := hf.old
  have hs := hf.size
  have hpl := blk_lt h.obj
  have hns : ∀ k, So k → ¬ Sl k := fun k h1 h2 => (h.sl k h2).2.2 h1
  refine ⟨⟨hf2.blk h.obj (fun hk => (h.sl p hk).2.1 rfl), hl.bound, Kd.R_kept h.rall hf2.1 hns, Kd.R_kept h.rfld hf2.1 hns, ⟨.inl h.own, by omega⟩, fun k hk => hk.2, ?_, ?_⟩, hf2.mono (fun k hk => (h.sl k hk).1)⟩
  · rintro k ⟨h1 | h1, h2⟩
    · exact ⟨⟨.inl (h.sl k h1).1, h2⟩, (h.sl k h1).2.1, (h.sl k h1).2.2⟩
    · exact ⟨⟨.inr h1, h2⟩, by omega, fun h3 => by have := h.lt k (h.so k h3).1; omega⟩
  · intro k hk
    have := h.so k hk
    exact ⟨⟨.inl this.1, by have := h.lt k this.1; omega⟩, this.2⟩
theorem str_pne : ∀ q, q ∈ 9 :: (Kd.string).E → q ≠ 80 := by
  intro q hq
  rcases List.mem_cons.1 hq with rfl | hq
  · decide
  · cases hq
theorem fld_pne : ∀ q, q ∈ 85 :: k85.E → q ≠ 80 := by decide
/-- A store into the parser's own block. -/
theorem PIn.put {W : World} {p : Nat} {S : Nat → Prop} {bl : Nat} {Sl So : Nat → Prop} {va vf : Value} {s : PS} (h : PIn W p S bl Sl So va vf s) (j : Nat) (u : Value) (s' : PS) (e : (pcells s bl va vf).setIfInBounds j u = pcells s' bl va vf) (h1 : s'.l = s.l) (h2 : s'.all = s.all) (h3 : s'.h.2.2.2.2.2 = s.h.2.2.2.2.2) :
    PIn (W.setCell ⟨p, j, none⟩ u) p S bl Sl So va vf s' := by
  refine ⟨blk_put h.obj j u e, ?_, ?_, ?_, h.own, fun k hk => by simpa using h.lt k hk, h.sl, h.so⟩
  · rw [h1]
    exact h.lin.kept ((Fr.refl (fun k => k = p) W).setCell (p := ⟨p, j, none⟩) (.inl rfl) u) (fun k hk => (h.sl k hk).2.1)
  · rw [h2]; exact Kd.R_set h.rall h.obj str_pne j u
  · rw [h3]; exact Kd.R_set h.rfld h.obj fld_pne j u
theorem PIn.cell {W : World} {p : Nat} {S : Nat → Prop} {bl : Nat} {Sl So : Nat → Prop} {va vf : Value} {s : PS} (h : PIn W p S bl Sl So va vf s) (j : Nat) : W.cell? ⟨p, j, none⟩ = (pcells s bl va vf)[j]? := blk_cell h.obj j
theorem PIn.frozen {W : World} {p : Nat} {S : Nat → Prop} {bl : Nat} {Sl So : Nat → Prop} {va vf : Value} {s : PS} (h : PIn W p S bl Sl So va vf s) (j : Nat) : W.frozen? ⟨p, j, none⟩ = false := blk_frozen h.obj j
/-- A line more. -/
theorem PIn.more {W w1 : World} {p : Nat} {S : Nat → Prop} {bl : Nat} {Sl So : Nat → Prop} {va vf v1 : Value} {s : PS} {x : ByteArray} (h : PIn W p S bl Sl So va vf s) (ho : Kd.R Kd.string 9 w1 0 (fun k => So k ∨ W.heap.size ≤ k) v1 (s.all ++ [x])) (hg : W.grownBy w1 va.ownBlock) (hb : Below 0 W w1) :
    PIn (w1.setCell ⟨p, 7, none⟩ v1) p (fun k => (S k ∨ W.heap.size ≤ k) ∧ k < w1.heap.size) bl Sl (fun k => (So k ∨ W.heap.size ≤ k) ∧ k < w1.heap.size) v1 vf { s with all := s.all ++ [x] } ∧ Fr S W (w1.setCell ⟨p, 7, none⟩ v1) := by
  have hs := hg.size
  have hpl := blk_lt h.obj
  have hfr : Fr (fun k => va.ownBlock = some k) W w1 := (Fr.refl _ W).grown hg hb (fun k hk => .inl hk)
  have hnp : ∀ k, va.ownBlock = some k → So k := h.rall.1
  have hobj := hfr.blk h.obj (fun hk => (h.so p (hnp p hk)).2 rfl)
  have hlin := h.lin.kept hfr (fun k hk hk2 => (h.sl k hk).2.2 (hnp k hk2))
  have hfld := Kd.R_over h.rfld h.rall (by decide) hg
  refine ⟨⟨blk_put hobj 7 v1 rfl, hlin.kept ((Fr.refl (fun k => k = p) w1).setCell (p := ⟨p, 7, none⟩) (.inl rfl) v1) (fun k hk => (h.sl k hk).2.1), ?_, ?_, ⟨.inl h.own, by omega⟩, fun k hk => by simpa using hk.2, ?_, ?_⟩, ?_⟩
  · exact Kd.R_set (Kd.R_mono (Kd.R_bound ho) (fun k hk => ⟨hk.1, hk.2.2.1⟩)) hobj str_pne 7 v1
  · exact Kd.R_set (Kd.R_mono (Kd.R_bound hfld) (fun k hk => ⟨.inl hk.1, hk.2.2.1⟩)) hobj fld_pne 7 v1
  · intro k hk
    have h1 := h.sl k hk
    have h2 := h.lt k h1.1
    exact ⟨⟨.inl h1.1, by omega⟩, h1.2.1, fun h3 => h3.1.elim h1.2.2 (fun h4 => by omega)⟩
  · rintro k ⟨h1 | h1, h2⟩
    · exact ⟨⟨.inl (h.so k h1).1, h2⟩, (h.so k h1).2⟩
    · exact ⟨⟨.inr h1, h2⟩, by omega⟩
  · exact (hfr.mono (fun k hk => (h.so k (hnp k hk)).1)).setCell (p := ⟨p, 7, none⟩) (.inl h.own) v1
/-- A head parsed: its fields are new. -/
theorem PIn.head {W w1 : World} {p : Nat} {S : Nat → Prop} {bl : Nat} {Sl So : Nat → Prop} {va vf v1 : Value} {s : PS} {fs : List S85} (h : PIn W p S bl Sl So va vf s) (ho : Kd.R k85 85 w1 W.heap.size (fun _ => True) v1 fs) (hb : Below W.heap.size W w1) :
    PIn (w1.setCell ⟨p, 14, none⟩ v1) p (fun k => (S k ∨ W.heap.size ≤ k) ∧ k < w1.heap.size) bl Sl (fun k => (So k ∨ W.heap.size ≤ k) ∧ k < w1.heap.size) va v1 { s with h := (s.h.1, s.h.2.1, s.h.2.2.1, s.h.2.2.2.1, s.h.2.2.2.2.1, fs) } := by
  have hs := hb.size
  have hpl := blk_lt h.obj
  have hobj := blk_below h.obj hb
  refine ⟨blk_put hobj 14 v1 rfl, (h.lin.next hb).kept ((Fr.refl (fun k => k = p) w1).setCell (p := ⟨p, 14, none⟩) (.inl rfl) v1) (fun k hk => (h.sl k hk).2.1), ?_, ?_, ⟨.inl h.own, by omega⟩, fun k hk => by simpa using hk.2, ?_, ?_⟩
  · exact Kd.R_set (Kd.R_mono (Kd.R_bound (Kd.R_below h.rall hb)) (fun k hk => ⟨.inl hk.1, hk.2.2.1⟩)) hobj str_pne 14 v1
  · exact Kd.R_set (Kd.R_lower (Kd.R_mono (Kd.R_bound ho) (fun k hk => ⟨.inr hk.2.1, hk.2.2.1⟩)) (Nat.zero_le _)) hobj fld_pne 14 v1
  · intro k hk
    have h1 := h.sl k hk
    have h2 := h.lt k h1.1
    exact ⟨⟨.inl h1.1, by omega⟩, h1.2.1, fun h3 => h3.1.elim h1.2.2 (fun h4 => by omega)⟩
  · rintro k ⟨h1 | h1, h2⟩
    · exact ⟨⟨.inl (h.so k h1).1, h2⟩, (h.so k h1).2⟩
    · exact ⟨⟨.inr h1, h2⟩, by omega⟩
end Go.Proofs.YtiiploicaimnpaaGreatDoor.Hand
namespace Go.Proofs.YtiiploicaimnpaaGreatDoor.Hand
open Go.RowKit Go.Proofs.YtiiploicaimnpaaGreatDoorW.PrintWords Go.Proofs.YtiiploicaimnpaaGreatDoorW.PrintLast Go.Proofs.YtiiploicaimnpaaGreatDoorW.PrintMore
set_option linter.unusedVariables false
set_option linter.unusedSimpArgs false
def PAt (W : World) (p : Nat) (S : Nat → Prop) (s : PS) : Prop := ∃ bl Sl So va vf, PIn W p S bl Sl So va vf s
/-- From W to W' the parser at p, whose memory was S, has come to s. -/
def Goes (S : Nat → Prop) (W W' : World) (p : Nat) (s : PS) : Prop := ∃ S', PAt W' p S' s ∧ Fr S W W' ∧ ∀ k, S' k → S k ∨ W.heap.size ≤ k
theorem Goes.refl {S : Nat → Prop} {W : World} {p : Nat} {s : PS} (h : PAt W p S s) : Goes S W W p s := ⟨S, h, Fr.refl _ _, fun _ => .inl⟩
theorem Goes.then_ {S S1 : Nat → Prop} {W W1 W2 : World} {p : Nat} {s : PS} (hf : Fr S W W1) (hs : ∀ k, S1 k → S k ∨ W.heap.size ≤ k) (h : Goes S1 W1 W2 p s) : Goes S W W2 p s := by
  obtain ⟨S2, h1, h2, h3⟩ := h
  refine ⟨S2, h1, hf.then_ h2 hs, fun k hk => ?_⟩
  rcases h3 k hk with h4 | h4
  · exact hs k h4
  · have := hf.size; omega
theorem Goes.next {S : Nat → Prop} {W W1 W2 : World} {p : Nat} {s : PS} (h : Goes S W W1 p s) (hb : Below W1.heap.size W1 W2) : Goes S W W2 p s := by
  obtain ⟨S2, ⟨bl, Sl, So, va, vf, h1⟩, h2, h3⟩ := h
  exact ⟨S2, ⟨bl, Sl, So, va, vf, h1.next hb⟩, h2.next hb, h3⟩
/-- What a parse of lines comes to, as a contract. -/
def ParseOk (F : ParseT) (s : PS) : Prop := ∀ (W : World) (A : Option Addr) (c : Nat), Kd.C Kd.string W A s.all.length s.all → s.all.length ≤ c →
  Calls Tryz.prog 10 #[.int .i64 s.kind, .agg #[.int .i64 s.m0, .int .i64 s.m1, .int .i64 s.m2, .int .i64 s.m3, .int .i64 s.m4], .slice A s.all.length c] W fun e W' => ∃ v : Value, e = .returned (.tuple #[.agg #[.string (F s.kind s.m1 s.m4 s.all).1.1, .string (F s.kind s.m1 s.m4 s.all).1.2.1, .int .i64 (F s.kind s.m1 s.m4 s.all).1.2.2.1, .int .i64 (F s.kind s.m1 s.m4 s.all).1.2.2.2.1, .string (F s.kind s.m1 s.m4 s.all).1.2.2.2.2.1, v], .int .i64 (F s.kind s.m1 s.m4 s.all).2]) ∧ Kd.R k85 85 W' W.heap.size (fun _ => True) v (F s.kind s.m1 s.m4 s.all).1.2.2.2.2.2 ∧ Below W.heap.size W W'
theorem drew_below (A : World) : Below A.heap.size A A.drew := below_drew (Below.refl _ _)
theorem isE_no {x : ByteArray} (h : ¬ x.size = 0) : x.toList.isEmpty = false := by
  rw [toList_eq]
  have h2 : x.size = x.data.toList.length := Lib.size_eq x
  cases hl : x.data.toList with
  | nil => rw [hl] at h2; exact absurd h2 h
  | cons a l => rfl
theorem isE_yes {x : ByteArray} (h : x.size = 0) : x.toList.isEmpty = true := by
  rw [toList_eq]
  have h2 : x.size = x.data.toList.length := Lib.size_eq x
  cases hl : x.data.toList with
  | nil => rfl
  | cons a l => rw [hl] at h2; simp at h2; omega
set_option maxHeartbeats 2000000 in
set_option maxRecDepth 100000 in
theorem pline_more (F : ParseT) (p bl : Nat) (S Sl So : Nat → Prop) (va vf : Value) (s : PS) (x : ByteArray) (W : World) (h : PIn W p S bl Sl So va vf s) (hal : s.all.length ≤ 1000000) (hx : ¬ x.size = 0) :
    Calls Tryz.prog 65 #[.pointer (some ⟨p, 0, none⟩), .string x] W fun e W' => e = .returned (.tuple #[]) ∧ Goes S W W' p (lineP F s x) := by
  have c7 : W.cell? ⟨p, 7, none⟩ = some va := h.cell 7
  have g7 := h.frozen 7
  have hH := Lib.hid h
  have hE := isE_no hx
  unfold lineP
  rw [if_pos hx]
  clear h
  go_enter Tryz.func65, Tryz.ntmps65
  go_wp2_with (at_builtin; refine Kd.R_append Kd.string (w0 := W) 0 rfl (.tmp 11) (.tmp 13) 24 9 (.string ⟨#[]⟩) 16 rfl Tryz.underlying24 info_str rfl (by decide) (by omega) va s.all x [.string x] (fun k => So k ∨ W.heap.size ≤ k) (fun _ => False) rfl rfl ?aP (fun _ hk => hk.elim) ?aF (Kd.R_mono hH.out.rall (fun _ => .inl)) ?aB ?aS ?aL ?_; (case aP => exact rfl); (case aF => exact fun _ hk => .inr hk); (case aB => exact Below.refl _ _); (case aS => exact Nat.zero_le _); (case aL => omega))
  intro v1 w1 ho hb1 hg hat
  obtain ⟨A1, cp1, rfl⟩ := Kd.R_slice ho
  rw [List.length_append, List.length_singleton] at ho ⊢
  have hP := Lib.hid (hH.out.more ho hg hb1)
  have hpb : w1.heap[p]? = some (.cells (pcells s bl va vf) 80 (0, 0)) := blk_grown hH.out.obj hg (fun he => (hH.out.so p (hH.out.rall.1 p he.symm)).2 rfl)
  have d7 : w1.cell? ⟨p, 7, none⟩ = some va := blk_cell hpb 7
  have e7 : w1.frozen? ⟨p, 7, none⟩ = false := blk_frozen hpb 7
  clear c7 g7 hpb ho hg hat
  go_wp2
  go_end0
  exact ⟨rfl, _, ⟨_, _, _, _, _, hP.out.1⟩, hP.out.2, fun k hk => hk.1⟩
set_option maxHeartbeats 2000000 in
set_option maxRecDepth 100000 in
theorem pline_none (F : ParseT) (p bl : Nat) (S Sl So : Nat → Prop) (va vf : Value) (s : PS) (x : ByteArray) (W : World) (h : PIn W p S bl Sl So va vf s) (hx : x.size = 0) (hn : ¬ (0 < s.all.length ∨ s.kind = 2)) :
    Calls Tryz.prog 65 #[.pointer (some ⟨p, 0, none⟩), .string x] W fun e W' => e = .returned (.tuple #[]) ∧ Goes S W W' p (lineP F s x) := by
  have c1 : W.cell? ⟨p, 1, none⟩ = some (.int .i64 s.kind) := h.cell 1
  have c7 : W.cell? ⟨p, 7, none⟩ = some va := h.cell 7
  have hH := Lib.hid h
  have hE := isE_yes hx
  unfold lineP
  rw [if_neg (by simp [hx]), if_neg hn]
  obtain ⟨A1, cp1, rfl⟩ := Kd.R_slice h.rall
  have hk : (s.kind == 2) = false := by rw [beq_eq_false_iff_ne]; exact fun h => hn (.inr h)
  have hz : s.all.length = 0 := by omega
  rw [hz] at c7
  clear h hn hz
  go_enter Tryz.func65, Tryz.ntmps65
  go_wp2
  go_end0
  exact ⟨rfl, Goes.refl ⟨_, _, _, _, _, hH.out⟩⟩
theorem pset {W : World} {p bl : Nat} {Sl T : Nat → Prop} {l : LS} {va v1 : Value} {al : List ByteArray} {fs : List S85} {cs cs' : Array Value}
    (h : W.heap[p]? = some (.cells cs 80 (0, 0)) ∧ LAt W bl Sl l ∧ Kd.R Kd.string 9 W 0 T va al ∧ Kd.R k85 85 W 0 T v1 fs) (hp : ∀ k, Sl k → k ≠ p) (j : Nat) (u : Value) (e : cs.setIfInBounds j u = cs') :
    (W.setCell ⟨p, j, none⟩ u).heap[p]? = some (.cells cs' 80 (0, 0)) ∧ LAt (W.setCell ⟨p, j, none⟩ u) bl Sl l ∧ Kd.R Kd.string 9 (W.setCell ⟨p, j, none⟩ u) 0 T va al ∧ Kd.R k85 85 (W.setCell ⟨p, j, none⟩ u) 0 T v1 fs :=
  ⟨blk_put h.1 j u e, h.2.1.kept ((Fr.refl (fun k => k = p) W).setCell (p := ⟨p, j, none⟩) (.inl rfl) u) hp, Kd.R_set h.2.2.1 h.1 str_pne j u, Kd.R_set h.2.2.2 h.1 fld_pne j u⟩
theorem PIn.parsed {W w1 : World} {p : Nat} {S : Nat → Prop} {bl : Nat} {Sl So : Nat → Prop} {va vf v1 : Value} {s : PS} (r : HeadT) (e : Int) (h : PIn W p S bl Sl So va vf s) (ho : Kd.R k85 85 w1 W.heap.size (fun _ => True) v1 r.2.2.2.2.2) (hb : Below W.heap.size W w1) :
    PIn (((((((w1.setCell ⟨p, 9, none⟩ (.string r.1)).setCell ⟨p, 10, none⟩ (.string r.2.1)).setCell ⟨p, 11, none⟩ (.int .i64 r.2.2.1)).setCell ⟨p, 12, none⟩ (.int .i64 r.2.2.2.1)).setCell ⟨p, 13, none⟩ (.string r.2.2.2.2.1)).setCell ⟨p, 14, none⟩ v1).setCell ⟨p, 15, none⟩ (.int .i64 e)) p
      (fun k => (S k ∨ W.heap.size ≤ k) ∧ k < w1.heap.size) bl Sl (fun k => (So k ∨ W.heap.size ≤ k) ∧ k < w1.heap.size) va v1 { s with h := r, e := e } ∧
    Fr S W (((((((w1.setCell ⟨p, 9, none⟩ (.string r.1)).setCell ⟨p, 10, none⟩ (.string r.2.1)).setCell ⟨p, 11, none⟩ (.int .i64 r.2.2.1)).setCell ⟨p, 12, none⟩ (.int .i64 r.2.2.2.1)).setCell ⟨p, 13, none⟩ (.string r.2.2.2.2.1)).setCell ⟨p, 14, none⟩ v1).setCell ⟨p, 15, none⟩ (.int .i64 e)) := by
  have hs := hb.size
  have hpl := blk_lt h.obj
  have hp : ∀ k, Sl k → k ≠ p := fun k hk => (h.sl k hk).2.1
  have z : w1.heap[p]? = some (.cells (pcells s bl va vf) 80 (0, 0)) ∧ LAt w1 bl Sl s.l ∧ Kd.R Kd.string 9 w1 0 (fun k => (So k ∨ W.heap.size ≤ k) ∧ k < w1.heap.size) va s.all ∧ Kd.R k85 85 w1 0 (fun k => (So k ∨ W.heap.size ≤ k) ∧ k < w1.heap.size) v1 r.2.2.2.2.2 :=
    ⟨blk_below h.obj hb, h.lin.next hb, Kd.R_mono (Kd.R_bound (Kd.R_below h.rall hb)) (fun k hk => ⟨.inl hk.1, hk.2.2.1⟩), Kd.R_lower (Kd.R_mono (Kd.R_bound ho) (fun k hk => ⟨.inr hk.2.1, hk.2.2.1⟩)) (Nat.zero_le _)⟩
  have z9 := pset (cs' := pcells { s with h := (r.1, s.h.2.1, s.h.2.2.1, s.h.2.2.2.1, s.h.2.2.2.2.1, s.h.2.2.2.2.2) } bl va vf) z hp 9 (.string r.1) (by rfl)
  have z10 := pset (cs' := pcells { s with h := (r.1, r.2.1, s.h.2.2.1, s.h.2.2.2.1, s.h.2.2.2.2.1, s.h.2.2.2.2.2) } bl va vf) z9 hp 10 (.string r.2.1) (by rfl)
  have z11 := pset (cs' := pcells { s with h := (r.1, r.2.1, r.2.2.1, s.h.2.2.2.1, s.h.2.2.2.2.1, s.h.2.2.2.2.2) } bl va vf) z10 hp 11 (.int .i64 r.2.2.1) (by rfl)
  have z12 := pset (cs' := pcells { s with h := (r.1, r.2.1, r.2.2.1, r.2.2.2.1, s.h.2.2.2.2.1, s.h.2.2.2.2.2) } bl va vf) z11 hp 12 (.int .i64 r.2.2.2.1) (by rfl)
  have z13 := pset (cs' := pcells { s with h := (r.1, r.2.1, r.2.2.1, r.2.2.2.1, r.2.2.2.2.1, s.h.2.2.2.2.2) } bl va vf) z12 hp 13 (.string r.2.2.2.2.1) (by rfl)
  have z14 := pset (cs' := pcells { s with h := (r.1, r.2.1, r.2.2.1, r.2.2.2.1, r.2.2.2.2.1, s.h.2.2.2.2.2) } bl va v1) z13 hp 14 v1 (by rfl)
  have z15 := pset (cs' := pcells { s with h := r, e := e } bl va v1) z14 hp 15 (.int .i64 e) (by rfl)
  obtain ⟨y1, y2, y3, y4⟩ := z15
  refine ⟨⟨y1, y2, y3, y4, ⟨.inl h.own, by omega⟩, fun k hk => by simpa using hk.2, ?_, ?_⟩, ?_⟩
  · intro k hk
    have h1 := h.sl k hk
    have h2 := h.lt k h1.1
    exact ⟨⟨.inl h1.1, by omega⟩, h1.2.1, fun h3 => h3.1.elim h1.2.2 (fun h4 => by omega)⟩
  · rintro k ⟨h1 | h1, h2⟩
    · exact ⟨⟨.inl (h.so k h1).1, h2⟩, (h.so k h1).2⟩
    · exact ⟨⟨.inr h1, h2⟩, by omega⟩
  · have f := Fr.of_below S hb
    have hS : ∀ j : Nat, S (⟨p, j, none⟩ : Addr).block := fun _ => h.own
    exact ((((((f.setCell (.inl (hS 9)) _).setCell (.inl (hS 10)) _).setCell (.inl (hS 11)) _).setCell (.inl (hS 12)) _).setCell (.inl (hS 13)) _).setCell (.inl (hS 14)) _).setCell (.inl (hS 15)) _
end Go.Proofs.YtiiploicaimnpaaGreatDoor.Hand
