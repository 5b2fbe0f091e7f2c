/- Hand walks: slices.Clone of fields; (*head.Parser).Done, Head, Begun; head.New. | Hand walk: (*head.Parser).Feed. | Plain: heads parsed: what the program's parse comes to. -/
import Derived.Test.YtiiploicaimnpaaGreatDoorHc
import Derived.LaidEql
import Derived.Deep.RegionHeld3
import Derived.Test.YtiiploicaimnpaaGreatDoorHd
import Derived.Shelf.RegionOpenPlain
import Derived.Test.YtiiploicaimnpaaGreatDoorHg
namespace Go.Proofs.YtiiploicaimnpaaGreatDoor.Hand
open Go.RowKit Go.Proofs.YtiiploicaimnpaaGreatDoorW.PrintWords Go.Proofs.YtiiploicaimnpaaGreatDoorW.PrintLast Go.Proofs.YtiiploicaimnpaaGreatDoorW.PrintMore
set_option linter.unusedVariables false
set_option linter.unusedSimpArgs false
set_option maxHeartbeats 1000000 in
set_option maxRecDepth 100000 in
theorem Clone_calls (A : Option Addr) (c : Nat) (l : List S85) (w : World) (hr : Kd.C k85 w A l.length l) (hlen : l.length ≤ 4398046511104) :
    Calls Tryz.prog 46 #[.slice A l.length c] w fun e w' => ∃ v : Value, e = .returned v ∧ Kd.R k85 85 w' w.heap.size (fun _ => True) v l ∧ Below w.heap.size w w' := by
  have hr' := Lib.hid hr
  have hE : ∀ W, (binOp .eql 27 (.slice A l.length c) (.slice none 0 0)).run Tryz.prog W = .ok (.bool A.isNone) W := fun W => Lib.run_eql_slice_nil W _ _ _ _ _ _ _ Tryz.underlying27
  rcases A with _ | ad
  · have hl0 : l.length = 0 := by
      rcases Nat.eq_zero_or_pos l.length with h0 | h0
      · exact h0
      · obtain ⟨ad, h, _⟩ := hr.2.2 h0
        cases h
    rw [hl0] at hE
    obtain rfl : l = [] := List.eq_nil_of_length_eq_zero hl0
    clear hr hr' hl0
    go_enter Tryz.func46, Tryz.ntmps46
    go_wp2
    go_ret
    exact ⟨_, rfl, Kd.R_nil _ _ _ _ _, Below.refl _ _⟩
  · clear hr
    go_enter Tryz.func46, Tryz.ntmps46
    go_wp2_with (first | ((with_reducible refine gate_dst (N := 5) rfl ?_); refine Kd.R_lit k85 _ 85 ?hg (N := 5) ?hd (xs := ([] : List S85)) (inner := []) (ok := fun _ => True) (okp := fun _ => True) ?hr ?hp (fun _ hk => hk) trivial (Below.refl _ _) (Nat.le_refl _) (by simp) ?_; (case hd => rfl); (case hg => rfl); (case hr => first | (go_simp; done) | (go_simp; rfl)); (case hp => exact (Reps.none _ _)); intro v133 w3 ho4 hb hg_ hnew_; clear hg_ hnew_) | ((with_reducible refine gate_builtin (b := .append) (xs := #[.tmp 5, .tmp 6]) rfl ?_); at_builtin; refine Kd.R_append_rows k85 (w0 := w) w.heap.size rfl (.tmp 5) (.tmp 6) 27 85 (.agg #[(.string ⟨#[]⟩), (.string ⟨#[]⟩)]) 32 rfl Tryz.underlying27 info85 rfl (by decide) (by omega) v133 [] l _ _ _ (fun _ => True) (fun _ => False) rfl rfl ?aO ?aR (fun _ _ h => h) (fun _ h => h.elim) ?aF ?aB ?aS ?aL ?_; (case aR => exact Kd.C_below hr'.out hb); (case aB => exact hb); (case aF => exact (fun _ _ => trivial)); (case aO => exact ho4); (case aS => exact hb.size); (case aL => simp; omega); intro v160 w8 ho hb2 hg hat))
    go_ret
    exact ⟨_, rfl, ho, hb2⟩
theorem PAt.next {W W' : World} {p : Nat} {S : Nat → Prop} {s : PS} (h : PAt W p S s) (hb : Below W.heap.size W W') : PAt W' p S s := by
  obtain ⟨bl, Sl, So, va, vf, h⟩ := h
  exact ⟨bl, Sl, So, va, vf, h.next hb⟩
def doneP (s : PS) : Bool := s.fin && (s.e == 0)
set_option maxHeartbeats 1000000 in
theorem Done_calls (p : Nat) (S : Nat → Prop) (s : PS) (W : World) (h : PAt W p S s) :
    Calls Tryz.prog 17 #[.pointer (some ⟨p, 0, none⟩)] W fun x W' => x = .returned (.bool (doneP s)) ∧ Below W.heap.size W W' := by
  obtain ⟨bl, Sl, So, va, vf, h⟩ := h
  have c8 : W.cell? ⟨p, 8, none⟩ = some (.bool s.fin) := h.cell 8
  have c15 : W.cell? ⟨p, 15, none⟩ = some (.int .i64 s.e) := h.cell 15
  clear h
  unfold doneP
  cases hf : s.fin
  · rw [hf] at c8
    go_enter Tryz.func17, Tryz.ntmps17
    go_wp2
    go_ret
    exact ⟨rfl, by first | exact Below.refl _ _ | exact below_drew (Below.refl _ _)⟩
  · rw [hf] at c8
    go_enter Tryz.func17, Tryz.ntmps17
    go_wp2
    go_ret
    exact ⟨by simp, by first | exact Below.refl _ _ | exact below_drew (Below.refl _ _)⟩
set_option maxHeartbeats 1000000 in
set_option maxRecDepth 100000 in
theorem New_nil (kind m0 m1 m2 m3 m4 : Int) (W : World) (h : (m0 < 0 ∨ 65536 < m0) ∨ (kind ≠ 1 ∧ kind ≠ 2)) :
    Calls Tryz.prog 14 #[.int .i64 kind, .agg #[.int .i64 m0, .int .i64 m1, .int .i64 m2, .int .i64 m3, .int .i64 m4]] W fun x W' => x = .returned (.pointer none) ∧ Below W.heap.size W W' := by
  by_cases h0 : m0 < 0 ∨ 65536 < m0
  · have cN := fun W => New_none m0 W h0
    go_enter Tryz.func14, Tryz.ntmps14
    go_wp2_with (go_at_call 44; refine (cN _).mono ?_; rintro e W1 ⟨rfl, rfl⟩)
    go_ret
    exact ⟨rfl, below_alloc (Below.refl _ _) _⟩
  · have cN := fun W => New_some m0 W (by omega) (by omega)
    obtain ⟨hk1, hk2⟩ := h.resolve_left h0
    have hk3 : (kind != 1) = true := by simpa using hk1
    have hk4 : (kind != 2) = true := by simpa using hk2
    clear h h0
    go_enter Tryz.func14, Tryz.ntmps14
    go_wp2_with (go_at_call 44; refine (cN _).mono ?_; rintro e W1 ⟨rfl, hW1⟩)
    go_ret
    exact ⟨rfl, below_alloc (below_alloc (Below.refl _ _) _) _⟩
def newP (kind m0 m1 m2 m3 m4 : Int) : PS := ⟨newL m0, kind, m0, m1, m2, m3, m4, [], false, noHead, 0⟩
set_option maxHeartbeats 1000000 in
set_option maxRecDepth 100000 in
theorem NewP_calls (kind m0 m1 m2 m3 m4 : Int) (W : World) (h0 : ¬ m0 < 0) (h1 : ¬ m0 > 65536) (hk : kind = 1 ∨ kind = 2) :
    Calls Tryz.prog 14 #[.int .i64 kind, .agg #[.int .i64 m0, .int .i64 m1, .int .i64 m2, .int .i64 m3, .int .i64 m4]] W fun x W' => ∃ p S, x = .returned (.pointer (some ⟨p, 0, none⟩)) ∧ PAt W' p S (newP kind m0 m1 m2 m3 m4) ∧ Below W.heap.size W W' ∧ ∀ k, S k → W.heap.size ≤ k := by
  have cN := fun W => New_some m0 W h0 h1
  have fin : ∀ (o : Obj) (W1 : World), W1 = (W.alloc o).alloc (.cells (lcells (newL m0) (.slice none 0 0)) 123) →
      PAt (W1.alloc (.cells (pcells (newP kind m0 m1 m2 m3 m4) (W.heap.size + 1) (.slice none 0 0) (.slice none 0 0)) 80)) (W.heap.size + 2) (fun k => k = W.heap.size + 1 ∨ k = W.heap.size + 2) (newP kind m0 m1 m2 m3 m4) ∧
      Below W.heap.size W (W1.alloc (.cells (pcells (newP kind m0 m1 m2 m3 m4) (W.heap.size + 1) (.slice none 0 0) (.slice none 0 0)) 80)) := by
    intro o W1 hW1
    have hz : W1.heap.size = W.heap.size + 2 := by rw [hW1]; simp
    have hb1 : W1.heap[W.heap.size + 1]? = some (.cells (lcells (newL m0) (.slice none 0 0)) 123 (0, 0)) := by
      have := blk_new (W.alloc o) (.cells (lcells (newL m0) (.slice none 0 0)) 123)
      rw [World.size_alloc] at this
      rw [hW1]; exact this
    have hb2 := blk_new W1 (.cells (pcells (newP kind m0 m1 m2 m3 m4) (W.heap.size + 1) (.slice none 0 0) (.slice none 0 0)) 80)
    rw [hz] at hb2
    refine ⟨⟨W.heap.size + 1, fun k => k = W.heap.size + 1, fun _ => False, _, _, ⟨hb2, ⟨⟨by show 0 ≤ m0; omega, by simp [newP, newL], by show m0 + 0 ≤ 65536; omega⟩, rfl, _, blk_alloc hb1 _, Kd.R_nil _ _ _ _ _⟩, Kd.R_nil _ _ _ _ _, Kd.R_nil _ _ _ _ _, .inr rfl, ?_, ?_, fun _ h => h.elim⟩⟩, ?_⟩
    · intro k hk; rw [World.size_alloc, hz]; omega
    · rintro k rfl; exact ⟨.inl rfl, by omega, fun h => h⟩
    · rw [hW1]; exact below_alloc (below_alloc (below_alloc (Below.refl _ _) _) _) _
  have hk2 : (!(kind == 1) && !(kind == 2)) = false := by rcases hk with rfl | rfl <;> rfl
  rcases hk with rfl | rfl
  · go_enter Tryz.func14, Tryz.ntmps14
    go_wp2_with (go_at_call 44; refine (cN _).mono ?_; rintro e W1 ⟨rfl, hW1⟩; have c0 : W1.cell? ⟨W.heap.size, 0, none⟩ = some (.int .i64 m0) := (by rw [hW1]; exact blk_cell (blk_alloc (blk_new W _) _) 0); have c1 : W1.cell? ⟨W.heap.size, 1, none⟩ = some (.int .i64 m1) := (by rw [hW1]; exact blk_cell (blk_alloc (blk_new W _) _) 1); have c2 : W1.cell? ⟨W.heap.size, 2, none⟩ = some (.int .i64 m2) := (by rw [hW1]; exact blk_cell (blk_alloc (blk_new W _) _) 2); have c3 : W1.cell? ⟨W.heap.size, 3, none⟩ = some (.int .i64 m3) := (by rw [hW1]; exact blk_cell (blk_alloc (blk_new W _) _) 3); have c4 : W1.cell? ⟨W.heap.size, 4, none⟩ = some (.int .i64 m4) := (by rw [hW1]; exact blk_cell (blk_alloc (blk_new W _) _) 4); obtain ⟨f1, f2⟩ := fin _ W1 hW1; have hz : W1.heap.size = W.heap.size + 2 := (by rw [hW1]; simp); have fH := Lib.hid f1; have gH := Lib.hid f2; clear f1 f2 fin hW1)
    go_ret
    exact ⟨_, _, rfl, fH.out, gH.out, fun k hk => by omega⟩
  · go_enter Tryz.func14, Tryz.ntmps14
    go_wp2_with (go_at_call 44; refine (cN _).mono ?_; rintro e W1 ⟨rfl, hW1⟩; have c0 : W1.cell? ⟨W.heap.size, 0, none⟩ = some (.int .i64 m0) := (by rw [hW1]; exact blk_cell (blk_alloc (blk_new W _) _) 0); have c1 : W1.cell? ⟨W.heap.size, 1, none⟩ = some (.int .i64 m1) := (by rw [hW1]; exact blk_cell (blk_alloc (blk_new W _) _) 1); have c2 : W1.cell? ⟨W.heap.size, 2, none⟩ = some (.int .i64 m2) := (by rw [hW1]; exact blk_cell (blk_alloc (blk_new W _) _) 2); have c3 : W1.cell? ⟨W.heap.size, 3, none⟩ = some (.int .i64 m3) := (by rw [hW1]; exact blk_cell (blk_alloc (blk_new W _) _) 3); have c4 : W1.cell? ⟨W.heap.size, 4, none⟩ = some (.int .i64 m4) := (by rw [hW1]; exact blk_cell (blk_alloc (blk_new W _) _) 4); obtain ⟨f1, f2⟩ := fin _ W1 hW1; have hz : W1.heap.size = W.heap.size + 2 := (by rw [hW1]; simp); have fH := Lib.hid f1; have gH := Lib.hid f2; clear f1 f2 fin hW1)
    go_ret
    exact ⟨_, _, rfl, fH.out, gH.out, fun k hk => by omega⟩
def headOf (s : PS) : HeadT := if doneP s = true then s.h else noHead
set_option maxHeartbeats 1000000 in
set_option maxRecDepth 100000 in
theorem Head_calls (p : Nat) (S : Nat → Prop) (s : PS) (W : World) (h : PAt W p S s) (hl : s.h.2.2.2.2.2.length ≤ 4398046511104) :
    Calls Tryz.prog 18 #[.pointer (some ⟨p, 0, none⟩)] W fun x W' => ∃ v : Value, x = .returned (.agg #[.string (headOf s).1, .string (headOf s).2.1, .int .i64 (headOf s).2.2.1, .int .i64 (headOf s).2.2.2.1, .string (headOf s).2.2.2.2.1, v]) ∧ Kd.R k85 85 W' W.heap.size (fun _ => True) v (headOf s).2.2.2.2.2 ∧ Below W.heap.size W W' := by
  have cD := fun W h => Done_calls p S s W h
  unfold headOf
  cases hd : doneP s
  · rw [hd] at cD
    rw [if_neg (by simp)]
    have hH := Lib.hid h
    clear h
    go_enter Tryz.func18, Tryz.ntmps18
    go_wp2_with (go_at_call 17; refine (cD _ (hH.out.next (by exact below_alloc (Below.refl _ _) _))).mono ?_; rintro e W1 ⟨rfl, hb⟩; have hbk := blk_below (blk_new W _) hb; have r0 := blk_cell hbk 0; have r1 := blk_cell hbk 1; have r2 := blk_cell hbk 2; have r3 := blk_cell hbk 3; have r4 := blk_cell hbk 4; have r5 := blk_cell hbk 5; have g0 := blk_frozen hbk 0; have g1 := blk_frozen hbk 1; have g2 := blk_frozen hbk 2; have g3 := blk_frozen hbk 3; have g4 := blk_frozen hbk 4; have g5 := blk_frozen hbk 5; simp at r0 r1 r2 r3 r4 r5; have hbH := Lib.hid hb; clear hb hbk)
    have hB1 := (below_alloc (Below.refl W.heap.size W) (.cells #[.string ⟨#[]⟩, .string ⟨#[]⟩, .int .i64 0, .int .i64 0, .string ⟨#[]⟩, .slice none 0 0] 29)).trans (hbH.out.mono (by simp))
    refine bodyPost_ret (v := .agg #[.string ⟨#[]⟩, .string ⟨#[]⟩, .int .i64 0, .int .i64 0, .string ⟨#[]⟩, .slice none 0 0]) (by simp [results, Tryz.results18, go_sem, *]) rfl ⟨_, rfl, Kd.R_nil _ _ _ _ _, ?_⟩
    exact (((((hB1.setCell (p := ⟨W.heap.size, 0, none⟩) (Nat.le_refl _) _).setCell (p := ⟨W.heap.size, 1, none⟩) (Nat.le_refl _) _).setCell (p := ⟨W.heap.size, 2, none⟩) (Nat.le_refl _) _).setCell (p := ⟨W.heap.size, 3, none⟩) (Nat.le_refl _) _).setCell (p := ⟨W.heap.size, 4, none⟩) (Nat.le_refl _) _).setCell (p := ⟨W.heap.size, 5, none⟩) (Nat.le_refl _) _
  · rw [hd] at cD
    rw [if_pos rfl]
    have hH := Lib.hid h
    clear h
    go_enter Tryz.func18, Tryz.ntmps18
    go_wp2_with (go_at_call 17; refine (cD _ (hH.out.next (by exact below_alloc (Below.refl _ _) _))).mono ?_; rintro e W1 ⟨rfl, hb⟩; have hbk := Lib.hid (blk_below (blk_new W _) hb); obtain ⟨bl, Sl, So, va, vf, hP⟩ := (hH.out.next (below_alloc (Below.refl _ _) _)).next hb; have d9 := hP.cell 9; have d10 := hP.cell 10; have d11 := hP.cell 11; have d12 := hP.cell 12; have d13 := hP.cell 13; have d14 := hP.cell 14; simp [pcells] at d9 d10 d11 d12 d13 d14; obtain ⟨A1, c1, rfl, hc1, hC⟩ := Kd.R_reads hP.rfld; have hCH := Lib.hid hC; have hbH := Lib.hid hb; clear hb hP hC)
    refine (Clone_calls A1 c1 _ _ (Kd.C_below hCH.out (below_alloc (Below.refl _ _) _)) hl).mono ?_
    rintro e W2 ⟨v, rfl, hR, hb2⟩
    obtain ⟨A2, c2, rfl⟩ := Kd.R_slice hR
    have hq := blk_below (blk_new W1 _) hb2
    have hr := blk_below (blk_alloc hbk.out _) hb2
    have q0 := blk_cell hq 0
    have q1 := blk_cell hq 1
    have q2 := blk_cell hq 2
    have q3 := blk_cell hq 3
    have q4 := blk_cell hq 4
    have q5 := blk_cell hq 5
    have p5 := blk_frozen hq 5
    have r0 := blk_cell hr 0
    have r1 := blk_cell hr 1
    have r2 := blk_cell hr 2
    have r3 := blk_cell hr 3
    have r4 := blk_cell hr 4
    have r5 := blk_cell hr 5
    have g0 := blk_frozen hr 0
    have g1 := blk_frozen hr 1
    have g2 := blk_frozen hr 2
    have g3 := blk_frozen hr 3
    have g4 := blk_frozen hr 4
    have g5 := blk_frozen hr 5
    simp at q0 q1 q2 q3 q4 q5 r0 r1 r2 r3 r4 r5
    have hs1 := hbH.out.size
    rw [World.size_alloc] at hs1
    have n1 : ¬ W1.heap.size = W.heap.size := by omega
    have n2 : ¬ W.heap.size = W1.heap.size := by omega
    have hRH := Lib.hid hR
    have hbH2 := Lib.hid hb2
    clear hR hb2 hq hr
    go_wp2
    have hfr : Fr (fun k => k ≤ W1.heap.size) W2 (((((((W2.setCell ⟨W1.heap.size, 5, none⟩ (.slice A2 s.h.2.2.2.2.2.length c2)).setCell ⟨W.heap.size, 0, none⟩ (.string s.h.1)).setCell ⟨W.heap.size, 1, none⟩ (.string s.h.2.1)).setCell ⟨W.heap.size, 2, none⟩ (.int .i64 s.h.2.2.1)).setCell ⟨W.heap.size, 3, none⟩ (.int .i64 s.h.2.2.2.1)).setCell ⟨W.heap.size, 4, none⟩ (.string s.h.2.2.2.2.1)).setCell ⟨W.heap.size, 5, none⟩ (.slice A2 s.h.2.2.2.2.2.length c2)) :=
      (((((((Fr.refl (fun k => k ≤ W1.heap.size) W2).setCell (p := ⟨W1.heap.size, 5, none⟩) (.inl (Nat.le_refl _)) _).setCell (p := ⟨W.heap.size, 0, none⟩) (.inl (by show W.heap.size ≤ W1.heap.size; omega)) _).setCell (p := ⟨W.heap.size, 1, none⟩) (.inl (by show W.heap.size ≤ W1.heap.size; omega)) _).setCell (p := ⟨W.heap.size, 2, none⟩) (.inl (by show W.heap.size ≤ W1.heap.size; omega)) _).setCell (p := ⟨W.heap.size, 3, none⟩) (.inl (by show W.heap.size ≤ W1.heap.size; omega)) _).setCell (p := ⟨W.heap.size, 4, none⟩) (.inl (by show W.heap.size ≤ W1.heap.size; omega)) _).setCell (p := ⟨W.heap.size, 5, none⟩) (.inl (by show W.heap.size ≤ W1.heap.size; omega)) _
    have hR2 := Kd.R_kept (Kd.R_mono (ok' := fun k => W1.heap.size < k) (Kd.R_bound hRH.out) (fun k hk => by have := hk.2.1; rw [World.size_alloc] at this; omega)) hfr.1 (fun k hk hk2 => by omega)
    have hB : Below W.heap.size W W2 := ((below_alloc (Below.refl _ _) _).trans (hbH.out.mono (by rw [World.size_alloc]; omega))).trans ((below_alloc (Below.refl _ _) _).trans (hbH2.out.mono (by rw [World.size_alloc]; omega)) |>.mono (by omega))
    refine bodyPost_ret (v := .agg #[.string s.h.1, .string s.h.2.1, .int .i64 s.h.2.2.1, .int .i64 s.h.2.2.2.1, .string s.h.2.2.2.2.1, .slice A2 s.h.2.2.2.2.2.length c2]) (by simp [results, Tryz.results18, go_sem, *]) rfl ⟨_, rfl, Kd.R_mono (Kd.R_lower hR2 (by rw [World.size_alloc]; omega)) (fun _ _ => trivial), ?_⟩
    exact ((((((hB.setCell (p := ⟨W1.heap.size, 5, none⟩) (by show W.heap.size ≤ W1.heap.size; omega) _).setCell (p := ⟨W.heap.size, 0, none⟩) (Nat.le_refl _) _).setCell (p := ⟨W.heap.size, 1, none⟩) (Nat.le_refl _) _).setCell (p := ⟨W.heap.size, 2, none⟩) (Nat.le_refl _) _).setCell (p := ⟨W.heap.size, 3, none⟩) (Nat.le_refl _) _).setCell (p := ⟨W.heap.size, 4, none⟩) (Nat.le_refl _) _).setCell (p := ⟨W.heap.size, 5, none⟩) (Nat.le_refl _) _
end Go.Proofs.YtiiploicaimnpaaGreatDoor.Hand
namespace Go.Proofs.YtiiploicaimnpaaGreatDoor.Hand
open Go.RowKit Go.Proofs.YtiiploicaimnpaaGreatDoorW.PrintWords Go.Proofs.YtiiploicaimnpaaGreatDoorW.PrintLast Go.Proofs.YtiiploicaimnpaaGreatDoorW.PrintMore
set_option linter.unusedVariables false
set_option linter.unusedSimpArgs false
theorem seeS_spent (s : LS) (c : Int) (h : (seeS s c).1 = 0) : (seeS s c).2.spent = s.spent + 1 := by
  unfold seeS at h ⊢
  split at h
  · exact absurd h (by simp)
  · rename_i h1
    rw [if_neg h1]
    split at h
    · exact absurd h (by simp)
    · rename_i h2
      rw [if_neg h2]
      split
      · rfl
      · split <;> rfl
theorem feedL_spent : ∀ (t : List Int) (s : LS), (feedL s t).2.spent = s.spent + (feedL s t).1 ∧ (s.e = 0 → s.whole = false → ¬ (feedL s t).2.e = 0 → (feedL s t).2.whole = false)
  | [], s => ⟨by simp [feedL], fun _ h _ => h⟩
  | c :: t, s => by
    by_cases h : s.whole = false ∧ s.e = 0
    · by_cases hz : (seeS s c).1 = 0
      · rw [feedL_ok h hz]
        obtain ⟨i1, i2⟩ := feedL_spent t ((seeS s c).2.setE (seeS s c).1)
        have e1 : ((seeS s c).2.setE (seeS s c).1).spent = s.spent + 1 := seeS_spent s c hz
        refine ⟨by simp only; rw [i1, e1]; omega, fun _ _ hn => ?_⟩
        simp only at hn ⊢
        cases hw : (seeS s c).2.whole
        · exact i2 (by rw [setE_e]; exact hz) hw hn
        · rw [feedL_stop (by rw [setE_whole, hw]; simp)] at hn
          exact absurd hz hn
      · rw [feedL_bad h hz]
        refine ⟨?_, fun _ hw _ => ?_⟩
        · show (seeS s c).2.spent = s.spent + 0
          rw [seeS_whole s c hz]; omega
        · show (seeS s c).2.whole = false
          rw [seeS_whole s c hz]; exact hw
    · rw [feedL_stop h]
      refine ⟨by simp, fun h1 h2 => absurd ⟨h2, h1⟩ h⟩
theorem seeS_gap (s : LS) (c : Int) (h : (seeS s c).1 = 0) : s.spent - s.line.length ≤ (seeS s c).2.spent - (seeS s c).2.line.length ∧ (s.whole = false → (seeS s c).2.whole = true → s.spent - s.line.length + 1 ≤ (seeS s c).2.spent - (seeS s c).2.line.length) := by
  unfold seeS at h ⊢
  split at h
  · exact absurd h (by simp)
  · rename_i h1
    rw [if_neg h1]
    split at h
    · exact absurd h (by simp)
    · rename_i h2
      rw [if_neg h2]
      split
      · exact ⟨by simp only; omega, fun h3 h4 => by simp only at h4; rw [h3] at h4; cases h4⟩
      · split
        · exact ⟨by simp only; omega, fun _ _ => by simp only; omega⟩
        · exact ⟨by simp only [List.length_append, List.length_singleton]; omega, fun h3 h4 => by simp only at h4; rw [h3] at h4; cases h4⟩
theorem feedL_gap : ∀ (t : List Int) (s : LS), s.spent - s.line.length ≤ (feedL s t).2.spent - (feedL s t).2.line.length ∧ (s.whole = false → (feedL s t).2.whole = true → s.spent - s.line.length + 1 ≤ (feedL s t).2.spent - (feedL s t).2.line.length)
  | [], s => ⟨Int.le_refl _, fun h1 h2 => by rw [show (feedL s []).2 = s from rfl, h1] at h2; cases h2⟩
  | c :: t, s => by
    by_cases h : s.whole = false ∧ s.e = 0
    · by_cases hz : (seeS s c).1 = 0
      · rw [feedL_ok h hz]
        obtain ⟨g1, g2⟩ := seeS_gap s c hz
        obtain ⟨i1, i2⟩ := feedL_gap t ((seeS s c).2.setE (seeS s c).1)
        have e1 : ((seeS s c).2.setE (seeS s c).1).spent = (seeS s c).2.spent := rfl
        have e2 : ((seeS s c).2.setE (seeS s c).1).line = (seeS s c).2.line := rfl
        rw [e1, e2] at i1 i2
        refine ⟨Int.le_trans g1 i1, fun hw hw2 => ?_⟩
        cases hq : (seeS s c).2.whole
        · have := i2 hq hw2
          simp only at this ⊢
          omega
        · have := g2 hw hq
          simp only
          omega
      · rw [feedL_bad h hz]
        have e : (seeS s c).2 = s := seeS_whole s c hz
        refine ⟨?_, fun hw hw2 => ?_⟩
        · show _ ≤ (seeS s c).2.spent - ((seeS s c).2.line.length : Int)
          rw [e]; exact Int.le_refl _
        · have : (seeS s c).2.whole = true := hw2
          rw [e, hw] at this
          cases this
    · rw [feedL_stop h]
      exact ⟨Int.le_refl _, fun h1 h2 => by rw [h1] at h2; cases h2⟩
def totB (l : List ByteArray) : Nat := (l.map fun x => x.size + 1).sum
theorem totB_len : ∀ l : List ByteArray, l.length ≤ totB l
  | [] => Nat.le_refl _
  | x :: l => by
    have h := totB_len l
    have e : totB (x :: l) = x.size + 1 + totB l := by simp [totB]
    rw [e, List.length_cons]
    omega
theorem totB_snoc (l : List ByteArray) (x : ByteArray) : totB (l ++ [x]) = totB l + (x.size + 1) := by simp [totB]
/-- What holds of a parser between its calls. -/
structure PS.fit (s : PS) : Prop where
  w : s.l.whole = false
  e : s.e = 0 → s.l.e = 0
  n : (totB s.all : Int) ≤ s.l.spent - s.l.line.length
structure PS.like (a b : PS) : Prop where
  k : a.kind = b.kind
  m0 : a.m0 = b.m0
  m1 : a.m1 = b.m1
  m2 : a.m2 = b.m2
  m3 : a.m3 = b.m3
  m4 : a.m4 = b.m4
theorem PS.like.refl (a : PS) : PS.like a a := ⟨rfl, rfl, rfl, rfl, rfl, rfl⟩
theorem lineP_like (F : ParseT) (s : PS) (x : ByteArray) : (lineP F s x).like s := by
  unfold lineP
  split
  · exact ⟨rfl, rfl, rfl, rfl, rfl, rfl⟩
  · split <;> exact ⟨rfl, rfl, rfl, rfl, rfl, rfl⟩
theorem PS.like.trans {a b c : PS} (h : PS.like a b) (k : PS.like b c) : PS.like a c := ⟨h.k.trans k.k, h.m0.trans k.m0, h.m1.trans k.m1, h.m2.trans k.m2, h.m3.trans k.m3, h.m4.trans k.m4⟩
theorem strOfNums_size (l : List Int) : (strOfNums l).size = l.length := by
  simp [strOfNums, ByteArray.size]
/-- A round keeps what holds. -/
theorem round_fit (F : ParseT) (s : PS) (t : List Int) (hf : s.fit) (he : s.e = 0) : (roundO F s (feedL s.l t).2).fit := by
  obtain ⟨sp, er⟩ := feedL_spent t s.l
  have er2 := er (hf.e he) hf.w
  obtain ⟨g1, g2⟩ := feedL_gap t s.l
  have g3 := g2 hf.w
  have hn := hf.n
  generalize feedL s.l t = q at *
  unfold roundO
  split
  · rename_i h0
    split
    · rename_i hw
      have h1 := g3 hw
      have hz := strOfNums_size q.2.line
      unfold lineP
      split
      · refine ⟨rfl, fun _ => h0, ?_⟩
        show (totB (s.all ++ [strOfNums q.2.line]) : Int) ≤ q.2.spent - (([] : List Int).length : Int)
        rw [totB_snoc, hz]
        simp only [List.length_nil]
        omega
      · split
        · refine ⟨rfl, fun _ => h0, ?_⟩
          show (totB s.all : Int) ≤ q.2.spent - (([] : List Int).length : Int)
          simp only [List.length_nil]
          omega
        · refine ⟨rfl, fun _ => h0, ?_⟩
          show (totB s.all : Int) ≤ q.2.spent - (([] : List Int).length : Int)
          simp only [List.length_nil]
          omega
    · rename_i hw
      exact ⟨by show q.2.whole = false; simpa using hw, fun _ => h0, by show (totB s.all : Int) ≤ q.2.spent - (q.2.line.length : Int); omega⟩
  · rename_i h0
    exact ⟨er2 h0, fun h => absurd h h0, by show (totB s.all : Int) ≤ q.2.spent - (q.2.line.length : Int); omega⟩
def pBit (p : Nat) (w : World) : Nat := match w.cell? ⟨p, 15, none⟩ with
  | some (.int .i64 e) => if e = 0 then 1 else 0
  | _ => 0
theorem PIn.bit {W : World} {p : Nat} {S : Nat → Prop} {bl : Nat} {Sl So : Nat → Prop} {va vf : Value} {s : PS} (h : PIn W p S bl Sl So va vf s) : pBit p W = if s.e = 0 then 1 else 0 := by
  unfold pBit
  rw [h.cell 15]
  rfl
theorem pBit_le (p : Nat) (w : World) : pBit p w ≤ 1 := by
  unfold pBit
  split
  · split <;> omega
  · omega
theorem bytes_drop (t : ByteArray) (u : Nat) : bytesOf (t.extract u t.size) = (bytesOf t).drop u := by
  unfold bytesOf
  rw [Lib.extract_to_end, List.map_drop]
/-- What every parse of lines that come up gives. -/
def ParseAll (F : ParseT) (s : PS) : Prop := ∀ s1 : PS, s1.like s → totB s1.all ≤ 65536 → ParseOk F s1
theorem PIn.ptr {W : World} {p : Nat} {S : Nat → Prop} {bl : Nat} {Sl So : Nat → Prop} {va vf : Value} {s : PS} (h : PIn W p S bl Sl So va vf s) : W.cell? ⟨p, 0, none⟩ = some (.pointer (some ⟨bl, 0, none⟩)) ∧ W.cell? ⟨p, 8, none⟩ = some (.bool s.fin) ∧ W.cell? ⟨p, 15, none⟩ = some (.int .i64 s.e) ∧ W.frozen? ⟨p, 15, none⟩ = false := ⟨h.cell 0, h.cell 8, h.cell 15, h.frozen 15⟩
theorem Goes.step {S S1 S2 : Nat → Prop} {W wr W2 : World} {p : Nat} {s : PS} (hfr : Fr S W wr) (hS1 : ∀ k, S1 k → S k ∨ W.heap.size ≤ k) (hX : Fr S1 wr W2) (hA : PAt W2 p S2 s) (h2 : ∀ k, S2 k → S1 k ∨ wr.heap.size ≤ k) : Goes S W W2 p s :=
  ⟨S2, hA, hfr.then_ hX hS1, fun k hk => (h2 k hk).elim (hS1 k) (fun h => .inr (by have := hfr.size; omega))⟩
theorem PS.setE_same {s : PS} (h : s.e = 0) : s.setE 0 = s := by
  cases s
  simp only at h
  subst h
  rfl
theorem roundO_bad (F : ParseT) {s : PS} {l : LS} (h : ¬ l.e = 0) : roundO F s l = (s.setL l).setE l.e := by unfold roundO; rw [if_neg h]
theorem roundO_line (F : ParseT) {s : PS} {l : LS} (h : l.e = 0) (hw : l.whole = true) : roundO F s l = lineP F (s.setL l.taken) (strOfNums l.line) := by unfold roundO; rw [if_pos h, if_pos hw]
theorem roundO_on (F : ParseT) {s : PS} {l : LS} (h : l.e = 0) (hw : l.whole = false) : roundO F s l = s.setL l := by unfold roundO; rw [if_pos h, if_neg (by simp [hw])]
theorem Whole_p (W : World) (p : Nat) (S : Nat → Prop) (bl : Nat) (Sl So : Nat → Prop) (va vf : Value) (s : PS) (h : PIn W p S bl Sl So va vf s) :
    Calls Tryz.prog 64 #[.pointer (some ⟨bl, 0, none⟩)] W fun x W' => x = .returned (.bool s.l.whole) ∧ PIn W' p S bl Sl So va vf s ∧ Below W.heap.size W W' :=
  (Whole_calls bl Sl s.l W h.lin).mono (fun _ _ h2 => ⟨h2.1, h.next h2.2, h2.2⟩)
theorem Whole_b (W : World) (p : Nat) (S : Nat → Prop) (bl : Nat) (Sl So : Nat → Prop) (va vf : Value) (s : PS) (h : PIn W p S bl Sl So va vf s) (w : Bool) (hw : s.l.whole = w) :
    Calls Tryz.prog 64 #[.pointer (some ⟨bl, 0, none⟩)] W fun x W' => x = .returned (.bool w) ∧ PIn W' p S bl Sl So va vf s ∧ Below W.heap.size W W' := by
  subst hw
  exact Whole_p W p S bl Sl So va vf s h
theorem Line_p (W : World) (p : Nat) (S : Nat → Prop) (bl : Nat) (Sl So : Nat → Prop) (va vf : Value) (s : PS) (h : PIn W p S bl Sl So va vf s) (hw : s.l.whole = true) :
    Calls Tryz.prog 66 #[.pointer (some ⟨bl, 0, none⟩)] W fun x W' => x = .returned (.string (strOfNums s.l.line)) ∧ Goes S W W' p (s.setL s.l.taken) := by
  refine (Line_calls bl Sl s.l W h.lin hw).mono ?_
  rintro x W' ⟨rfl, h2, h3⟩
  obtain ⟨h4, h5⟩ := h.lines (h2.wide (fun _ => .inl)) (h3.mono (fun _ => .inl))
  exact ⟨rfl, _, ⟨_, _, _, _, _, h4⟩, h5, fun k hk => hk.1⟩
set_option maxHeartbeats 4000000 in
set_option maxRecDepth 100000 in
theorem FeedP_calls (F : ParseT) (p : Nat) (S : Nat → Prop) (s : PS) (t : ByteArray) (W : World) (ht : t.size ≤ 140737488355328) (h : PAt W p S s) (hI : s.fit) (hP : ParseAll F s) :
    Calls Tryz.prog 26 #[.pointer (some ⟨p, 0, none⟩), .string t] W fun x W' => x = .returned (.tuple #[.int .i64 (feedO F s (bytesOf t)).1, .int .i64 (feedO F s (bytesOf t)).2.e]) ∧ Goes S W W' p (feedO F s (bytesOf t)).2 ∧ (feedO F s (bytesOf t)).2.fit := by
  obtain ⟨R, hR⟩ : ∃ R, feedO F s (bytesOf t) = R := ⟨_, rfl⟩
  rw [hR]
  have hR' := Lib.hid hR
  have hH := Lib.hid h
  have hPH := Lib.hid hP
  have mixed : Tryz.prog.follows .mixedOrders = true := by kernel_rfl
  obtain ⟨bl0, Sl0, So0, va0, vf0, h0⟩ := h
  have c0 := h0.ptr.1
  clear hR h0 hP
  go_enter Tryz.func26, Tryz.ntmps26
  go_wp2
  go_loopw [4] (fun vu wr => ∃ (u : Nat) (s1 : PS), u ≤ t.size ∧ vu = .int .i64 u ∧ Hid (Goes S W wr p s1) ∧ Hid (s1.fit ∧ s1.like s) ∧ Hid (((feedO F s1 ((bytesOf t).drop u)).1 + u, (feedO F s1 ((bytesOf t).drop u)).2) = R)) (fun vu wr => 2 * (t.size - (intOf vu).toNat) + pBit p wr)
  case atStart => exact ⟨0, s, Nat.zero_le _, rfl, Lib.hid (Goes.refl hH.out), Lib.hid ⟨hI, PS.like.refl _⟩, Lib.hid (by rw [← hR'.out]; simp)⟩
  case round =>
    clear hR' c0
    obtain ⟨u, s1, hu, rfl, hG, hF, hI1⟩ := hrel
    obtain ⟨S1, ⟨bl, Sl, So, va, vf, hA⟩, hfr, hS1⟩ := hG.out
    obtain ⟨c0, c8, c15, g15⟩ := hA.ptr
    have hbit := Lib.hid hA.bit
    by_cases hlt : u < t.size
    · by_cases hg : s1.fin = false ∧ s1.e = 0
      · obtain ⟨hg1, hg2⟩ := hg
        rw [hg1] at c8
        rw [hg2] at c15
        have hA0 := hA.next (drew_below wr)
        obtain ⟨b0, _, _, _⟩ := hA0.ptr
        have hz : (t.extract u t.size).size ≤ 140737488355328 := by rw [ByteArray.size_extract]; omega
        have cF := fun W h hS => Feed_calls bl (fun k => Sl k ∨ wr.drew.heap.size ≤ k) s1.l (t.extract u t.size) W hz h hS
        rw [bytes_drop] at cF
        have hlin := hA0.lin.wide (T := fun k => Sl k ∨ wr.drew.heap.size ≤ k) (fun _ => .inl)
        have hAH := Lib.hid hA0
        have hI2 := hI1.out
        obtain ⟨q1, q2, q3, q4⟩ := feed_round F ((bytesOf t).drop u) s1 hg1 hg2 hF.out.1.w (hF.out.1.e hg2)
        rw [q1] at hI2
        have hne : (bytesOf t).drop u ≠ [] := by rw [bytes_at t u hlt]; simp
        have hlen : ((bytesOf t).drop u).length = t.size - u := by rw [List.length_drop, bytesOf_length]
        rw [hlen] at q3
        have q5 := q4 hne
        obtain ⟨q6, q7⟩ := feedL_spent ((bytesOf t).drop u) s1.l
        have q8 := q7 (hF.out.1.e hg2) hF.out.1.w
        have hfit := round_fit F s1 ((bytesOf t).drop u) hF.out.1 hg2
        have hdd : ∀ m : Nat, ((bytesOf t).drop u).drop m = (bytesOf t).drop (u + m) := fun m => by rw [List.drop_drop]
        rw [hdd] at hI2
        obtain ⟨Q, hQ⟩ : ∃ Q, feedL s1.l ((bytesOf t).drop u) = Q := ⟨_, rfl⟩
        rw [hQ] at cF hI2 q2 q3 q5 q6 q8 hfit
        clear q1 q4 q7 hQ hdd hlen hne hI1 hz hA
        obtain ⟨n, l1⟩ := Q
        dsimp only at cF hI2 q2 q3 q5 q6 q8 hfit
        obtain ⟨m, rfl⟩ := Int.eq_ofNat_of_zero_le q2
        have hw64 : wrap64 ((u : Int) + (m : Int)) = ((u + m : Nat) : Int) := by rw [IntWalk.wrap64_in _ ⟨by omega, by omega⟩]; omega
        have hI3 := Lib.hid hI2
        have hfH := Lib.hid hfit
        have hlinH := Lib.hid hlin
        clear hI2 hfit hlin hA0 q2
        go_wp2
        go_region_with_o (refine (cF _ hlinH.out (fun k hk => .inr hk)).mono ?_; rintro e W1 ⟨rfl, hL, hFr⟩; obtain ⟨hB, hFB⟩ := hAH.out.lines hL hFr; obtain ⟨c0, c8, c15, g15⟩ := hB.ptr; have hok := hB.lin.ok; have hBH := Lib.hid hB; have hFBH := Lib.hid hFB; clear hB hFB hL hFr)
        have hPut := hBH.out.put 15 (.int .i64 l1.e) ((s1.setL l1).setE l1.e) rfl rfl rfl rfl
        have hX : Fr S1 wr (W1.setCell ⟨p, 15, none⟩ (.int .i64 l1.e)) := ((Fr.of_below S1 (drew_below wr)).then_ hFBH.out (fun k hk => .inl hk)).setCell (p := ⟨p, 15, none⟩) (.inl hAH.out.own) _
        have hPutH := Lib.hid hPut
        have hXH := Lib.hid hX
        have hsub : ∀ k, ((S1 k ∨ wr.drew.heap.size ≤ k) ∧ k < W1.heap.size) → S1 k ∨ wr.heap.size ≤ k := fun k hk => hk.1
        have hsubH := Lib.hid hsub
        clear hPut hX hsub
        by_cases he : l1.e = 0
        · have hn := q5 he
          rw [he] at hPutH hXH
          have hst : (s1.setL l1).setE 0 = s1.setL l1 := PS.setE_same (s := s1.setL l1) hg2
          rw [hst] at hPutH
          have hsp : s1.l.spent + (m : Int) ≤ 65536 := by
            obtain ⟨k0, k1, k2⟩ := hok
            have e2 : (s1.setL l1).l = l1 := rfl
            rw [e2] at k0 k1 k2
            rw [← q6]
            omega
          have hheH := Lib.hid he
          cases hwh : l1.whole
          · have hrd := roundO_on F (s := s1) he hwh
            rw [hrd] at hI3 hfH
            have hfit2 := Lib.hid hfH.out
            have hwH : Hid ((s1.setL l1).l.whole = false) := Lib.hid hwh
            clear hfH q8 hrd hwh q5 hok
            rw [he]
            clear he
            go_wp2_with (go_at_call 64; refine (Whole_b _ p _ bl _ So va vf _ hPutH.out false hwH.out).mono ?_; rintro e W2 ⟨rfl, hC, hb2⟩; have hCH := Lib.hid hC; have hbH2 := Lib.hid hb2; clear hC hb2)
            go_roundw
            case rel =>
              refine ⟨u + m, _, by omega, rfl, Lib.hid (Goes.step hfr hS1 (hXH.out.next hbH2.out) ⟨_, _, _, _, _, hCH.out⟩ hsubH.out), Lib.hid ⟨hfit2.out, ?_⟩, Lib.hid ?_⟩
              · exact PS.like.trans (b := s1) ⟨rfl, rfl, rfl, rfl, rfl, rfl⟩ hF.out.2
              · rw [← hI3.out]
                simp only [Int.toNat_natCast, Prod.mk.injEq, and_true]
                omega
            case measure =>
              rw [hbit.out, if_pos hg2]
              have := pBit_le p W2
              simp [intOf]
              omega
          · have hrd := roundO_line F (s := s1) he hwh
            rw [hrd] at hI3 hfH
            have hfit2 := Lib.hid hfH.out
            have hwH : Hid ((s1.setL l1).l.whole = true) := Lib.hid hwh
            have hal : totB (s1.setL l1.taken).all ≤ 65536 := by
              have h1 := hF.out.1.n
              show totB s1.all ≤ 65536
              omega
            have hal2 := Nat.le_trans (totB_len _) hal
            have hlike : (s1.setL l1.taken).like s := PS.like.trans (b := s1) ⟨rfl, rfl, rfl, rfl, rfl, rfl⟩ hF.out.2
            have hPO := Lib.hid (hPH.out (s1.setL l1.taken) hlike hal)
            have hlH := Lib.hid hlike
            clear hfH q8 hrd hwh q5 hok hlike
            rw [he]
            clear he
            go_wp2_with (first
              | (go_at_call 64; refine (Whole_b _ p _ bl _ So va vf _ hPutH.out true hwH.out).mono ?_; rintro e W2 ⟨rfl, hC, hb2⟩; have hCH := Lib.hid hC; have hbH2 := Lib.hid hb2; have d0 := hC.ptr.1; clear hC hb2)
              | (go_at_call 66; refine (Line_p _ p _ bl _ So va vf _ hCH.out hwH.out).mono ?_; rintro e W3 ⟨rfl, S3, hA3, hf3, hs3⟩; have hA3H := Lib.hid hA3; have hf3H := Lib.hid hf3; have hs3H := Lib.hid hs3; clear hA3 hf3 hs3)
              | (go_at_call 65; refine (pline_calls F p S3 (s1.setL l1.taken) (strOfNums l1.line) _ hA3H.out (by omega) (fun _ => hPO.out)).mono ?_; rintro e W4 ⟨rfl, S4, hA4, hf4, hs4⟩; have hA4H := Lib.hid hA4; have hf4H := Lib.hid hf4; have hs4H := Lib.hid hs4; clear hA4 hf4 hs4))
            go_roundw
            case rel =>
              have x2 := hXH.out.next hbH2.out
              have z2 := x2.size
              have x3 := x2.then_ hf3H.out hsubH.out
              have z3 := x3.size
              have g3 : ∀ k, S3 k → S1 k ∨ wr.heap.size ≤ k := fun k hk => (hs3H.out k hk).elim (hsubH.out k) (fun h => .inr (by omega))
              have x4 := x3.then_ hf4H.out g3
              have g4 : ∀ k, S4 k → S1 k ∨ wr.heap.size ≤ k := fun k hk => (hs4H.out k hk).elim (g3 k) (fun h => .inr (by omega))
              refine ⟨u + m, _, by omega, rfl, Lib.hid (Goes.step hfr hS1 x4 hA4H.out g4), Lib.hid ⟨hfit2.out, (lineP_like F _ _).trans hlH.out⟩, Lib.hid ?_⟩
              rw [← hI3.out]
              simp only [Int.toNat_natCast, Prod.mk.injEq, and_true]
              omega
            case measure =>
              rw [hbit.out, if_pos hg2]
              have := pBit_le p W4
              simp [intOf]
              omega
        · have hwh := q8 he
          have hrd := roundO_bad F (s := s1) he
          rw [hrd] at hI3 hfH
          have hfit2 := Lib.hid hfH.out
          have hheH := Lib.hid he
          have hwH : Hid (((s1.setL l1).setE l1.e).l.whole = false) := Lib.hid hwh
          clear hfH q8 hrd he hwh q5
          go_wp2_with (go_at_call 64; refine (Whole_b _ p _ bl _ So va vf _ hPutH.out false hwH.out).mono ?_; rintro e W2 ⟨rfl, hC, hb2⟩; have hCH := Lib.hid hC; have hbH2 := Lib.hid hb2; clear hC hb2)
          go_roundw
          case rel =>
            refine ⟨u + m, _, by omega, rfl, Lib.hid (Goes.step hfr hS1 (hXH.out.next hbH2.out) ⟨_, _, _, _, _, hCH.out⟩ hsubH.out), Lib.hid ⟨hfit2.out, ?_⟩, Lib.hid ?_⟩
            · exact PS.like.trans (b := s1) ⟨rfl, rfl, rfl, rfl, rfl, rfl⟩ hF.out.2
            · rw [← hI3.out]
              simp only [Int.toNat_natCast, Prod.mk.injEq, and_true]
              omega
          case measure =>
            rw [hCH.out.bit, hbit.out, if_pos hg2, if_neg (by exact hheH.out)]
            simp [intOf]
            omega
      · have hI2 := hI1.out
        rw [feedO_stop hg] at hI2
        have hI3 := Lib.hid hI2
        clear hI1 hI2
        by_cases hw : s1.fin = false
        · have he : (s1.e == 0) = false := by
            rw [beq_eq_false_iff_ne]
            exact fun h => hg ⟨hw, h⟩
          rw [hw] at c8
          clear hw hg
          go_wp2
          go_region
          go_wp2
          go_ret2
          have hR := hI3.out
          subst hR
          exact ⟨by simp, hG.out.next (drew_below _), hF.out.1⟩
        · have hw2 : s1.fin = true := by simpa using hw
          rw [hw2] at c8
          clear hw hw2 hg
          go_wp2
          go_region
          go_wp2
          go_ret2
          have hR := hI3.out
          subst hR
          exact ⟨by simp, hG.out.next (drew_below _), hF.out.1⟩
    · have hI2 := hI1.out
      rw [List.drop_of_length_le (by rw [bytesOf_length]; omega)] at hI2
      have hI3 := Lib.hid hI2
      have hn : ¬ (u : Int) < (t.size : Int) := by omega
      clear hI1 hI2
      go_wp2
      go_region
      go_wp2
      go_ret2
      have hR := hI3.out
      subst hR
      exact ⟨by simp [feedO], hG.out.next (drew_below _), hF.out.1⟩
end Go.Proofs.YtiiploicaimnpaaGreatDoor.Hand
namespace Go.Proofs.YtiiploicaimnpaaGreatDoor.PHd
open Go.RowKit Go.Proofs.YtiiploicaimnpaaGreatDoor.PPa Go.Proofs.YtiiploicaimnpaaGreatDoor.PTr Go.Proofs.YtiiploicaimnpaaGreatDoor.Hand Go.Proofs.YtiiploicaimnpaaGreatDoorW.PrintWords Go.Proofs.YtiiploicaimnpaaGreatDoorW.PrintLast Go.Proofs.YtiiploicaimnpaaGreatDoorW.PrintMore
open Go.Proofs.YtiiploicaimnpaaGreatDoor.PSa (reqS statS badR HeadR request_s status_s start_Status.f reqS_fields statS_fields)
set_option linter.unusedVariables false
set_option linter.unusedSimpArgs false
set_option linter.unusedSectionVars false
theorem Ev.ite_pos {α : Type} {c : Prop} [Decidable c] {g f : Nat → Option α} {r : α} (h : c) (e : Ev g r) : Ev (fun k => if c then g k else f k) r := Ev.congr (fun k => if_pos h) e
theorem Ev.ite_neg {α : Type} {c : Prop} [Decidable c] {g f : Nat → Option α} {r : α} (h : ¬ c) (e : Ev f r) : Ev (fun k => if c then g k else f k) r := Ev.congr (fun k => if_neg h) e
def fieldS (x : ByteArray) : ByteArray × ByteArray × Int :=
  if (cutS x 58).2.2 = true then if Oct.tokenS (cutS x 58).1 = true then if Oct.valueS (cutS x 58).2.1 = true then ((cutS x 58).1, trimS (cutS x 58).2.1, 0) else (⟨#[]⟩, ⟨#[]⟩, 7) else (⟨#[]⟩, ⟨#[]⟩, 6) else (⟨#[]⟩, ⟨#[]⟩, 3)
theorem cutS_le (x : ByteArray) : (cutS x 58).1.size ≤ x.size ∧ (cutS x 58).2.1.size ≤ x.size := by
  unfold cutS
  split
  · exact ⟨by simp only; rw [ByteArray.size_extract]; omega, by simp only; rw [ByteArray.size_extract]; omega⟩
  · exact ⟨Nat.le_refl _, Nat.zero_le _⟩
theorem field_s (x : ByteArray) (hx : x.size ≤ 1000000) : Ev (fun k => field_Parse.f k x) (fieldS x) := by
  have hc : strings_Cut.f x ⟨#[58]⟩ = some (cutS x 58) := by unfold strings_Cut.f; rw [if_pos ⟨by omega, rfl⟩]
  have hle := cutS_le x
  unfold field_Parse.f fieldS octet_Token.f octet_Value.f
  simp only [hc, Option.bind_some]
  generalize cutS x 58 = c at *
  by_cases h1 : c.2.2 = true
  · rw [if_pos h1]
    refine Ev.ite_pos h1 ?_
    by_cases h2 : Oct.tokenS c.1 = true
    · rw [if_pos h2]
      refine Ev.ite_pos h2 ?_
      by_cases h3 : Oct.valueS c.2.1 = true
      · rw [if_pos h3]
        refine Ev.ite_pos h3 ?_
        exact Ev.bind (f := fun _ t123 => some (c.1, t123, 0)) (otrim_s c.2.1 (by omega)) (Ev.now _)
      · rw [if_neg h3]
        exact Ev.ite_neg h3 (Ev.now _)
    · rw [if_neg h2]
      exact Ev.ite_neg h2 (Ev.now _)
  · rw [if_neg h1]
    exact Ev.ite_neg h1 (Ev.now _)
/-- Lines parsed one by one, onto what is told. -/
def allF : List S85 → List ByteArray → List S85 × Int
  | acc, [] => (acc, 0)
  | acc, x :: l => if (fieldS x).2.2 = 0 then allF (acc ++ [⟨(fieldS x).1, (fieldS x).2.1⟩]) l else ([], (fieldS x).2.2)
theorem rdOf_nat {α : Type} (d : α) (l : List α) (i : Nat) (h : i < l.length) : rdOf d l (i : Int) = l[i]'h := by
  unfold rdOf
  simp [List.getD_eq_getElem?_getD, h]
theorem all_l (o : List ByteArray) (ho : o.length ≤ 1000000) (hx : ∀ x ∈ o, x.size ≤ 1000000) : ∀ (d i : Nat) (acc : List S85), i + d = o.length → acc.length = i →
    Ev (fun k => field_All.l0 k (acc ++ List.replicate d z85) o (o.length : Int) (i : Int)) (allF acc (o.drop i))
  | 0, i, acc, h, ha => by
    have hi : i = o.length := by omega
    rw [hi, List.drop_length]
    refine Ev.step (f := fun _ => some (acc, 0)) (fun k => ?_) (Ev.now _)
    simp only [field_All.l0]
    rw [if_neg (by omega)]
    simp
  | d + 1, i, acc, h, ha => by
    have hlt : i < o.length := by omega
    rw [List.drop_eq_getElem_cons hlt]
    have hf := field_s (o[i]'hlt) (hx _ (List.getElem_mem _))
    have hr := rdOf_nat ByteArray.empty o i hlt
    have hw : wrap64 ((i : Int) + 1) = ((i + 1 : Nat) : Int) := by rw [IntWalk.wrap64_in _ ⟨by omega, by omega⟩]; omega
    generalize o[i]'hlt = x at *
    unfold allF
    have key : ∀ k, field_All.l0 (k + 1) (acc ++ List.replicate (d + 1) z85) o (o.length : Int) (i : Int) = (field_Parse.f k x).bind fun b => if b.2.2 = 0 then field_All.l0 k ((acc ++ [⟨b.1, b.2.1⟩]) ++ List.replicate d z85) o (o.length : Int) ((i + 1 : Nat) : Int) else some ([], b.2.2) := by
      intro k
      simp only [field_All.l0]
      rw [if_pos (by omega), if_pos (by omega), if_pos (by omega), hr]
      congr 1
      funext b
      rw [if_pos (by rw [List.length_append, List.length_replicate]; omega), hw]
      have hs : (acc ++ List.replicate (d + 1) z85).set (i : Int).toNat ⟨b.1, b.2.1⟩ = (acc ++ [⟨b.1, b.2.1⟩]) ++ List.replicate d z85 := by
        rw [Int.toNat_natCast, List.set_append_right _ _ (by omega)]
        simp [ha, List.replicate_succ]
      rw [hs]
    by_cases he : (fieldS x).2.2 = 0
    · rw [if_pos he]
      exact Ev.step (f := fun k => (field_Parse.f k x).bind fun b => if b.2.2 = 0 then field_All.l0 k ((acc ++ [⟨b.1, b.2.1⟩]) ++ List.replicate d z85) o (o.length : Int) ((i + 1 : Nat) : Int) else some ([], b.2.2)) key
        (Ev.bind (f := fun k b => if b.2.2 = 0 then field_All.l0 k ((acc ++ [⟨b.1, b.2.1⟩]) ++ List.replicate d z85) o (o.length : Int) ((i + 1 : Nat) : Int) else some ([], b.2.2)) hf (Ev.ite_pos he (all_l o ho hx d (i + 1) (acc ++ [⟨(fieldS x).1, (fieldS x).2.1⟩]) (by omega) (by simp [ha]))))
    · rw [if_neg he]
      exact Ev.step (f := fun k => (field_Parse.f k x).bind fun b => if b.2.2 = 0 then field_All.l0 k ((acc ++ [⟨b.1, b.2.1⟩]) ++ List.replicate d z85) o (o.length : Int) ((i + 1 : Nat) : Int) else some ([], b.2.2)) key
        (Ev.bind (f := fun k b => if b.2.2 = 0 then field_All.l0 k ((acc ++ [⟨b.1, b.2.1⟩]) ++ List.replicate d z85) o (o.length : Int) ((i + 1 : Nat) : Int) else some ([], b.2.2)) hf (Ev.ite_neg he (Ev.now _)))
theorem unf_tot (fold : Int) : ∀ (l out o : List ByteArray), unfL fold out l = some o → totB o ≤ totB out + totB l
  | [], out, o, h => by cases h; simp
  | x :: l, out, o, h => by
    have e1 : totB (x :: l) = x.size + 1 + totB l := by simp [totB]
    cases hg : goesB x
    · rw [unf_no hg] at h
      have := unf_tot fold l _ o h
      rw [totB_snoc] at this
      omega
    · by_cases hf : fold = 0
      · rw [unf_zero hg hf] at h; cases h
      · rcases List.eq_nil_or_concat out with rfl | ⟨p, y, rfl⟩
        · rw [unf_nil hg] at h; cases h
        · rw [List.concat_eq_append] at h ⊢
          rw [unf_join hg hf] at h
          have := unf_tot fold l _ o h
          have hj := joinS_le (x := y) (y := x)
          rw [totB_snoc] at this ⊢
          omega
theorem totB_mem {l : List ByteArray} {x : ByteArray} (h : x ∈ l) : x.size ≤ totB l := by
  induction l with
  | nil => cases h
  | cons y l ih =>
    have e1 : totB (y :: l) = y.size + 1 + totB l := by simp [totB]
    rcases List.mem_cons.1 h with rfl | h
    · omega
    · have := ih h; omega
def allS2 (fold : Int) (l : List ByteArray) : List S85 × Int :=
  match unfL fold [] l with
  | none => ([], 3)
  | some o => allF [] o
theorem all_s (fold : Int) (l : List ByteArray) (ht : totB l ≤ 70000) : Ev (fun k => field_All.f k fold l) (allS2 fold l) := by
  have hu : field_Unfold.f fold l = some (unfR (unfL fold [] l)) := by
    unfold field_Unfold.f
    rw [if_pos ⟨by have := totB_len l; omega, List.all_eq_true.2 fun x hx => decide_eq_true (by have := totB_mem hx; omega)⟩]
  unfold field_All.f allS2
  simp only [hu, Option.bind_some]
  cases hq : unfL fold [] l with
  | none => exact Ev.ite_neg (by decide) (Ev.now _)
  | some o =>
    have hto := unf_tot fold l [] o hq
    have h0 : totB ([] : List ByteArray) = 0 := rfl
    have hol := totB_len o
    refine Ev.ite_pos rfl ?_
    show Ev (fun k => if 0 ≤ (o.length : Int) then (if ((o.length : Int) : Int).toNat ≤ 8796093022208 then field_All.l0 k (List.replicate ((o.length : Int) : Int).toNat z85) o (o.length : Int) 0 else none) else none) (allF [] o)
    refine Ev.ite_pos (by omega) (Ev.ite_pos (by omega) ?_)
    have := all_l o (by omega) (fun x hx => by have := totB_mem hx; omega) o.length 0 [] (by omega) rfl
    simpa using this
def firstS (kind : Int) (x : ByteArray) : HeadR := if kind = 1 then reqS x else statS x
theorem first_s (kind : Int) (x : ByteArray) (hx : x.size ≤ 1000000) : Ev (fun k => head_first.f k kind x) (firstS kind x) := by
  unfold head_first.f firstS
  by_cases h : kind = 1
  · rw [if_pos h]
    refine Ev.ite_pos h ?_
    simp only [request_s x (by omega), Option.bind_some]
    exact Ev.now _
  · rw [if_neg h]
    refine Ev.ite_neg h ?_
    exact Ev.bind (f := fun _ bt119 => some (bt119.1, bt119.2.1, bt119.2.2.1, bt119.2.2.2.1, bt119.2.2.2.2.1, bt119.2.2.2.2.2.1, bt119.2.2.2.2.2.2)) (status_s x (by omega)) (Ev.now _)
def parseS : ParseT := fun kind m1 m4 l =>
  if kind = 1 ∨ kind = 2 then
    match l with
    | [] => (noHead, 2)
    | x :: rest =>
      if (firstS kind x).2.2.2.2.2.2 = 0 then
        if (rest.length : Int) > m1 then (noHead, 4)
        else if (allS2 m4 rest).2 = 0 then (((firstS kind x).1, (firstS kind x).2.1, (firstS kind x).2.2.1, (firstS kind x).2.2.2.1, (firstS kind x).2.2.2.2.1, (allS2 m4 rest).1), 0) else (noHead, (allS2 m4 rest).2)
      else (noHead, (firstS kind x).2.2.2.2.2.2)
  else (noHead, 1)
def flat (r : HeadT × Int) : HeadR := (r.1.1, r.1.2.1, r.1.2.2.1, r.1.2.2.2.1, r.1.2.2.2.2.1, r.1.2.2.2.2.2, r.2)
theorem parse_j0 (kind m0 m1 m2 m3 m4 : Int) (l : List ByteArray) (b : Bool) (hb : b = true ↔ ¬ (kind = 1 ∨ kind = 2)) (ht : totB l ≤ 70000) : Ev (fun k => head_Parse.j0 k kind l b m0 m1 m2 m3 m4) (flat (parseS kind m1 m4 l)) := by
  refine Ev.step (f := fun k => if b = true then _ else (if (l.length : Int) = 0 then _ else (if 0 < (l.length : Int) then ((head_first.f k kind (rdOf ByteArray.empty l 0)).bind _) else none))) (fun k => by simp only [head_Parse.j0]; rfl) ?_
  unfold parseS
  cases b
  · have hk : kind = 1 ∨ kind = 2 := Classical.byContradiction fun h => by have := hb.2 h; cases this
    rw [if_pos hk]
    refine Ev.ite_neg (by simp) ?_
    cases l with
    | nil => exact Ev.ite_pos rfl (Ev.now _)
    | cons x rest =>
      have e1 : totB (x :: rest) = x.size + 1 + totB rest := by simp [totB]
      have hlr := totB_len rest
      refine Ev.ite_neg (by simp; try omega) (Ev.ite_pos (by simp; try omega) ?_)
      have hr : rdOf ByteArray.empty (x :: rest) 0 = x := rfl
      rw [hr]
      refine Ev.bind (first_s kind x (by omega)) ?_
      simp only
      generalize firstS kind x = r
      by_cases h0 : r.2.2.2.2.2.2 = 0
      · rw [if_pos h0]
        refine Ev.ite_pos h0 ?_
        have hw : wrap64 (((x :: rest).length : Int) - 1) = (rest.length : Int) := by rw [IntWalk.wrap64_in _ ⟨by simp; try omega, by simp; try omega⟩]; simp
        rw [hw]
        by_cases h1 : (rest.length : Int) > m1
        · rw [if_pos h1]
          exact Ev.ite_pos h1 (Ev.now _)
        · rw [if_neg h1]
          refine Ev.ite_neg h1 (Ev.ite_pos (by simp; try omega) ?_)
          have hd : (x :: rest).drop 1 = rest := rfl
          rw [hd]
          refine Ev.bind (all_s m4 rest (by omega)) ?_
          generalize allS2 m4 rest = a
          by_cases h2 : a.2 = 0
          · refine Ev.ite_pos h2 ?_
            rw [if_pos h2, h2]
            exact Ev.now _
          · refine Ev.ite_neg h2 ?_
            rw [if_neg h2]
            exact Ev.now _
      · rw [if_neg h0]
        exact Ev.ite_neg h0 (Ev.now _)
  · rw [if_neg (hb.1 rfl)]
    exact Ev.ite_pos rfl (Ev.now _)
theorem parse_s (kind m0 m1 m2 m3 m4 : Int) (l : List ByteArray) (ht : totB l ≤ 70000) : Ev (fun k => head_Parse.f k kind m0 m1 m2 m3 m4 l) (flat (parseS kind m1 m4 l)) := by
  unfold head_Parse.f
  by_cases h : kind = 1
  · exact Ev.ite_pos h (parse_j0 _ _ _ _ _ _ _ _ (by simp [h]) ht)
  · exact Ev.ite_neg h (parse_j0 _ _ _ _ _ _ _ _ (by simp [h]) ht)
/-- Every parse of lines that come up. -/
theorem parse_all (s : PS) : ParseAll parseS s := by
  intro s1 hl ht W A c hC hc
  obtain ⟨k, hk⟩ := (parse_s s1.kind s1.m0 s1.m1 s1.m2 s1.m3 s1.m4 s1.all (by omega)).rounds
  exact head_Parse.calls k s1.kind s1.m0 s1.m1 s1.m2 s1.m3 s1.m4 A c s1.all _ _ _ _ _ _ _ W hC hc hk
end Go.Proofs.YtiiploicaimnpaaGreatDoor.PHd
