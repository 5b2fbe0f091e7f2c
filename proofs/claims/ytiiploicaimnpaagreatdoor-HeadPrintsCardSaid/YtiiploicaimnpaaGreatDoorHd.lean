/- Hand walk: (*head.Parser).line: a head that ends; the whole. -/
import Derived.Test.YtiiploicaimnpaaGreatDoorHc
namespace Go.Proofs.YtiiploicaimnpaaGreatDoor.Hand
open Go.RowKit Go.Proofs.YtiiploicaimnpaaGreatDoorW.PrintWords Go.Proofs.YtiiploicaimnpaaGreatDoorW.PrintLast Go.Proofs.YtiiploicaimnpaaGreatDoorW.PrintMore
set_option linter.unusedVariables false
set_option linter.unusedSimpArgs false
set_option maxHeartbeats 2000000 in
set_option maxRecDepth 100000 in
theorem pline_head (F : ParseT) (p bl : Nat) (S Sl So : Nat → Prop) (va vf : Value) (s : PS) (x : ByteArray) (W : World) (h : PIn W p S bl Sl So va vf s) (hx : x.size = 0) (hn : 0 < s.all.length ∨ s.kind = 2) (cP : ParseOk F s) :
    Calls Tryz.prog 65 #[.pointer (some ⟨p, 0, none⟩), .string x] W fun e W' => e = .returned (.tuple #[]) ∧ Goes S W W' p (lineP F s x) := by
  have c1 : W.cell? ⟨p, 1, none⟩ = some (.int .i64 s.kind) := h.cell 1
  have c7 : W.cell? ⟨p, 7, none⟩ = some va := h.cell 7
  have g8 := h.frozen 8
  have hH := Lib.hid h
  have hE := isE_yes hx
  unfold lineP
  rw [if_neg (by simp [hx]), if_pos hn]
  obtain ⟨A1, cp1, rfl, hcp, _⟩ := Kd.R_reads h.rall
  have c8 : W.cell? ⟨p, 8, none⟩ = some (.bool s.fin) := h.cell 8
  have hcC := fun W h => cP W A1 cp1 h hcp
  obtain ⟨R, hR⟩ : ∃ R, F s.kind s.m1 s.m4 s.all = R := ⟨_, rfl⟩
  obtain ⟨n, hln⟩ : ∃ n, s.all.length = n := ⟨_, rfl⟩
  rw [hln] at c7 hn
  rw [hR]
  simp only [hln, hR] at hcC
  have hw : (0 : Int) < (n : Int) ∨ (n = 0 ∧ s.kind = 2) := by
    rcases Nat.eq_zero_or_pos n with h0 | h0
    · exact .inr ⟨h0, hn.resolve_left (by omega)⟩
    · exact .inl (by omega)
  have fin : ∀ W0, W.setCell ⟨p, 8, none⟩ (.bool true) = W0 → PIn W0 p S bl Sl So (.slice A1 n cp1) vf { s with fin := true } ∧ Fr S W W0 ∧ Kd.C Kd.string W0.drew A1 n s.all := by
    rintro W0 rfl
    rw [hln] at h
    have h1 := h.put 8 (.bool true) { s with fin := true } rfl rfl rfl rfl
    have h2 := Kd.R_reads (Kd.R_drew h1.rall)
    obtain ⟨A2, c2, he, _, hC⟩ := h2
    rw [Value.slice.injEq] at he
    obtain ⟨rfl, he2, _⟩ := he
    rw [← he2] at hC
    exact ⟨h1, (Fr.refl S W).setCell (p := ⟨p, 8, none⟩) (.inl h.own) _, hC⟩
  have fin := Lib.hid fin
  clear h cP hx hn hH hln hR
  rename_i hdrop
  clear hdrop
  have mixed : Tryz.prog.follows .mixedOrders = true := by kernel_rfl
  go_enter Tryz.func65, Tryz.ntmps65
  rcases hw with hw | ⟨hw, hk⟩
  · go_wp2
    obtain ⟨W0, hW0⟩ : ∃ W0, W.setCell ⟨p, 8, none⟩ (.bool true) = W0 := ⟨_, rfl⟩
    rw [hW0]
    obtain ⟨i1, i2, i3⟩ := fin.out W0 hW0
    have j := i1.next (drew_below W0)
    clear hW0 c1 c7 g8 c8
    have c1 : W0.drew.cell? ⟨p, 1, none⟩ = some (.int .i64 s.kind) := j.cell 1
    have c2 : W0.drew.cell? ⟨p, 2, none⟩ = some (.int .i64 s.m0) := j.cell 2
    have c3 : W0.drew.cell? ⟨p, 3, none⟩ = some (.int .i64 s.m1) := j.cell 3
    have c4 : W0.drew.cell? ⟨p, 4, none⟩ = some (.int .i64 s.m2) := j.cell 4
    have c5 : W0.drew.cell? ⟨p, 5, none⟩ = some (.int .i64 s.m3) := j.cell 5
    have c6 : W0.drew.cell? ⟨p, 6, none⟩ = some (.int .i64 s.m4) := j.cell 6
    have c7 : W0.drew.cell? ⟨p, 7, none⟩ = some (.slice A1 n cp1) := j.cell 7
    have jH := Lib.hid j
    have iH := Lib.hid i1
    clear j i1
    go_region_with_o (refine (hcC _ i3).mono ?_; rintro e W1 ⟨v1, rfl, hR1, hb1⟩; obtain ⟨A3, n3, rfl⟩ := Kd.R_slice hR1; have j1 := jH.out.next hb1; have d9 := j1.cell 9; have d10 := j1.cell 10; have d11 := j1.cell 11; have d12 := j1.cell 12; have d13 := j1.cell 13; have d14 := j1.cell 14; have d15 := j1.cell 15; have e9 := j1.frozen 9; have e10 := j1.frozen 10; have e11 := j1.frozen 11; have e12 := j1.frozen 12; have e13 := j1.frozen 13; have e14 := j1.frozen 14; have e15 := j1.frozen 15; simp [pcells] at d9 d10 d11 d12 d13 d14 d15; have hJ := Lib.hid j1; clear j1)
    all_goals go_wp2
    all_goals
      go_end0
      obtain ⟨q1, q2⟩ := jH.out.parsed R.1 R.2 hR1 hb1
      have hsz := i2.size
      exact ⟨rfl, _, ⟨_, _, _, _, _, q1⟩, (i2.next (drew_below W0)).trans q2, fun k hk => hk.1.imp id (fun h => by simp at h; omega)⟩
  · subst hw
    go_wp2
    obtain ⟨W0, hW0⟩ : ∃ W0, W.setCell ⟨p, 8, none⟩ (.bool true) = W0 := ⟨_, rfl⟩
    rw [hW0]
    obtain ⟨i1, i2, i3⟩ := fin.out W0 hW0
    have j := i1.next (drew_below W0)
    clear hW0 c1 c7 g8 c8
    have c1 : W0.drew.cell? ⟨p, 1, none⟩ = some (.int .i64 s.kind) := j.cell 1
    have c2 : W0.drew.cell? ⟨p, 2, none⟩ = some (.int .i64 s.m0) := j.cell 2
    have c3 : W0.drew.cell? ⟨p, 3, none⟩ = some (.int .i64 s.m1) := j.cell 3
    have c4 : W0.drew.cell? ⟨p, 4, none⟩ = some (.int .i64 s.m2) := j.cell 4
    have c5 : W0.drew.cell? ⟨p, 5, none⟩ = some (.int .i64 s.m3) := j.cell 5
    have c6 : W0.drew.cell? ⟨p, 6, none⟩ = some (.int .i64 s.m4) := j.cell 6
    have c7 : W0.drew.cell? ⟨p, 7, none⟩ = some (.slice A1 0 cp1) := j.cell 7
    have jH := Lib.hid j
    have iH := Lib.hid i1
    have hkH := Lib.hid hk
    clear j i1 hk
    go_region_with_o (refine (hcC _ i3).mono ?_; rintro e W1 ⟨v1, rfl, hR1, hb1⟩; obtain ⟨A3, n3, rfl⟩ := Kd.R_slice hR1; have j1 := jH.out.next hb1; have d9 := j1.cell 9; have d10 := j1.cell 10; have d11 := j1.cell 11; have d12 := j1.cell 12; have d13 := j1.cell 13; have d14 := j1.cell 14; have d15 := j1.cell 15; have e9 := j1.frozen 9; have e10 := j1.frozen 10; have e11 := j1.frozen 11; have e12 := j1.frozen 12; have e13 := j1.frozen 13; have e14 := j1.frozen 14; have e15 := j1.frozen 15; simp [pcells] at d9 d10 d11 d12 d13 d14 d15; have hJ := Lib.hid j1; clear j1)
    all_goals go_wp2
    all_goals
      go_end0
      obtain ⟨q1, q2⟩ := jH.out.parsed R.1 R.2 hR1 hb1
      have hsz := i2.size
      exact ⟨rfl, _, ⟨_, _, _, _, _, q1⟩, (i2.next (drew_below W0)).trans q2, fun k hk => hk.1.imp id (fun h => by simp at h; omega)⟩
theorem pline_calls (F : ParseT) (p : Nat) (S : Nat → Prop) (s : PS) (x : ByteArray) (W : World) (h : PAt W p S s) (hal : s.all.length ≤ 1000000) (cP : (0 < s.all.length ∨ s.kind = 2) → ParseOk F s) :
    Calls Tryz.prog 65 #[.pointer (some ⟨p, 0, none⟩), .string x] W fun e W' => e = .returned (.tuple #[]) ∧ Goes S W W' p (lineP F s x) := by
  obtain ⟨bl, Sl, So, va, vf, h⟩ := h
  by_cases hx : x.size = 0
  · by_cases hn : 0 < s.all.length ∨ s.kind = 2
    · exact pline_head F p bl S Sl So va vf s x W h hx hn (cP hn)
    · exact pline_none F p bl S Sl So va vf s x W h hx hn
  · exact pline_more F p bl S Sl So va vf s x W h hal hx
end Go.Proofs.YtiiploicaimnpaaGreatDoor.Hand
