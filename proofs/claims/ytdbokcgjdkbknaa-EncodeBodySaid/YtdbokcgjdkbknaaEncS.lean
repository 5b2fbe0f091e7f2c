/- Hand walk: the reference's Body (layer 25) where the body is written in chunks; Body whole, in the printer's form. -/
import Derived.Test.YtdbokcgjdkbknaaEncR
namespace Go.Proofs.Ytdbokcgjdkbknaa.Hand
open Go.RowKit Go.Proofs.Ytdbokcgjdkbknaa.PE0 Go.Proofs.YtdbokcgjdkbknaaW.PrintWords Go.Proofs.YtdbokcgjdkbknaaW.PrintLast Go.Proofs.YtdbokcgjdkbknaaW.PrintMore
set_option linter.unusedVariables false
set_option linter.unusedSimpArgs false
theorem anyR_cons {k : Nat} {x : S61} {l : List S61} {r : Bool} (h : anyR k (x :: l) = some r) : ∃ b r', abutmentref09_Right.f k x.f0 x.f1 = some b ∧ anyR k l = some r' ∧ r = (!b || r') := by
  obtain ⟨b, hb, h1⟩ := Option.bind_eq_some_iff.1 h
  obtain ⟨r', hr, h2⟩ := Option.bind_eq_some_iff.1 h1
  exact ⟨b, r', hb, hr, (Option.some.inj h2).symm⟩
/-- How the reference's Body ends. -/
def rbEnd (R : Option Int) (wr : Bool) (out : ByteArray) : Ending :=
  if R = some 0 then if wr = true then .returned (.tuple #[.string ⟨#[]⟩, .int .i64 7]) else .returned (.tuple #[.string out, .int .i64 0]) else .returned (.tuple #[.string ⟨#[]⟩, .int .i64 14])
theorem rbEnd_cut {R : Option Int} {wr : Bool} {out : ByteArray} (h : ¬ R = some 0) : .returned (.tuple #[.string ⟨#[]⟩, .int .i64 14]) = rbEnd R wr out := by unfold rbEnd; rw [if_neg h]
theorem rbEnd_wrong {R : Option Int} {wr : Bool} {out : ByteArray} (h : R = some 0) (hw : wr = true) : .returned (.tuple #[.string ⟨#[]⟩, .int .i64 7]) = rbEnd R wr out := by unfold rbEnd; rw [if_pos h, if_pos hw]
theorem rbEnd_ok {R : Option Int} {wr : Bool} {out : ByteArray} (h : R = some 0) (hw : wr = false) : .returned (.tuple #[.string out, .int .i64 0]) = rbEnd R wr out := by unfold rbEnd; rw [if_pos h, if_neg (by simp [hw])]
set_option maxHeartbeats 4000000 in
set_option maxRecDepth 100000 in
theorem RBody_chunked (k : Nat) (fl : Int) (A1 : Option Addr) (c1 : Nat) (zs : List Int) (s : ByteArray) (A3 : Option Addr) (c3 : Nat) (l3 : List S61) (t : ByteArray) (wrong : Bool) (w : World)
    (hr1 : Kd.C (Kd.int .i64) w A1 zs.length zs) (hc1 : zs.length ≤ c1) (hr3 : Kd.C k61 w A3 l3.length l3) (hc3 : l3.length ≤ c3) (hz : zs.length ≤ 1000000) (hs : s.size ≤ 1000000) (hl3 : l3.length ≤ 1000000) (hfl : 0 ≤ fl)
    (hw : anyR k l3 = some wrong) (hL : abutmentref25_Last.f k l3 = some t) (ht : t.size ≤ 70368744177664) :
    Calls Try.prog 12 #[.agg #[.int .i64 2, .int .i64 fl], .slice A1 zs.length c1, .string s, .slice A3 l3.length c3] w fun e W' => e = rbEnd (cutL zs s.size) wrong (ba (chunksB (pieces zs s)) ++ t) ∧ Below w.heap.size w W' := by
  obtain ⟨R, hR⟩ : ∃ R, cutL zs s.size = R := ⟨_, rfl⟩
  rw [hR]
  have hR' : Hid (cutL (zs.drop 0) (restP zs s 0).size = R) := by rw [List.drop_zero]; cases zs <;> exact hR
  have cL := fun W (h : Kd.C k61 W A3 l3.length l3) => abutmentref25_Last.calls k A3 c3 l3 t W h hc3 hL
  have hr1' := Lib.hid hr1
  have hr3' := Lib.hid hr3
  have hw' := Lib.hid hw
  have hfl1 : ¬ fl < 0 := by omega
  have hu := Try.underlying61
  clear hL hr1 hr3 hR hw hfl
  have hB0 : ∀ o, Below w.heap.size w (w.alloc o) := fun o => (Below.refl _ w).alloc (Nat.le_refl _) _
  go_enter Try.func12, Try.ntmps12
  go_wp2
  go_loopw [2, 11, 12] (fun vs vo vi wr => ∃ j : Nat, j ≤ zs.length ∧ vi = .int .i64 j ∧ vs = .string (restP zs s j) ∧ vo = .string (ba (chunksB ((pieces zs s).take j))) ∧ Below w.heap.size w wr ∧ Hid (cutL (zs.drop j) (restP zs s j).size = R)) (fun _ _ vi _ => zs.length - (intOf vi).toNat)
  case atStart => exact ⟨0, Nat.zero_le _, rfl, by cases zs <;> rfl, rfl, hB0 _, hR'⟩
  case round =>
    clear hR'
    obtain ⟨j, hj, rfl, rfl, rfl, hB, hI⟩ := hrel
    by_cases hlt : j < zs.length
    · have hI2 := hI.out
      rw [List.drop_eq_getElem_cons hlt] at hI2
      clear hI
      obtain ⟨ad, rfl, hcell⟩ := int_at hr1'.out hB j hlt
      have htk := pieces_take zs s j hlt
      have hrs := restP_succ zs s j hlt
      have hle := restP_le zs s j
      have hbl : (chunksB ((pieces zs s).take j)).length ≤ 1000024000000 := by
        have := chunksB_le ((pieces zs s).take j) (fun p hp => Nat.le_trans (pieces_le zs s p (List.mem_of_mem_take hp)) hs)
        have h2 : ((pieces zs s).take j).length ≤ j := List.length_take_le _ _
        omega
      generalize hq : restP zs s j = q at *
      generalize zs[j]'hlt = n at *
      have hch : chunksB ((pieces zs s).take (j + 1)) = chunksB ((pieces zs s).take j) ++ chunkB (q.extract 0 n.toNat) := by rw [htk]; exact chunksB_snoc _ _
      generalize hbs : chunksB ((pieces zs s).take j) = bs at hbl hch ⊢
      have hchH := Lib.hid hch
      have hrsH := Lib.hid hrs
      clear htk hq hbs hch hrs
      by_cases hbad : n < 1 ∨ (q.size : Int) < n
      · rw [cutL_bad hbad] at hI2
        have hI3 := Lib.hid hI2
        clear hI2
        rcases hbad with hb | hb
        · go_wp2
          go_ret2
          exact ⟨rbEnd_cut (by rw [← hI3.out]; simp), hB⟩
        · go_wp2
          all_goals
            go_ret2
            exact ⟨rbEnd_cut (by rw [← hI3.out]; simp), hB⟩
      · rw [cutL_ok hbad] at hI2
        have h1 : 1 ≤ n := by omega
        have h2 : n ≤ (q.size : Int) := by omega
        have h3 : ¬ n < 1 := by omega
        have h4 : ¬ (q.size : Int) < n := by omega
        have hI3 : Hid (cutL (zs.drop (j + 1)) (q.extract n.toNat q.size).size = R) := by
          have e : ((q.extract n.toNat q.size).size : Int) = (q.size : Int) - n := by rw [ByteArray.size_extract]; omega
          unfold Hid
          rw [e]
          exact hI2
        clear hI2 hbad
        obtain ⟨m, rfl⟩ : ∃ m : Nat, n = m := ⟨n.toNat, by omega⟩
        have hb14 := rbegin_s (n := m) (by omega) (by omega)
        have cB := fun W => abutmentref25_Begin.calls (m : Int) (ba (begL m)) W hb14
        have hbz : (ba (begL m)).size ≤ 22 := by rw [ba_size]; exact begL_len (by omega)
        have hpz : (q.extract 0 m).size = m := by rw [ByteArray.size_extract]; omega
        have hcb := chunkB_ba (q.extract 0 m)
        rw [hpz] at hcb
        have hoz : (ba bs).size ≤ 1000024000000 := by rw [ba_size]; exact hbl
        have hcat : ba bs ++ ba (begL m) ++ q.extract 0 m ++ ⟨#[13, 10]⟩ = ba (bs ++ chunkB (q.extract 0 m)) := by
          rw [← ba_append, ← hcb, ByteArray.append_assoc, ByteArray.append_assoc, ByteArray.append_assoc]
        have hcatH := Lib.hid hcat
        have hchH2 : Hid (chunksB ((pieces zs s).take (j + 1)) = bs ++ chunkB (q.extract 0 m)) := by
          have := hchH.out
          rw [Int.toNat_natCast] at this
          exact this
        have hrsH2 : Hid (restP zs s (j + 1) = q.extract m q.size) := by
          have := hrsH.out
          rw [Int.toNat_natCast] at this
          exact this
        rw [Int.toNat_natCast] at hI3
        clear hb14 hcb hcat hchH hrsH hbl
        generalize ba (begL m) = bg at cB hbz hcatH
        generalize ba bs = out at hoz hcatH ⊢
        have q1 : (9223372036854775807 < out.size + bg.size) = False := eq_false (by omega)
        have q2 : (9223372036854775807 < out.size + bg.size + m) = False := eq_false (by omega)
        have q3 : (9223372036854775807 < out.size + bg.size + m + 2) = False := eq_false (by omega)
        have i0 : (0 : Int) ≤ (j : Int) := Int.natCast_nonneg _
        have i1 : (j : Int) < (zs.length : Int) := by omega
        have i2 : (0 : Int) ≤ (m : Int) := Int.natCast_nonneg _
        go_wp2
        go_region_held3 (fun w' => w'.cell? (ad.add j) = some (.int .i64 (m : Int)) ∧ Below w.heap.size w w')
          (first
            | exact ⟨hcell, hB.drew⟩
            | (go_split_ands; exact ⟨pw_cell_below hb3 (by assumption), Below.trans (by assumption) (hb3.mono (Below.size (by assumption)))⟩)
            | go_keep)
          (first | (go_at_call 14; refine (cB _).mono ?_; rintro e w3 ⟨rfl, hb3⟩))
        all_goals
          have hB3 : Below w.heap.size w w3 := hB.drew.trans (hb3.mono hB.size)
          have hc3' : w3.cell? (ad.add j) = some (.int .i64 (m : Int)) := pw_cell_below hb3 hcell
          go_wp2
          go_roundw
          case rel => exact ⟨j + 1, by omega, by go_num, by rw [hrsH2.out], by rw [hchH2.out, hcatH.out], hB3, by rw [hrsH2.out]; exact hI3⟩
          case measure => simp [intOf]; omega
    · obtain rfl : j = zs.length := by omega
      have hI2 := hI.out
      rw [List.drop_of_length_le (Nat.le_refl _)] at hI2
      have hI3 : Hid (R = some ((restP zs s zs.length).size : Int)) := hI2.symm
      have hbl : (chunksB ((pieces zs s).take zs.length)).length ≤ 1000024000000 := by
        have := chunksB_le ((pieces zs s).take zs.length) (fun p hp => Nat.le_trans (pieces_le zs s p (List.mem_of_mem_take hp)) hs)
        have h2 : ((pieces zs s).take zs.length).length ≤ zs.length := List.length_take_le _ _
        omega
      have htk : (pieces zs s).take zs.length = pieces zs s := List.take_of_length_le (by rw [pieces_length]; exact Nat.le_refl _)
      rw [htk] at hbl ⊢
      clear hI hI2 htk
      have hoz : (ba (chunksB (pieces zs s))).size ≤ 1000024000000 := by rw [ba_size]; exact hbl
      clear hbl
      obtain ⟨out, hout⟩ : ∃ out, ba (chunksB (pieces zs s)) = out := ⟨_, rfl⟩
      rw [hout] at hoz ⊢
      have houtH := Lib.hid hout
      clear hout
      generalize restP zs s zs.length = q at hI3 ⊢
      by_cases hq : q.toList = []
      · have hq1 : q.toList.isEmpty = true := by rw [hq]; rfl
        have hR0 : Hid (R = some 0) := by
          have hz0 : q.size = 0 := by
            rw [toList_eq] at hq
            have := congrArg List.length hq
            simpa using this
          have := hI3.out
          rw [hz0] at this
          exact this
        clear hI3 hq
        go_wp2
        go_loopw [13] (fun vi wr => ∃ j : Nat, ∃ r : Bool, j ≤ l3.length ∧ vi = .int .i64 j ∧ Below w.heap.size w wr ∧ Hid (anyR k (l3.drop j) = some r ∧ r = wrong)) (fun vi _ => l3.length - (intOf vi).toNat)
        case atStart => exact ⟨0, wrong, Nat.zero_le _, rfl, hB, ⟨hw'.out, rfl⟩⟩
        case round =>
          clear hB
          obtain ⟨j, r, hj, rfl, hB, hJ⟩ := hrel
          obtain ⟨hJ1, hJ2⟩ := hJ.out
          clear hJ
          by_cases hlt : j < l3.length
          · rw [List.drop_eq_getElem_cons hlt] at hJ1
            obtain ⟨ad, rfl, hcell0, hcell1⟩ := Fp.field_at hr3'.out hB j hlt
            generalize l3[j]'hlt = x at hJ1 hcell0 hcell1
            obtain ⟨b, r', hb, hr, e⟩ := anyR_cons hJ1
            have cR := fun W => abutmentref09_Right.calls k x.f0 x.f1 b W hb
            clear hJ1 hb
            cases b
            · have hwr : Hid (wrong = true) := by rw [← hJ2, e]; rfl
              clear hJ2 e hr
              go_wp2_with (go_at_call 44; refine (cR _).mono ?_; rintro e w4 ⟨rfl, hb4⟩)
              go_ret2
              exact ⟨rbEnd_wrong hR0.out hwr.out, hB.trans (hb4.mono hB.size)⟩
            · have hJ3 : Hid (anyR k (l3.drop (j + 1)) = some r' ∧ r' = wrong) := ⟨hr, by rw [← hJ2, e]; rfl⟩
              clear hJ2 e hr
              go_wp2_with (go_at_call 44; refine (cR _).mono ?_; rintro e w4 ⟨rfl, hb4⟩)
              go_roundw
              case rel => exact ⟨j + 1, r', by omega, by go_num, hB.trans (hb4.mono hB.size), hJ3⟩
              case measure => simp [intOf]; omega
          · rw [List.drop_of_length_le (by omega)] at hJ1
            have hwr : Hid (wrong = false) := by rw [← hJ2]; exact (Option.some.inj hJ1).symm
            clear hJ1 hJ2
            have q1 : (9223372036854775807 < out.size + t.size) = False := eq_false (by omega)
            go_wp2_with (go_at_call 16; refine (cL _ (Kd.C_below hr3'.out hB)).mono ?_; rintro e w4 ⟨rfl, hb4⟩)
            go_ret2
            exact ⟨by rw [houtH.out]; exact rbEnd_ok hR0.out hwr.out, hB.trans (hb4.mono hB.size)⟩
      · have hq1 : q.toList.isEmpty = false := by cases h' : q.toList <;> simp_all
        have hRn : Hid (¬ R = some 0) := by
          have := hI3.out
          intro h
          rw [h] at this
          have hz0 : q.size = 0 := by have := Option.some.inj this; omega
          apply hq
          rw [toList_eq]
          apply List.eq_nil_of_length_eq_zero
          rw [Array.length_toList]
          exact hz0
        clear hI3 hq
        go_wp2
        go_ret2
        exact ⟨rbEnd_cut hRn.out, hB⟩
def abutmentref25_Body.f (k : Nat) (a0_0 a0_1 : Int) (l1 : List Int) (a2 : ByteArray) (l3 : List S61) : Option (ByteArray × Int) :=
  if l1.length ≤ 1000000 ∧ a2.size ≤ 1000000 ∧ l3.length ≤ 1000000 then
    if a0_1 < 0 then some (⟨#[]⟩, 14)
    else if a0_0 = 2 then
      (anyR k l3).bind fun b => (abutmentref25_Last.f k l3).bind fun t => if t.size ≤ 70368744177664 then some (if cutL l1 a2.size = some 0 then if b = true then (⟨#[]⟩, 7) else (ba (chunksB (pieces l1 a2)) ++ t, 0) else (⟨#[]⟩, 14)) else none
    else some (if plainB a0_0 a0_1 a2 = true ∧ l1.length + l3.length = 0 then (a2, 0) else (⟨#[]⟩, 14))
  else none
theorem abutmentref25_Body.mono : ∀ a0_0 a0_1 l1 a2 l3 k, LeO (abutmentref25_Body.f k a0_0 a0_1 l1 a2 l3) (abutmentref25_Body.f (k + 1) a0_0 a0_1 l1 a2 l3) := by
  intro a0_0 a0_1 l1 a2 l3 k
  unfold abutmentref25_Body.f
  exact LeO.ite (LeO.ite (LeO.refl _) (LeO.ite (LeO.bind (anyR_mono l3 k) (fun _ => LeO.bind (abutmentref25_Last.mono _ k) (fun _ => LeO.refl _))) (LeO.refl _))) (LeO.refl _)
theorem abutmentref25_Body.calls (k : Nat) (a0_0 : Int) (a0_1 : Int) (A1 : Option Addr) (c1 : Nat) (l1 : List Int) (a2 : ByteArray) (A3 : Option Addr) (c3 : Nat) (l3 : List S61) (r1 : ByteArray) (r2 : Int) (w : World) (hr1 : Kd.C (Kd.int .i64) w A1 l1.length l1) (hc1 : l1.length ≤ c1) (hr3 : Kd.C k61 w A3 l3.length l3) (hc3 : l3.length ≤ c3) (h : abutmentref25_Body.f k a0_0 a0_1 l1 a2 l3 = some (r1, r2)) :
    Calls Try.prog 12 #[.agg #[.int .i64 a0_0, .int .i64 a0_1], .slice A1 l1.length c1, .string a2, .slice A3 l3.length c3] w fun e w' => e = .returned (.tuple #[.string r1, .int .i64 r2]) ∧ Below w.heap.size w w' := by
  unfold abutmentref25_Body.f at h
  by_cases hb : l1.length ≤ 1000000 ∧ a2.size ≤ 1000000 ∧ l3.length ≤ 1000000
  · rw [if_pos hb] at h
    obtain ⟨hz, hs, hl⟩ := hb
    by_cases hn : a0_1 < 0
    · rw [if_pos hn] at h
      cases h
      exact RBody_neg _ _ _ _ _ _ _ _ _ w hn
    · rw [if_neg hn] at h
      by_cases hk : a0_0 = 2
      · subst hk
        rw [if_pos rfl] at h
        obtain ⟨b, hw, h⟩ := Option.bind_eq_some_iff.1 h
        obtain ⟨t, hL, h⟩ := Option.bind_eq_some_iff.1 h
        by_cases ht : t.size ≤ 70368744177664
        · rw [if_pos ht] at h
          have h := Option.some.inj h
          refine (RBody_chunked k a0_1 A1 c1 l1 a2 A3 c3 l3 t b w hr1 hc1 hr3 hc3 hz hs hl (by omega) hw hL ht).mono ?_
          rintro e w' ⟨rfl, hbl⟩
          refine ⟨?_, hbl⟩
          unfold rbEnd
          by_cases hc : cutL l1 a2.size = some 0
          · rw [if_pos hc] at h ⊢
            by_cases hbb : b = true
            · rw [if_pos hbb] at h ⊢; cases h; rfl
            · rw [if_neg hbb] at h ⊢; cases h; rfl
          · rw [if_neg hc] at h ⊢; cases h; rfl
        · rw [if_neg ht] at h; cases h
      · rw [if_neg hk] at h
        have h := Option.some.inj h
        refine (RBody_plain a0_0 a0_1 A1 c1 l1 a2 A3 c3 l3 w hn hk hz hl).mono ?_
        rintro e w' ⟨rfl, hbl⟩
        refine ⟨?_, hbl⟩
        unfold plRes
        by_cases hq : plainB a0_0 a0_1 a2 = true ∧ l1.length + l3.length = 0
        · rw [if_pos hq] at h ⊢; cases h; rfl
        · rw [if_neg hq] at h ⊢; cases h; rfl
  · rw [if_neg hb] at h
    cases h
end Go.Proofs.Ytdbokcgjdkbknaa.Hand
