/- Hand walk: encode.Body, whole, in the printer's form. -/
import Derived.Test.YtdbokcgjdkbknaaEncD
namespace Go.Proofs.Ytdbokcgjdkbknaa.Hand
open Go.RowKit Go.Shelf Go.Proofs.Ytdbokcgjdkbknaa.PE0 Go.Proofs.YtdbokcgjdkbknaaW.PrintWords Go.Proofs.YtdbokcgjdkbknaaW.PrintLast Go.Proofs.YtdbokcgjdkbknaaW.PrintMore
set_option linter.unusedVariables false
set_option linter.unusedSimpArgs false
section
variable (kd fl : Int) (A1 : Option Addr) (c1 : Nat) (zs : List Int) (s : ByteArray) (A3 : Option Addr) (c3 : Nat) (l3 : List S61) (w : World)
set_option maxHeartbeats 1000000 in
theorem Body_neg (h : fl < 0) :
    Calls Try.prog 11 #[.agg #[.int .i64 kd, .int .i64 fl], .slice A1 zs.length c1, .string s, .slice A3 l3.length c3] w fun e W' => e = .returned (.tuple #[.string ⟨#[]⟩, .int .i64 14]) ∧ Below w.heap.size w W' := by
  go_enter Try.func11, Try.ntmps11
  go_wp2
  go_ret2
  exact ⟨rfl, (Below.refl _ _).alloc (Nat.le_refl _) _⟩
set_option maxHeartbeats 1000000 in
theorem Body_plain (h : ¬ fl < 0) (hk : ¬ kd = 2) (ok : Bool) (hf : encode_fits.f kd fl s = some ok) (hz : zs.length ≤ 1000000) (hl3 : l3.length ≤ 1000000) :
    Calls Try.prog 11 #[.agg #[.int .i64 kd, .int .i64 fl], .slice A1 zs.length c1, .string s, .slice A3 l3.length c3] w fun e W' => e = .returned (.tuple (if ok = true ∧ zs.length + l3.length = 0 then #[.string s, .int .i64 0] else #[.string ⟨#[]⟩, .int .i64 14])) ∧ Below w.heap.size w W' := by
  have cF := fun W => encode_fits.calls kd fl s ok W hf
  have hk2 : (kd != 2) = true := by simpa using hk
  have h1 : 0 ≤ fl := by omega
  clear hf hk h
  generalize hm : zs.length = m at *
  generalize hn : l3.length = n at *
  clear hm hn
  by_cases hg : ok = true ∧ m + n = 0
  · rw [if_pos hg]
    obtain ⟨rfl, h0⟩ := hg
    obtain rfl : m = 0 := by omega
    obtain rfl : n = 0 := by omega
    go_enter Try.func11, Try.ntmps11
    go_wp2_with (go_at_call 37; refine (cF _).mono ?_; rintro e w' ⟨rfl, hb⟩)
    go_ret2
    exact ⟨rfl, by first | exact ((Below.refl _ _).alloc (Nat.le_refl _) _).trans (hb.mono (by simp)) | (obtain ⟨q, rfl⟩ := hb; exact pw_below_drewN ((Below.refl _ _).alloc (Nat.le_refl _) _) q)⟩
  · rw [if_neg hg]
    cases ok
    · clear hg
      go_enter Try.func11, Try.ntmps11
      go_wp2_with (go_at_call 37; refine (cF _).mono ?_; rintro e w' ⟨rfl, hb⟩)
      go_ret2
      exact ⟨rfl, by first | exact ((Below.refl _ _).alloc (Nat.le_refl _) _).trans (hb.mono (by simp)) | (obtain ⟨q, rfl⟩ := hb; exact pw_below_drewN ((Below.refl _ _).alloc (Nat.le_refl _) _) q)⟩
    · have hp : (0 : Int) < (m : Int) + (n : Int) := by
        have : ¬ m + n = 0 := fun h => hg ⟨rfl, h⟩
        omega
      clear hg
      go_enter Try.func11, Try.ntmps11
      go_wp2_with (go_at_call 37; refine (cF _).mono ?_; rintro e w' ⟨rfl, hb⟩)
      go_ret2
      exact ⟨rfl, by first | exact ((Below.refl _ _).alloc (Nat.le_refl _) _).trans (hb.mono (by simp)) | (obtain ⟨q, rfl⟩ := hb; exact pw_below_drewN ((Below.refl _ _).alloc (Nat.le_refl _) _) q)⟩
set_option maxHeartbeats 1000000 in
theorem Body_cut (h : ¬ fl < 0) (hcut : ¬ cutL zs s.size = some 0) (hr1 : Kd.C (Kd.int .i64) w A1 zs.length zs) (hc1 : zs.length ≤ c1) (hz : zs.length ≤ 1000000) (hs : s.size ≤ 1000000) :
    Calls Try.prog 11 #[.agg #[.int .i64 2, .int .i64 fl], .slice A1 zs.length c1, .string s, .slice A3 l3.length c3] w fun e W' => e = .returned (.tuple #[.string ⟨#[]⟩, .int .i64 14]) ∧ Below w.heap.size w W' := by
  have h1 : 0 ≤ fl := by omega
  have cC : ∀ o, Calls Try.prog 38 #[.string s, .slice A1 zs.length c1] (w.alloc o) fun e w' => (∃ v, e = .returned (.tuple #[v, .bool false])) ∧ Below w.heap.size w w' := fun o => by
    have hb : Below w.heap.size w (w.alloc o) := (Below.refl _ _).alloc (Nat.le_refl _) _
    refine (cuts_calls s A1 c1 zs (w.alloc o) (Kd.C_below hr1 hb) hc1 (by omega) (by omega)).mono ?_
    rintro e w' ⟨rfl, rfl⟩
    refine ⟨?_, (hb.alloc hb.size _).alloc (by have := hb.size; simp at this ⊢; omega) _⟩
    cases hq : cutL zs s.size with
    | none => exact ⟨_, rfl⟩
    | some left =>
      rw [hq] at hcut
      have : (left == 0) = false := by rw [beq_eq_false_iff_ne]; exact fun h => hcut (by rw [h])
      have e : cutsEnd (w.alloc o).heap.size (some left) = .returned (.tuple #[.func (.func 68) #[] #[.pointer (some ⟨(w.alloc o).heap.size, 0, none⟩), .pointer (some ⟨(w.alloc o).heap.size + 1, 0, none⟩)], .bool (left == 0)]) := rfl
      rw [this] at e
      exact ⟨_, e⟩
  clear hcut h hr1
  go_enter Try.func11, Try.ntmps11
  go_wp2_with (go_at_call 38; refine (cC _).mono ?_; rintro e w' ⟨⟨v, rfl⟩, hb⟩)
  go_ret2
  exact ⟨rfl, hb⟩
set_option maxHeartbeats 1000000 in
theorem Body_wrong (k : Nat) (h : ¬ fl < 0) (hcut : cutL zs s.size = some 0) (hw : Fp.anyW k l3 = some true) (hr1 : Kd.C (Kd.int .i64) w A1 zs.length zs) (hc1 : zs.length ≤ c1) (hr3 : Kd.C k61 w A3 l3.length l3) (hc3 : l3.length ≤ c3) (hz : zs.length ≤ 1000000) (hs : s.size ≤ 1000000) (hl3 : l3.length ≤ 1000000) :
    Calls Try.prog 11 #[.agg #[.int .i64 2, .int .i64 fl], .slice A1 zs.length c1, .string s, .slice A3 l3.length c3] w fun e W' => e = .returned (.tuple #[.string ⟨#[]⟩, .int .i64 7]) ∧ Below w.heap.size w W' := by
  have h1 : 0 ≤ fl := by omega
  have cC : ∀ o, Calls Try.prog 38 #[.string s, .slice A1 zs.length c1] (w.alloc o) fun e w' => (∃ v, e = .returned (.tuple #[v, .bool true])) ∧ Below w.heap.size w w' := fun o => by
    have hb : Below w.heap.size w (w.alloc o) := (Below.refl _ _).alloc (Nat.le_refl _) _
    refine (cuts_calls s A1 c1 zs (w.alloc o) (Kd.C_below hr1 hb) hc1 (by omega) (by omega)).mono ?_
    rw [hcut]
    rintro e w' ⟨rfl, rfl⟩
    exact ⟨⟨_, rfl⟩, (hb.alloc hb.size _).alloc (by have := hb.size; simp at this ⊢; omega) _⟩
  have cW := fun W (h : Kd.C k61 W A3 l3.length l3) => Fp.anyWrong_calls k A3 c3 l3 true W h hc3 (by omega) hw
  have hr3' := Lib.hid hr3
  clear hcut h hr1 hr3 hw
  go_enter Try.func11, Try.ntmps11
  go_wp2_with (go_at_call 38; refine (cC _).mono ?_; rintro e w' ⟨⟨v, rfl⟩, hb⟩)
  go_wp2_with (go_at_call 39; refine (cW _ (Kd.C_below hr3'.out hb)).mono ?_; rintro e w2 ⟨rfl, hb2⟩)
  go_ret2
  exact ⟨rfl, hb.trans (hb2.mono hb.size)⟩
end
def encode_Body.f (k : Nat) (a0_0 a0_1 : Int) (l1 : List Int) (a2 : ByteArray) (l3 : List S61) : Option (ByteArray × Int) :=
  if l1.length ≤ 1000000 ∧ a2.size ≤ 1000000 ∧ l3.length ≤ 1000000 then
    if a0_1 < 0 then some (⟨#[]⟩, 14)
    else if a0_0 = 2 then
      if cutL l1 a2.size = some 0 then (Fp.anyW k l3).bind fun b => if b = true then some (⟨#[]⟩, 7) else (encode_Last.f k l3).bind fun t => if t.size ≤ 70368744177664 then some (ba (chunksB (pieces l1 a2)) ++ t, 0) else none
      else some (⟨#[]⟩, 14)
    else (encode_fits.f a0_0 a0_1 a2).bind fun ok => if ok = true ∧ l1.length + l3.length = 0 then some (a2, 0) else some (⟨#[]⟩, 14)
  else none
theorem encode_Body.mono : ∀ a0_0 a0_1 l1 a2 l3 k, LeO (encode_Body.f k a0_0 a0_1 l1 a2 l3) (encode_Body.f (k + 1) a0_0 a0_1 l1 a2 l3) := by
  intro a0_0 a0_1 l1 a2 l3 k
  unfold encode_Body.f
  refine LeO.ite (LeO.ite (LeO.refl _) (LeO.ite (LeO.ite (LeO.bind (Fp.anyW_mono l3 k) (fun _ => LeO.ite (LeO.refl _) (LeO.bind (encode_Last.mono _ k) (fun _ => LeO.refl _)))) (LeO.refl _)) (LeO.refl _))) (LeO.refl _)
theorem encode_Body.calls (k : Nat) (a0_0 : Int) (a0_1 : Int) (A1 : Option Addr) (c1 : Nat) (l1 : List Int) (a2 : ByteArray) (A3 : Option Addr) (c3 : Nat) (l3 : List S61) (r1 : ByteArray) (r2 : Int) (w : World) (hr1 : Kd.C (Kd.int .i64) w A1 l1.length l1) (hc1 : l1.length ≤ c1) (hr3 : Kd.C k61 w A3 l3.length l3) (hc3 : l3.length ≤ c3) (h : encode_Body.f k a0_0 a0_1 l1 a2 l3 = some (r1, r2)) :
    Calls Try.prog 11 #[.agg #[.int .i64 a0_0, .int .i64 a0_1], .slice A1 l1.length c1, .string a2, .slice A3 l3.length c3] w fun e w' => e = .returned (.tuple #[.string r1, .int .i64 r2]) ∧ Below w.heap.size w w' := by
  unfold encode_Body.f at h
  by_cases hb : l1.length ≤ 1000000 ∧ a2.size ≤ 1000000 ∧ l3.length ≤ 1000000
  · rw [if_pos hb] at h
    obtain ⟨hz, hs, hl⟩ := hb
    by_cases hn : a0_1 < 0
    · rw [if_pos hn] at h
      cases h
      exact Body_neg _ _ _ _ _ _ _ _ _ w hn
    · rw [if_neg hn] at h
      by_cases hk : a0_0 = 2
      · subst hk
        rw [if_pos rfl] at h
        by_cases hc : cutL l1 a2.size = some 0
        · rw [if_pos hc] at h
          obtain ⟨b, hw, h⟩ := Option.bind_eq_some_iff.1 h
          cases b
          · rw [if_neg (by simp)] at h
            obtain ⟨t, hL, h⟩ := Option.bind_eq_some_iff.1 h
            by_cases ht : t.size ≤ 70368744177664
            · rw [if_pos ht] at h
              cases h
              exact Body_chunked k a0_1 A1 c1 l1 a2 A3 c3 l3 t w hr1 hc1 hr3 hc3 hz hs hl (by omega) hc hw hL ht
            · rw [if_neg ht] at h; cases h
          · rw [if_pos rfl] at h
            cases h
            exact Body_wrong _ _ _ _ _ _ _ _ w k hn hc hw hr1 hc1 hr3 hc3 hz hs hl
        · rw [if_neg hc] at h
          cases h
          exact Body_cut _ _ _ _ _ _ _ _ w hn hc hr1 hc1 hz hs
      · rw [if_neg hk] at h
        obtain ⟨ok, hf, h⟩ := Option.bind_eq_some_iff.1 h
        refine (Body_plain a0_0 a0_1 A1 c1 l1 a2 A3 c3 l3 w hn hk ok hf hz hl).mono ?_
        rintro e w' ⟨rfl, hb⟩
        refine ⟨?_, hb⟩
        by_cases hq : ok = true ∧ l1.length + l3.length = 0
        · rw [if_pos hq] at h ⊢
          cases h
          rfl
        · rw [if_neg hq] at h ⊢
          cases h
          rfl
  · rw [if_neg hb] at h
    cases h
end Go.Proofs.Ytdbokcgjdkbknaa.Hand
