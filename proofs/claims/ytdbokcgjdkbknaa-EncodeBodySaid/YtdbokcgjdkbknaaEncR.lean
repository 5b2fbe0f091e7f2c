/- Hand walk: the reference's Body (layer 25). -/
import Derived.Test.YtdbokcgjdkbknaaEncF
import Derived.Test.YtdbokcgjdkbknaaPE0x2
import Derived.Deep.RegionHeld3
namespace Go.Proofs.Ytdbokcgjdkbknaa.Hand
open Go.RowKit Go.Proofs.Ytdbokcgjdkbknaa.PE0 Go.Proofs.YtdbokcgjdkbknaaW.PrintWords Go.Proofs.YtdbokcgjdkbknaaW.PrintLast Go.Proofs.YtdbokcgjdkbknaaW.PrintMore
set_option linter.unusedVariables false
set_option linter.unusedSimpArgs false
theorem rbegin_s {n : Nat} (h : 1 ≤ n) (hn : n ≤ 1000000) : abutmentref25_Begin.f (n : Int) = some (ba (begL n)) := by
  unfold abutmentref25_Begin.f abutmentref14_Line.f abutmentref02_HexText.f
  have hw : IntKind.u64.wrap (n : Int) = (n : Int) := IntWalk.u64_in _ (by omega)
  rw [if_neg (by omega), if_neg (by omega), if_neg (by omega), hw]
  unfold abutmentref02_Digits.f
  rw [if_pos ⟨.inr rfl, by omega, by omega⟩]
  simp only [Option.bind_some]
  have hl : (digL (16 : Int).toNat (n : Int).toNat).length ≤ 20 := digL_len (b := 16) (n := (n : Int)) (by omega) (by omega) (by omega)
  have hz : (ba (digL (16 : Int).toNat (n : Int).toNat)).size ≤ 20 := by rw [ba_size]; exact hl
  rw [if_pos (by omega)]
  simp only [Option.bind_some]
  show some (ba _ ++ ba [13, 10]) = _
  rw [ba_append]
  rfl
theorem pieces_le : ∀ (l : List Int) (s : ByteArray), ∀ p ∈ pieces l s, p.size ≤ s.size
  | [], _, _, h => by cases h
  | n :: l, s, p, h => by
    rcases List.mem_cons.1 h with rfl | h
    · rw [ByteArray.size_extract]; omega
    · have := pieces_le l _ p h
      rw [ByteArray.size_extract] at this
      omega
theorem chunksB_le : ∀ (l : List ByteArray), (∀ p ∈ l, p.size ≤ 1000000) → (chunksB l).length ≤ l.length * 1000024
  | [], _ => by simp [chunksB]
  | p :: l, h => by
    have h1 := chunkB_len (p := p) (h p (by simp))
    have h2 := chunksB_le l (fun q hq => h q (by simp [hq]))
    have h3 : chunksB (p :: l) = chunkB p ++ chunksB l := by simp [chunksB]
    rw [h3, List.length_append, List.length_cons]
    omega
/-- Is one of some fields wrong, by the reference? (All are looked at.) -/
def anyR (k : Nat) : List S61 → Option Bool
  | [] => some false
  | x :: l => (abutmentref09_Right.f k x.f0 x.f1).bind fun b => (anyR k l).bind fun r => some (!b || r)
theorem anyR_mono (l : List S61) (k : Nat) : LeO (anyR k l) (anyR (k + 1) l) := by
  induction l with
  | nil => exact LeO.refl _
  | cons x l ih => exact LeO.bind (abutmentref09_Right.mono _ _ k) (fun _ => LeO.bind ih (fun _ => LeO.refl _))
def plainB (kd fl : Int) (s : ByteArray) : Bool := (kd == 0 && s.toList.isEmpty) || (kd == 1 && fl == (s.size : Int)) || kd == 3
section
variable (kd fl : Int) (A1 : Option Addr) (c1 : Nat) (zs : List Int) (s : ByteArray) (A3 : Option Addr) (c3 : Nat) (l3 : List S61) (w : World)
set_option maxHeartbeats 2000000 in
set_option maxRecDepth 100000 in
theorem RBody_neg (h : fl < 0) :
    Calls Try.prog 12 #[.agg #[.int .i64 kd, .int .i64 fl], .slice A1 zs.length c1, .string s, .slice A3 l3.length c3] w fun e W' => e = .returned (.tuple #[.string ⟨#[]⟩, .int .i64 14]) ∧ Below w.heap.size w W' := by
  go_enter Try.func12, Try.ntmps12
  go_wp2
  all_goals
    go_ret2
    exact ⟨rfl, (Below.refl _ _).alloc (Nat.le_refl _) _⟩
/-- The plain answer, where nothing stands in the way. -/
def plRes (b : Bool) (n : Nat) (s : ByteArray) : Array Value := if b = true ∧ n = 0 then #[.string s, .int .i64 0] else #[.string ⟨#[]⟩, .int .i64 14]
theorem plRes_no {b : Bool} {n : Nat} {s : ByteArray} (h : ¬ (b = true ∧ n = 0)) : plRes b n s = #[.string ⟨#[]⟩, .int .i64 14] := by unfold plRes; rw [if_neg h]
theorem plRes_yes {n : Nat} {s : ByteArray} (h : n = 0) : plRes true n s = #[.string s, .int .i64 0] := by unfold plRes; rw [if_pos ⟨rfl, h⟩]
set_option maxHeartbeats 4000000 in
set_option maxRecDepth 100000 in
theorem RBody_plain (h : ¬ fl < 0) (hk : ¬ kd = 2) (hz : zs.length ≤ 1000000) (hl3 : l3.length ≤ 1000000) :
    Calls Try.prog 12 #[.agg #[.int .i64 kd, .int .i64 fl], .slice A1 zs.length c1, .string s, .slice A3 l3.length c3] w fun e W' => e = .returned (.tuple (plRes (plainB kd fl s) (zs.length + l3.length) s)) ∧ Below w.heap.size w W' := by
  have hk2 : (kd != 2) = true := by simpa using hk
  have h1 : 0 ≤ fl := by omega
  generalize hm : zs.length = m at *
  generalize hn : l3.length = n at *
  clear hm hn h
  have key : ∀ b, plainB kd fl s = b → (b = false ∨ (b = true ∧ (m = 0 ∧ n = 0 ∨ 0 < m ∨ (m = 0 ∧ 0 < n)))) := fun b _ => by
    cases b
    · exact .inl rfl
    · exact .inr ⟨rfl, by omega⟩
  by_cases k0 : kd = 0
  · subst k0
    clear hk hk2
    cases he : s.toList.isEmpty
    · have e : plainB 0 fl s = false := by unfold plainB; rw [he]; rfl
      rw [e, plRes_no (by simp)]
      clear key e
      go_enter Try.func12, Try.ntmps12
      go_wp2
      go_ret2
      exact ⟨rfl, (Below.refl _ _).alloc (Nat.le_refl _) _⟩
    · have e : plainB 0 fl s = true := by unfold plainB; rw [he]; rfl
      rcases (key _ e) with hb | ⟨_, ⟨rfl, rfl⟩ | hm | ⟨rfl, hn⟩⟩
      · cases hb
      · rw [e, plRes_yes rfl]
        clear key e
        go_enter Try.func12, Try.ntmps12
        go_wp2
        go_ret2
        exact ⟨rfl, (Below.refl _ _).alloc (Nat.le_refl _) _⟩
      · rw [e, plRes_no (by omega)]
        have hm' : (0 : Int) < (m : Int) := by omega
        clear key e
        go_enter Try.func12, Try.ntmps12
        go_wp2
        go_ret2
        exact ⟨rfl, (Below.refl _ _).alloc (Nat.le_refl _) _⟩
      · rw [e, plRes_no (by omega)]
        have hn' : (0 : Int) < (n : Int) := by omega
        clear key e
        go_enter Try.func12, Try.ntmps12
        go_wp2
        go_ret2
        exact ⟨rfl, (Below.refl _ _).alloc (Nat.le_refl _) _⟩
  · have q0 : (kd == 0) = false := by rw [beq_eq_false_iff_ne]; exact k0
    by_cases k1 : kd = 1
    · subst k1
      clear hk hk2 k0 q0
      cases he : (fl == (s.size : Int))
      · have e : plainB 1 fl s = false := by unfold plainB; rw [he]; rfl
        rw [e, plRes_no (by simp)]
        clear key e
        go_enter Try.func12, Try.ntmps12
        go_wp2
        go_ret2
        exact ⟨rfl, (Below.refl _ _).alloc (Nat.le_refl _) _⟩
      · have e : plainB 1 fl s = true := by unfold plainB; rw [he]; rfl
        rcases (key _ e) with hb | ⟨_, ⟨rfl, rfl⟩ | hm | ⟨rfl, hn⟩⟩
        · cases hb
        · rw [e, plRes_yes rfl]
          clear key e
          go_enter Try.func12, Try.ntmps12
          go_wp2
          go_ret2
          exact ⟨rfl, (Below.refl _ _).alloc (Nat.le_refl _) _⟩
        · rw [e, plRes_no (by omega)]
          have hm' : (0 : Int) < (m : Int) := by omega
          clear key e
          go_enter Try.func12, Try.ntmps12
          go_wp2
          go_ret2
          exact ⟨rfl, (Below.refl _ _).alloc (Nat.le_refl _) _⟩
        · rw [e, plRes_no (by omega)]
          have hn' : (0 : Int) < (n : Int) := by omega
          clear key e
          go_enter Try.func12, Try.ntmps12
          go_wp2
          go_ret2
          exact ⟨rfl, (Below.refl _ _).alloc (Nat.le_refl _) _⟩
    · have q1 : (kd == 1) = false := by rw [beq_eq_false_iff_ne]; exact k1
      cases he : (kd == 3)
      · have e : plainB kd fl s = false := by unfold plainB; rw [q0, q1, he]; rfl
        rw [e, plRes_no (by simp)]
        clear key e hk k0 k1
        go_enter Try.func12, Try.ntmps12
        go_wp2
        go_ret2
        exact ⟨rfl, (Below.refl _ _).alloc (Nat.le_refl _) _⟩
      · have e : plainB kd fl s = true := by unfold plainB; rw [q0, q1, he]; rfl
        rcases (key _ e) with hb | ⟨_, ⟨rfl, rfl⟩ | hm | ⟨rfl, hn⟩⟩
        · cases hb
        · rw [e, plRes_yes rfl]
          clear key e hk k0 k1
          go_enter Try.func12, Try.ntmps12
          go_wp2
          go_ret2
          exact ⟨rfl, (Below.refl _ _).alloc (Nat.le_refl _) _⟩
        · rw [e, plRes_no (by omega)]
          have hm' : (0 : Int) < (m : Int) := by omega
          clear key e hk k0 k1
          go_enter Try.func12, Try.ntmps12
          go_wp2
          go_ret2
          exact ⟨rfl, (Below.refl _ _).alloc (Nat.le_refl _) _⟩
        · rw [e, plRes_no (by omega)]
          have hn' : (0 : Int) < (n : Int) := by omega
          clear key e hk k0 k1
          go_enter Try.func12, Try.ntmps12
          go_wp2
          go_ret2
          exact ⟨rfl, (Below.refl _ _).alloc (Nat.le_refl _) _⟩
end
end Go.Proofs.Ytdbokcgjdkbknaa.Hand
