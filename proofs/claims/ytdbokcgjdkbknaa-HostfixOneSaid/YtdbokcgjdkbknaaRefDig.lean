/- Hand walks: the references' Digits, Text (layer 2), Text (layer 11). -/
import Derived.Test.YtdbokcgjdkbknaaHostT
import Derived.IntWalk
namespace Go.Proofs.Ytdbokcgjdkbknaa.Hand
open Go.RowKit Go.Proofs.YtdbokcgjdkbknaaW.PrintWords
set_option linter.unusedVariables false
set_option linter.unusedSimpArgs false
theorem digL_lt {b n : Nat} (h : n < b) : digL b n = [sg n] := by rw [digL, dif_pos (.inr h)]
theorem digL_ge {b n : Nat} (hb : 2 ≤ b) (h : ¬ n < b) : digL b n = digL b (n / b) ++ [sg (n % b)] := by rw [digL, dif_neg (by omega)]
theorem sig_at {d : Nat} (h : d < 16) : (⟨#[48, 49, 50, 51, 52, 53, 54, 55, 56, 57, 97, 98, 99, 100, 101, 102]⟩ : ByteArray).extract d (d + 1) = ba [sg d] := by
  have : ∀ d : Fin 16, ((⟨#[48, 49, 50, 51, 52, 53, 54, 55, 56, 57, 97, 98, 99, 100, 101, 102]⟩ : ByteArray).extract d.val (d.val + 1)).data.toList = [sg d.val] := by decide
  have h2 := this ⟨d, h⟩
  apply ByteArray.ext
  apply Array.ext'
  rw [h2]
  rfl
theorem u64_div {m b : Nat} (h : m ≤ 9223372036854775808) : IntKind.u64.wrap ((m : Int) / (b : Int)) = ((m / b : Nat) : Int) := by
  rw [← Int.natCast_ediv]
  have : m / b ≤ m := Nat.div_le_self _ _
  generalize m / b = q at *
  exact IntWalk.u64_in _ (by omega)
theorem Below_drewN {B : Nat} {w W : World} (h : Below B w W) (n : Nat) : Below B w (W.drewN n) := ⟨h.os, h.tape, h.output, h.size, h.block⟩
set_option maxHeartbeats 1000000 in
theorem refDigits_calls (n b : Nat) (w : World) (hb : b = 10 ∨ b = 16) (hn : n ≤ 9223372036854775808) :
    Calls Try.prog 89 #[.int .u64 n, .int .u64 b] w fun e w' => e = .returned (.string (ba (digL b n))) ∧ Below w.heap.size w w' := by
  obtain ⟨R, hR⟩ : ∃ R, digL b n = R := ⟨_, rfl⟩
  rw [hR]
  have hlen : R.length ≤ 20 := by rw [← hR]; exact digL_le 20 b n (by omega) (by omega) (by omega)
  have hR' : Hid (digL b n ++ [] = R) := by rw [List.append_nil]; exact hR
  have hlen' := Lib.hid hlen
  clear hR hlen
  have hb0 : b ≤ 16 := by omega
  have hb1 : 10 ≤ b := by omega
  have hb2 : ¬ b = 0 := by omega
  go_enter Try.func89, Try.ntmps89
  go_wp2
  go_loopw [0, 6] (fun vn vo wr => ∃ (m : Nat) (o : List UInt8), m ≤ 9223372036854775808 ∧ vn = .int .u64 m ∧ vo = .string (ba o) ∧ Hid (digL b m ++ o = R) ∧ Below w.heap.size w wr) (fun vn _ _ => (intOf vn).toNat)
  case atStart => exact ⟨n, [], hn, rfl, rfl, hR', Below.refl _ _⟩
  case round =>
    clear hR' hn n
    obtain ⟨m, o, hm, rfl, rfl, hI, hB⟩ := hrel
    have hol : (ba o).size ≤ 20 := by
      have := hlen'.out
      rw [← hI.out, List.length_append] at this
      rw [ba_size]
      omega
    by_cases hlt : m < b
    · have hI2 := hI.out
      rw [digL_lt hlt] at hI2
      have hI3 := Lib.hid hI2
      clear hI hI2
      go_wp2
      go_ret
      exact ⟨by rw [show (m + 1) = m + 1 from rfl]; rw [← hI3.out, ← ba_append, ← sig_at (by omega)]; rfl, hB⟩
    · have hI2 := hI.out
      rw [digL_ge (by omega) hlt, List.append_assoc] at hI2
      have hI3 := Lib.hid hI2
      clear hI hI2
      have hmod : m % b < b := Nat.mod_lt _ (by omega)
      have hdiv : m / b < m := Nat.div_lt_self (by omega) (by omega)
      go_wp2
      have f1 : (0 : Int) ≤ (m : Int) % (b : Int) := by omega
      have f2 : (m : Int) % (b : Int) < 16 := by have := Int.emod_lt_of_pos (m : Int) (show (0 : Int) < b by omega); omega
      have f3 : IntKind.u64.wrap ((m : Int) / (b : Int)) = ((m / b : Nat) : Int) := u64_div hm
      go_quiet (fail)
      go_wp2
      go_roundw
      case rel => exact ⟨m / b, sg (m % b) :: o, Nat.le_trans (Nat.le_of_lt hdiv) hm, rfl, by rw [sig_at (by omega), ba_append]; rfl, hI3.out, Below_drewN hB _⟩
      case measure => simp [intOf]; exact hdiv
set_option maxHeartbeats 1000000 in
theorem refText_calls (n : Int) (w : World) (h0 : -9223372036854775808 ≤ n) (h1 : n ≤ 9223372036854775807) :
    Calls Try.prog 57 #[.int .i64 n] w fun e w' => e = .returned (.string (ba (textL n))) ∧ Below w.heap.size w w' := by
  have hl := digL_len (b := 10) (by omega) h0 h1
  by_cases hn : n < 0
  · have e : ba (textL n) = ⟨#[45]⟩ ++ ba (digL 10 n.natAbs) := by unfold textL; rw [if_pos hn]; rfl
    rw [e]
    clear e
    obtain ⟨t, ht⟩ : ∃ t, ba (digL 10 n.natAbs) = t := ⟨_, rfl⟩
    have hts : t.size ≤ 20 := by rw [← ht, ba_size]; exact hl
    have H := Lib.hid ht
    rw [ht]
    clear ht hl
    go_enter Try.func57, Try.ntmps57
    go_wp2_with (fail)
    rw [show -(n + 1) + 1 = ((n.natAbs : Nat) : Int) from by omega]
    refine (refDigits_calls n.natAbs 10 _ (.inl rfl) (by omega)).mono ?_
    rw [H.out]
    rintro e w' ⟨rfl, hb⟩
    go_wp2
    go_ret
    exact ⟨rfl, hb⟩
  · have e : ba (textL n) = ba (digL 10 n.natAbs) := by unfold textL; rw [if_neg hn]
    rw [e]
    clear e hl
    obtain ⟨t, ht⟩ : ∃ t, ba (digL 10 n.natAbs) = t := ⟨_, rfl⟩
    have H := Lib.hid ht
    rw [ht]
    clear ht
    go_enter Try.func57, Try.ntmps57
    go_wp2_with (fail)
    rw [show n = ((n.natAbs : Nat) : Int) from by omega]
    refine (refDigits_calls n.natAbs 10 _ (.inl rfl) (by omega)).mono ?_
    rw [H.out]
    rintro e w' ⟨rfl, hb⟩
    go_wp2
    go_ret
    exact ⟨rfl, hb⟩
theorem info_u8 : (Try.prog.info? 5).map (fun i => (i.zero, i.size, i.bytes)) = some (some (.int .u8 0), 1, 1) := by kernel_rfl
def numsL (l : List UInt8) : List Int := l.map fun b => (b.toNat : Int)
theorem strOf_nums (l : List UInt8) : strOfNums (numsL l) = ba l := by
  unfold strOfNums numsL ba
  rw [List.map_map]
  congr 2
  conv => rhs; rw [← List.map_id l]
  apply List.map_congr_left
  intro x _
  simp
theorem numsL_len (l : List UInt8) : (numsL l).length = l.length := by simp [numsL]
theorem low_snoc {s : ByteArray} {k : Nat} (hk : k < s.size) : numsL (lowL (s.data.toList.take (k + 1))) = numsL (lowL (s.data.toList.take k)) ++ [((lowB (s[k]'hk)).toNat : Int)] := by
  rw [List.take_succ_eq_append_getElem (by simpa using hk)]
  simp [numsL, lowL]
  rfl
theorem low_snoc_up {s : ByteArray} {k : Nat} (hk : k < s.size) (h : 65 ≤ ((s[k]'hk).toNat : Int) ∧ ((s[k]'hk).toNat : Int) ≤ 90) : numsL (lowL (s.data.toList.take (k + 1))) = numsL (lowL (s.data.toList.take k)) ++ [((s[k]'hk).toNat : Int) + 32] := by
  rw [low_snoc hk, lowB_up h]
theorem low_snoc_no {s : ByteArray} {k : Nat} (hk : k < s.size) (h : ¬ (65 ≤ ((s[k]'hk).toNat : Int) ∧ ((s[k]'hk).toNat : Int) ≤ 90)) : numsL (lowL (s.data.toList.take (k + 1))) = numsL (lowL (s.data.toList.take k)) ++ [((s[k]'hk).toNat : Int)] := by
  rw [low_snoc hk, lowB_no h]
set_option maxHeartbeats 1000000 in
set_option maxRecDepth 100000 in
theorem refLower_calls (s : ByteArray) (w : World) (hs : s.size ≤ 140737488351232) :
    Calls Try.prog 24 #[.string s] w fun e w' => e = .returned (.string (ba (lowL s.data.toList))) ∧ Below w.heap.size w w' := by
  go_enter Try.func24, Try.ntmps24
  go_wp2
  go_loopw [3, 4] (fun vo vi wr => ∃ k : Nat, k ≤ s.size ∧ vi = .int .i64 k ∧ Hid (Kd.R (Kd.int .u8) 5 wr w.heap.size (fun _ => True) vo (numsL (lowL (s.data.toList.take k)))) ∧ Below w.heap.size w wr) (fun _ vi _ => s.size - (intOf vi).toNat)
  case atStart => exact ⟨0, Nat.zero_le _, rfl, ⟨fun _ _ => trivial, [], by have h := World.ownsRow_lit (base := w.heap.size) (e := 5) (size := 1) w #[] 0 (Nat.le_refl _) (by decide) rfl; exact h, Reps.none _ _⟩, (Below.refl _ _).alloc (Nat.le_refl _) _⟩
  case round =>
    obtain ⟨k, hk, rfl, hO, hB⟩ := hrel
    by_cases hlt : k < s.size
    · have hcu := UInt8.toNat_lt (s[k]'hlt)
      have hlen : (numsL (lowL (s.data.toList.take k))).length ≤ s.size := by simp [numsL, lowL]; omega
      by_cases hup : 65 ≤ ((s[k]'hlt).toNat : Int) ∧ ((s[k]'hlt).toNat : Int) ≤ 90
      · have hu1 := hup.1
        have hu2 := hup.2
        have hst := Lib.hid (low_snoc_up hlt hup)
        clear hup
        go_wp2_with (at_builtin; refine Kd.R_append (Kd.int .u8) (w0 := w) w.heap.size rfl (.tmp 24) (.tmp 26) 71 5 (.int .u8 0) 1 rfl Try.underlying71 info_u8 rfl (by decide) (by omega) _ _ (((s[k]'hlt).toNat : Int) + 32) [.int .u8 (((s[k]'hlt).toNat : Int) + 32)] (fun _ => True) (fun _ => False) rfl rfl ?aP (fun _ hk => hk.elim) ?aF hO.out ?aB ?aS ?aL ?_; (case aP => exact rfl); (case aF => exact fun _ _ => trivial); (case aB => exact hB); (case aS => exact hB.size); (case aL => omega); intro v1 w1 ho hb1 hg hat; clear hO hg hat)
        have ho' := Lib.hid ho
        clear ho
        go_wp2
        go_roundw
        case rel => exact ⟨k + 1, by omega, by go_num, by rw [hst.out]; exact ho'.out, hb1⟩
        case measure => simp [intOf]; omega
      · have hst := Lib.hid (low_snoc_no hlt hup)
        by_cases hu1 : 65 ≤ ((s[k]'hlt).toNat : Int)
        · have hu2 : ¬ ((s[k]'hlt).toNat : Int) ≤ 90 := fun h => hup ⟨hu1, h⟩
          clear hup
          go_wp2_with (at_builtin; refine Kd.R_append (Kd.int .u8) (w0 := w) w.heap.size rfl (.tmp 24) (.tmp 26) 71 5 (.int .u8 0) 1 rfl Try.underlying71 info_u8 rfl (by decide) (by omega) _ _ (((s[k]'hlt).toNat : Int)) [.int .u8 (((s[k]'hlt).toNat : Int))] (fun _ => True) (fun _ => False) rfl rfl ?aP (fun _ hk => hk.elim) ?aF hO.out ?aB ?aS ?aL ?_; (case aP => exact rfl); (case aF => exact fun _ _ => trivial); (case aB => exact hB); (case aS => exact hB.size); (case aL => omega); intro v1 w1 ho hb1 hg hat; clear hO hg hat)
          have ho' := Lib.hid ho
          clear ho
          go_wp2
          go_roundw
          case rel => exact ⟨k + 1, by omega, by go_num, by rw [hst.out]; exact ho'.out, hb1⟩
          case measure => simp [intOf]; omega
        · clear hup
          go_wp2_with (at_builtin; refine Kd.R_append (Kd.int .u8) (w0 := w) w.heap.size rfl (.tmp 24) (.tmp 26) 71 5 (.int .u8 0) 1 rfl Try.underlying71 info_u8 rfl (by decide) (by omega) _ _ (((s[k]'hlt).toNat : Int)) [.int .u8 (((s[k]'hlt).toNat : Int))] (fun _ => True) (fun _ => False) rfl rfl ?aP (fun _ hk => hk.elim) ?aF hO.out ?aB ?aS ?aL ?_; (case aP => exact rfl); (case aF => exact fun _ _ => trivial); (case aB => exact hB); (case aS => exact hB.size); (case aL => omega); intro v1 w1 ho hb1 hg hat; clear hO hg hat)
          have ho' := Lib.hid ho
          clear ho
          go_wp2
          go_roundw
          case rel => exact ⟨k + 1, by omega, by go_num, by rw [hst.out]; exact ho'.out, hb1⟩
          case measure => simp [intOf]; omega
    · obtain rfl : k = s.size := by omega
      rw [List.take_of_length_le (by simp)] at hO
      obtain ⟨A, c, rfl, hc, hr⟩ := Kd.R_reads hO.out
      have hcv := Kd.C_string (P := Try.prog) (w := wr) (src := 71) (dst := 9) (e := 5) (A := A) (c := c) (xs := numsL (lowL s.data.toList)) Try.underlying71 Try.underlying5 Try.underlying9 hr
      rw [strOf_nums] at hcv
      clear hO hr
      go_wp2
      go_ret
      exact ⟨rfl, hB⟩
set_option maxHeartbeats 400000 in
theorem refHostText_calls (s : ByteArray) (n : Int) (w : World) (hs : s.size ≤ 140737488351232) (h0 : -9223372036854775808 ≤ n) (h1 : n ≤ 9223372036854775807) :
    Calls Try.prog 23 #[.string s, .int .i64 n] w fun e w' => e = .returned (.string (ba (hostTextL s.data.toList n))) ∧ Below w.heap.size w w' := by
  obtain ⟨u, hu⟩ : ∃ u, ba (lowL s.data.toList) = u := ⟨_, rfl⟩
  have hus : u.size ≤ 140737488351232 := by rw [← hu, ba_size]; simpa [lowL] using hs
  have hlow := fun W => refLower_calls s W hs
  rw [hu] at hlow
  by_cases hn : n = 80
  · have e : ba (hostTextL s.data.toList n) = u := by unfold hostTextL; rw [if_pos hn, hu]
    rw [e]
    clear e hu
    subst hn
    have H := Lib.hid hlow
    clear hlow
    go_enter Try.func23, Try.ntmps23
    go_wp2_with (go_at_call 24; refine (H.out _).mono ?_; rintro e w' ⟨rfl, hb⟩)
    go_ret
    exact ⟨rfl, hb⟩
  · have e : ba (hostTextL s.data.toList n) = u ++ ⟨#[58]⟩ ++ ba (textL n) := by
      unfold hostTextL
      rw [if_neg hn, ← hu, show (⟨#[58]⟩ : ByteArray) = ba [58] from rfl, ba_append, ba_append, List.append_assoc]
      rfl
    rw [e]
    clear e hu
    obtain ⟨t, ht⟩ : ∃ t, ba (textL n) = t := ⟨_, rfl⟩
    have hts : t.size ≤ 21 := by rw [← ht, ba_size]; exact textL_len h0 h1
    have HT := Lib.hid ht
    rw [ht]
    clear ht
    have hn1 : (n != 80) = true := by simpa using hn
    clear hn
    have hu1 : (u ++ ⟨#[58]⟩).size = u.size + 1 := by simp [ByteArray.size_append]; rfl
    have H := Lib.hid hlow
    clear hlow
    go_enter Try.func23, Try.ntmps23
    go_wp2_with (first | (go_at_call 24; refine (H.out _).mono ?_; rintro e w' ⟨rfl, hb⟩) | (go_at_call 57; refine (refText_calls _ _ h0 h1).mono ?_; rw [HT.out]; rintro e w'' ⟨rfl, hb2⟩))
    go_ret
    exact ⟨rfl, hb.trans (hb2.mono hb.size)⟩
def abutmentref02_Text.f (a0 : Int) : Option ByteArray := if -9223372036854775808 ≤ a0 ∧ a0 ≤ 9223372036854775807 then some (ba (textL a0)) else none
theorem abutmentref02_Text.calls (a0 : Int) (r : ByteArray) (w : World) (h : abutmentref02_Text.f a0 = some r) :
    Calls Try.prog 57 #[.int .i64 a0] w fun e w' => e = .returned (.string r) ∧ Below w.heap.size w w' := by
  unfold abutmentref02_Text.f at h
  split at h
  · rename_i hc
    obtain rfl := Option.some.inj h
    exact refText_calls a0 w hc.1 hc.2
  · exact absurd h (by simp)
def abutmentref01_Lower.f (a0 : ByteArray) : Option ByteArray := if a0.size ≤ 140737488351232 then some (ba (lowL a0.data.toList)) else none
theorem abutmentref01_Lower.calls (a0 : ByteArray) (r : ByteArray) (w : World) (h : abutmentref01_Lower.f a0 = some r) :
    Calls Try.prog 24 #[.string a0] w fun e w' => e = .returned (.string r) ∧ Below w.heap.size w w' := by
  unfold abutmentref01_Lower.f at h
  split at h
  · rename_i hc
    obtain rfl := Option.some.inj h
    exact refLower_calls a0 w hc
  · exact absurd h (by simp)
def abutmentref11_Text.f (a0 : ByteArray) (a1 : Int) : Option ByteArray := if a0.size ≤ 140737488351232 ∧ -9223372036854775808 ≤ a1 ∧ a1 ≤ 9223372036854775807 then some (ba (hostTextL a0.data.toList a1)) else none
theorem abutmentref11_Text.calls (a0 : ByteArray) (a1 : Int) (r : ByteArray) (w : World) (h : abutmentref11_Text.f a0 a1 = some r) :
    Calls Try.prog 23 #[.string a0, .int .i64 a1] w fun e w' => e = .returned (.string r) ∧ Below w.heap.size w w' := by
  unfold abutmentref11_Text.f at h
  split at h
  · rename_i hc
    obtain rfl := Option.some.inj h
    exact refHostText_calls a0 a1 w hc.1 hc.2.1 hc.2.2
  · exact absurd h (by simp)
end Go.Proofs.Ytdbokcgjdkbknaa.Hand
