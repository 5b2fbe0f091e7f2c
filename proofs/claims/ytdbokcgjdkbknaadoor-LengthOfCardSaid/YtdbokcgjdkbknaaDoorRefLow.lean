/- Hand walk: the reference's Lower (layer 1). -/
import Derived.Test.YtdbokcgjdkbknaaDoorDigT
import Derived.Test.YtdbokcgjdkbknaaDoorLow
import Derived.IntWalk
namespace Go.Proofs.YtdbokcgjdkbknaaDoor.Hand
open Go.RowKit Go.Proofs.YtdbokcgjdkbknaaDoorW.PrintWords
set_option linter.unusedVariables false
set_option linter.unusedSimpArgs false
theorem info_u8 : (Tryd.prog.info? 5).map (fun i => (i.zero, i.size, i.bytes)) = some (some (.int .u8 0), 1, 1) := by kernel_rfl
def numsL (l : List UInt8) : List Int := l.map fun b => (b.toNat : Int)
theorem strOf_nums (l : List UInt8) : strOfNums (numsL l) = ba l := by
  unfold strOfNums numsL ba
  rw [List.map_map]
  congr 2
  conv => rhs; rw [← List.map_id l]
  apply List.map_congr_left
  intro x _
  simp
theorem numsL_len (l : List UInt8) : (numsL l).length = l.length := by simp [numsL]
theorem low_snoc {s : ByteArray} {k : Nat} (hk : k < s.size) : numsL (lowL (s.data.toList.take (k + 1))) = numsL (lowL (s.data.toList.take k)) ++ [((lowB (s[k]'hk)).toNat : Int)] := by
  rw [List.take_succ_eq_append_getElem (by simpa using hk)]
  simp [numsL, lowL]
  rfl
theorem low_snoc_up {s : ByteArray} {k : Nat} (hk : k < s.size) (h : 65 ≤ ((s[k]'hk).toNat : Int) ∧ ((s[k]'hk).toNat : Int) ≤ 90) : numsL (lowL (s.data.toList.take (k + 1))) = numsL (lowL (s.data.toList.take k)) ++ [((s[k]'hk).toNat : Int) + 32] := by
  rw [low_snoc hk, lowB_up h]
theorem low_snoc_no {s : ByteArray} {k : Nat} (hk : k < s.size) (h : ¬ (65 ≤ ((s[k]'hk).toNat : Int) ∧ ((s[k]'hk).toNat : Int) ≤ 90)) : numsL (lowL (s.data.toList.take (k + 1))) = numsL (lowL (s.data.toList.take k)) ++ [((s[k]'hk).toNat : Int)] := by
  rw [low_snoc hk, lowB_no h]
set_option maxHeartbeats 1000000 in
set_option maxRecDepth 100000 in
theorem refLower_calls (s : ByteArray) (w : World) (hs : s.size ≤ 140737488351232) :
    Calls Tryd.prog 83 #[.string s] w fun e w' => e = .returned (.string (ba (lowL s.data.toList))) ∧ Below w.heap.size w w' := by
  go_enter Tryd.func83, Tryd.ntmps83
  go_wp2
  go_loopw [3, 4] (fun vo vi wr => ∃ k : Nat, k ≤ s.size ∧ vi = .int .i64 k ∧ Hid (Kd.R (Kd.int .u8) 5 wr w.heap.size (fun _ => True) vo (numsL (lowL (s.data.toList.take k)))) ∧ Below w.heap.size w wr) (fun _ vi _ => s.size - (intOf vi).toNat)
  case atStart => exact ⟨0, Nat.zero_le _, rfl, ⟨fun _ _ => trivial, [], by have h := World.ownsRow_lit (base := w.heap.size) (e := 5) (size := 1) w #[] 0 (Nat.le_refl _) (by decide) rfl; exact h, Reps.none _ _⟩, (Below.refl _ _).alloc (Nat.le_refl _) _⟩
  case round =>
    obtain ⟨k, hk, rfl, hO, hB⟩ := hrel
    by_cases hlt : k < s.size
    · have hcu := UInt8.toNat_lt (s[k]'hlt)
      have hlen : (numsL (lowL (s.data.toList.take k))).length ≤ s.size := by simp [numsL, lowL]; omega
      by_cases hup : 65 ≤ ((s[k]'hlt).toNat : Int) ∧ ((s[k]'hlt).toNat : Int) ≤ 90
      · have hu1 := hup.1
        have hu2 := hup.2
        have hst := Lib.hid (low_snoc_up hlt hup)
        clear hup
        go_wp2_with (at_builtin; refine Kd.R_append (Kd.int .u8) (w0 := w) w.heap.size rfl (.tmp 24) (.tmp 26) 81 5 (.int .u8 0) 1 rfl Tryd.underlying81 info_u8 rfl (by decide) (by omega) _ _ (((s[k]'hlt).toNat : Int) + 32) [.int .u8 (((s[k]'hlt).toNat : Int) + 32)] (fun _ => True) (fun _ => False) rfl rfl ?aP (fun _ hk => hk.elim) ?aF hO.out ?aB ?aS ?aL ?_; (case aP => exact rfl); (case aF => exact fun _ _ => trivial); (case aB => exact hB); (case aS => exact hB.size); (case aL => omega); intro v1 w1 ho hb1 hg hat; clear hO hg hat)
        have ho' := Lib.hid ho
        clear ho
        go_wp2
        go_roundw
        case rel => exact ⟨k + 1, by omega, by go_num, by rw [hst.out]; exact ho'.out, hb1⟩
        case measure => simp [intOf]; omega
      · have hst := Lib.hid (low_snoc_no hlt hup)
        by_cases hu1 : 65 ≤ ((s[k]'hlt).toNat : Int)
        · have hu2 : ¬ ((s[k]'hlt).toNat : Int) ≤ 90 := fun h => hup ⟨hu1, h⟩
          clear hup
          go_wp2_with (at_builtin; refine Kd.R_append (Kd.int .u8) (w0 := w) w.heap.size rfl (.tmp 24) (.tmp 26) 81 5 (.int .u8 0) 1 rfl Tryd.underlying81 info_u8 rfl (by decide) (by omega) _ _ (((s[k]'hlt).toNat : Int)) [.int .u8 (((s[k]'hlt).toNat : Int))] (fun _ => True) (fun _ => False) rfl rfl ?aP (fun _ hk => hk.elim) ?aF hO.out ?aB ?aS ?aL ?_; (case aP => exact rfl); (case aF => exact fun _ _ => trivial); (case aB => exact hB); (case aS => exact hB.size); (case aL => omega); intro v1 w1 ho hb1 hg hat; clear hO hg hat)
          have ho' := Lib.hid ho
          clear ho
          go_wp2
          go_roundw
          case rel => exact ⟨k + 1, by omega, by go_num, by rw [hst.out]; exact ho'.out, hb1⟩
          case measure => simp [intOf]; omega
        · clear hup
          go_wp2_with (at_builtin; refine Kd.R_append (Kd.int .u8) (w0 := w) w.heap.size rfl (.tmp 24) (.tmp 26) 81 5 (.int .u8 0) 1 rfl Tryd.underlying81 info_u8 rfl (by decide) (by omega) _ _ (((s[k]'hlt).toNat : Int)) [.int .u8 (((s[k]'hlt).toNat : Int))] (fun _ => True) (fun _ => False) rfl rfl ?aP (fun _ hk => hk.elim) ?aF hO.out ?aB ?aS ?aL ?_; (case aP => exact rfl); (case aF => exact fun _ _ => trivial); (case aB => exact hB); (case aS => exact hB.size); (case aL => omega); intro v1 w1 ho hb1 hg hat; clear hO hg hat)
          have ho' := Lib.hid ho
          clear ho
          go_wp2
          go_roundw
          case rel => exact ⟨k + 1, by omega, by go_num, by rw [hst.out]; exact ho'.out, hb1⟩
          case measure => simp [intOf]; omega
    · obtain rfl : k = s.size := by omega
      rw [List.take_of_length_le (by simp)] at hO
      obtain ⟨A, c, rfl, hc, hr⟩ := Kd.R_reads hO.out
      have hcv := Kd.C_string (P := Tryd.prog) (w := wr) (src := 81) (dst := 9) (e := 5) (A := A) (c := c) (xs := numsL (lowL s.data.toList)) Tryd.underlying81 Tryd.underlying5 Tryd.underlying9 hr
      rw [strOf_nums] at hcv
      clear hO hr
      go_wp2
      go_ret
      exact ⟨rfl, hB⟩
def abutmentref01_Lower.f (a0 : ByteArray) : Option ByteArray := if a0.size ≤ 140737488351232 then some (ba (lowL a0.data.toList)) else none
theorem abutmentref01_Lower.calls (a0 : ByteArray) (r : ByteArray) (w : World) (h : abutmentref01_Lower.f a0 = some r) :
    Calls Tryd.prog 83 #[.string a0] w fun e w' => e = .returned (.string r) ∧ Below w.heap.size w w' := by
  unfold abutmentref01_Lower.f at h
  split at h
  · rename_i hc
    obtain rfl := Option.some.inj h
    exact refLower_calls a0 w hc
  · exact absurd h (by simp)
end Go.Proofs.YtdbokcgjdkbknaaDoor.Hand
