/- Hand walk: the iterator of encode.cuts. -/
import Derived.Test.YtdbokcgjdkbknaaEncB
namespace Go.Proofs.Ytdbokcgjdkbknaa.Hand
open Go.RowKit Go.Shelf Go.Proofs.YtdbokcgjdkbknaaW.PrintWords Go.Proofs.YtdbokcgjdkbknaaW.PrintLast Go.Proofs.YtdbokcgjdkbknaaW.PrintMore
set_option linter.unusedVariables false
set_option linter.unusedSimpArgs false
theorem pieces_length : ∀ (l : List Int) (s : ByteArray), (pieces l s).length = l.length
  | [], _ => rfl
  | n :: l, s => by simp [pieces, pieces_length l]
theorem restP_succ : ∀ (l : List Int) (s : ByteArray) (k : Nat) (h : k < l.length), restP l s (k + 1) = (restP l s k).extract (l[k]'h).toNat (restP l s k).size
  | n :: l, s, 0, _ => by cases l <;> rfl
  | n :: l, s, k + 1, h => by
    show restP l (s.extract n.toNat s.size) (k + 1) = (restP l (s.extract n.toNat s.size) k).extract _ (restP l (s.extract n.toNat s.size) k).size
    exact restP_succ l _ k (by simpa using h)
theorem pieces_get : ∀ (l : List Int) (s : ByteArray) (k : Nat) (h : k < l.length), (pieces l s)[k]? = some ((restP l s k).extract 0 (l[k]'h).toNat)
  | n :: l, s, 0, _ => rfl
  | n :: l, s, k + 1, h => by
    show (pieces l (s.extract n.toNat s.size))[k]? = some ((restP l (s.extract n.toNat s.size) k).extract 0 _)
    exact pieces_get l _ k (by simpa using h)
theorem pieces_take (l : List Int) (s : ByteArray) (k : Nat) (h : k < l.length) : (pieces l s).take (k + 1) = (pieces l s).take k ++ [(restP l s k).extract 0 (l[k]'h).toNat] := by
  rw [List.take_add_one, pieces_get l s k h]
  rfl
theorem cut_rest : ∀ (l : List Int) (s : ByteArray) (r : Int), cutL l s.size = some r → ∀ (k : Nat) (h : k < l.length), 1 ≤ (l[k]'h) ∧ (l[k]'h) ≤ ((restP l s k).size : Int)
  | n :: l, s, r, hc, 0, _ => by
    by_cases hb : n < 1 ∨ (s.size : Int) < n
    · rw [cutL_bad hb] at hc; cases hc
    · show 1 ≤ n ∧ n ≤ (s.size : Int)
      omega
  | n :: l, s, r, hc, k + 1, h => by
    by_cases hb : n < 1 ∨ (s.size : Int) < n
    · rw [cutL_bad hb] at hc; cases hc
    · rw [cutL_ok hb] at hc
      have hz : (s.size : Int) - n = ((s.extract n.toNat s.size).size : Int) := by rw [ByteArray.size_extract]; omega
      rw [hz] at hc
      exact cut_rest l _ r hc k (by simpa using h)
theorem restP_le : ∀ (l : List Int) (s : ByteArray) (k : Nat), (restP l s k).size ≤ s.size
  | _, s, 0 => by rw [show restP _ s 0 = s by cases ‹List Int› <;> rfl]; exact Nat.le_refl _
  | [], s, k + 1 => Nat.le_refl _
  | n :: l, s, k + 1 => by
    have := restP_le l (s.extract n.toNat s.size) k
    rw [ByteArray.size_extract] at this
    show (restP l (s.extract n.toNat s.size) k).size ≤ s.size
    omega
set_option maxRecDepth 100000 in
set_option maxHeartbeats 2000000 in
theorem cuts1_in (F : Fence) (n : Nat) (hf : F.fn 68) (hro : F.round = none) (hn : 1 ≤ n) (l b1 b2 n₀ : Nat) (s : ByteArray) (A : Option Addr) (c : Nat) (zs : List Int) (r : Int)
    (hs : s.size ≤ 140737488355328) (hlen : zs.length ≤ 140737488355328) (hcut : cutL zs s.size = some r) (J Jx : List ByteArray → World → Prop)
    (hY : ∀ pre x W, 1 ≤ x.size → x.size ≤ s.size → J pre W → pre.length < zs.length → YieldAt F (n - 1) Try.prog l #[.string x] W fun e W' =>
      (e = .returned (.bool true) ∧ J (pre ++ [x]) W' ∧ Below n₀ W W') ∨ (e = .returned (.bool false) ∧ Jx (pre ++ [x]) W'))
    (W : World) (h1 : W.cell? ⟨b1, 0, none⟩ = some (.string s)) (h2 : W.cell? ⟨b2, 0, none⟩ = some (.slice A zs.length c))
    (hz : ∀ (k : Nat) (hk : k < zs.length), ∃ ad, A = some ad ∧ ad.block < n₀ ∧ W.cell? (ad.add k) = some (.int .i64 (zs[k]'hk))) (h0 : J [] W) :
    CallsIn F n Try.prog 68 #[.func (.yield l) #[] #[], .pointer (some ⟨b1, 0, none⟩), .pointer (some ⟨b2, 0, none⟩)] W fun e W' => (∃ v, e = .returned v) ∧
      ((∃ ys, ys = pieces zs s ∧ J ys W') ∨ (∃ pre, True ∧ Jx pre W')) := by
  have hcutH := Lib.hid hcut
  have hzH := Lib.hid hz
  clear hcut hz
  refine callsIn_of_wp Try.func68 rfl hf ?_ hro
  simp only [Try.ntmps68, List.size_toArray, List.length_cons, List.length_nil, Nat.reduceAdd, Nat.reduceSub, Array.replicate_succ, Array.replicate_zero, List.push_toArray, List.append_toArray, List.nil_append, List.cons_append]
  gi_wp2
  gi_loopw [4, 10] (fun vr vi wr => ∃ k : Nat, k ≤ zs.length ∧ vi = .int .i64 k ∧ vr = .string (restP zs s k) ∧ J ((pieces zs s).take k) wr ∧ Below n₀ W wr)
    (fun _ vi _ => zs.length - (intOf vi).toNat)
  case atStart => exact ⟨0, Nat.zero_le _, rfl, by cases zs <;> rfl, h0, Below.refl _ _⟩
  case round =>
    obtain ⟨k, hk, rfl, rfl, hJs, hnx⟩ := hrel
    by_cases hlt : k < zs.length
    · obtain ⟨ad, rfl, hbk, hcell⟩ := hzH.out k hlt
      have hcx : wr.cell? (ad.add k) = some (.int .i64 (zs[k]'hlt)) := (hnx.cell (p := ad.add k) (by unfold Addr.add; split <;> simpa using hbk)).trans hcell
      obtain ⟨hg1, hg2⟩ := cut_rest zs s r hcutH.out k hlt
      have htk := pieces_take zs s k hlt
      have hrs := restP_succ zs s k hlt
      have hle := restP_le zs s k
      generalize hq : restP zs s k = q at *
      generalize zs[k]'hlt = m at *
      obtain ⟨fn, tmps, assign, body, hy, hR⟩ := hY _ (q.extract 0 m.toNat) wr (by rw [ByteArray.size_extract]; omega) (by rw [ByteArray.size_extract]; omega) hJs (by rw [List.length_take, pieces_length]; omega)
      have htkH := Lib.hid htk
      have hrsH := Lib.hid hrs
      have hleH := Lib.hid hle
      clear htk hrs hle hcell hq
      gi_wp2
      refine hR.mono ?_
      rintro e W3 (⟨rfl, hJ3, hk3⟩ | ⟨rfl, hJx3⟩)
      · gi_wp2
        go_roundw
        case rel => exact ⟨k + 1, by omega, by go_num, by rw [hrsH.out], by rw [htkH.out]; exact hJ3, hnx.trans hk3⟩
        case measure => simp [intOf]; omega
      · gi_wp2
        refine bodyPost_ret (results_none rfl _ _ _) rfl ?_
        exact ⟨⟨_, rfl⟩, .inr ⟨_, trivial, hJx3⟩⟩
    · obtain rfl : k = zs.length := by omega
      gi_wp2
      go_end0
      exact ⟨⟨_, rfl⟩, .inl ⟨_, rfl, by rw [List.take_of_length_le (by rw [pieces_length]; exact Nat.le_refl _)] at hJs; exact hJs⟩⟩
/-- A piece: not empty, and not too long. -/
abbrev Pc (M : Nat) := { x : ByteArray // 1 ≤ x.size ∧ x.size ≤ M }
theorem cuts1_stops (F : Fence) (n : Nat) (hf : F.fn 68) (hro : F.round = none) (hn : 1 ≤ n) (b1 b2 n₀ : Nat) (s : ByteArray) (A : Option Addr) (c : Nat) (zs : List Int) (r : Int) (w : World)
    (hs : s.size ≤ 140737488355328) (hlen : zs.length ≤ 140737488355328) (hcut : cutL zs s.size = some r) (hn0 : n₀ ≤ w.heap.size)
    (h1 : w.cell? ⟨b1, 0, none⟩ = some (.string s)) (h2 : w.cell? ⟨b2, 0, none⟩ = some (.slice A zs.length c))
    (hz : ∀ (k : Nat) (hk : k < zs.length), ∃ ad, A = some ad ∧ ad.block < n₀ ∧ w.cell? (ad.add k) = some (.int .i64 (zs[k]'hk))) :
    SeqStopsK F n Try.prog 68 #[.pointer (some ⟨b1, 0, none⟩), .pointer (some ⟨b2, 0, none⟩)] (fun x : Pc s.size => #[.string x.1]) (Below n₀) (fun xs => xs.map (·.1) = pieces zs s) (fun _ => True) zs.length w := fun l J Jx W hW _ _ hY h0 => by
  refine (cuts1_in F n hf hro hn l b1 b2 n₀ s A c zs r hs hlen hcut (fun pre W => ∃ p : List (Pc s.size), p.map (·.1) = pre ∧ J p W) (fun pre W => ∃ p : List (Pc s.size), p.map (·.1) = pre ∧ Jx p W) ?_ W (pw_cell_below hW h1) (pw_cell_below hW h2) (fun k hk => ?_) ⟨[], rfl, h0⟩).mono ?_
  · rintro pre x W1 g1 g2 ⟨p, rfl, hJ⟩ hl
    rw [List.length_map] at hl
    refine (hY p ⟨x, g1, g2⟩ W1 hJ hl).mono ?_
    rintro e W' (⟨rfl, hj, hk⟩ | ⟨rfl, hj⟩)
    · exact .inl ⟨rfl, ⟨_, by simp, hj⟩, hk⟩
    · exact .inr ⟨rfl, ⟨_, by simp, hj⟩⟩
  · obtain ⟨ad, e, hb, hc⟩ := hz k hk
    exact ⟨ad, e, hb, pw_cell_below hW hc⟩
  · rintro e W' ⟨he, ⟨ys, rfl, p, hp, hj⟩ | ⟨pre, _, p, hp, hj⟩⟩
    · exact ⟨he, .inl ⟨p, hp, hj⟩⟩
    · exact ⟨he, .inr ⟨p, trivial, hj⟩⟩
end Go.Proofs.Ytdbokcgjdkbknaa.Hand
