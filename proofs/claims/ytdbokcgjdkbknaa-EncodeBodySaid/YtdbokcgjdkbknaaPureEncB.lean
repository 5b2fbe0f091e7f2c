/- Plain: the body's writing, by the program and by the reference. -/
import Derived.Test.YtdbokcgjdkbknaaPureEncA
import Derived.Test.YtdbokcgjdkbknaaPE2x2
namespace Go.Proofs.Ytdbokcgjdkbknaa.PE0
open Go.RowKit Go.Proofs.Ytdbokcgjdkbknaa.Hand Go.Proofs.Ytdbokcgjdkbknaa.PE1 Go.Proofs.Ytdbokcgjdkbknaa.PE2 Go.Proofs.YtdbokcgjdkbknaaW.PrintWords Go.Proofs.YtdbokcgjdkbknaaW.PrintLast Go.Proofs.YtdbokcgjdkbknaaW.PrintMore
set_option linter.unusedVariables false
set_option linter.unusedSectionVars false
set_option linter.unusedSimpArgs false
/-! wrong fields -/
def anyS (l : List S61) : Bool := l.any fun x => !rightS x.f0 x.f1
theorem Ev.weak {α : Type} {g f : Nat → Option α} {r : α} (h : ∀ k, g k = f k) (e : Ev f r) : Ev g r := by
  have : g = f := funext h
  rw [this]; exact e
theorem anyW_ev : ∀ l : List S61, (∀ x ∈ l, x.f0.size ≤ 100) → (∀ x ∈ l, x.f1.size ≤ 300) → Ev (fun k => Fp.anyW k l) (anyS l)
  | [], _, _ => Ev.now _
  | x :: l, h0, h1 => by
    have a := h0 x (by simp)
    have b := h1 x (by simp)
    refine Ev.bind (right_s x.f0 x.f1 (by omega) (by omega)) (Ev.bind (anyW_ev l (fun y hy => h0 y (by simp [hy])) (fun y hy => h1 y (by simp [hy]))) (Ev.now _))
theorem anyR_ev : ∀ l : List S61, (∀ x ∈ l, x.f0.size ≤ 100) → (∀ x ∈ l, x.f1.size ≤ 300) → Ev (fun k => anyR k l) (anyS l)
  | [], _, _ => Ev.now _
  | x :: l, h0, h1 => by
    have a := h0 x (by simp)
    have b := h1 x (by simp)
    refine Ev.bind (rright_s x.f0 x.f1 (by omega) (by omega)) (Ev.bind (anyR_ev l (fun y hy => h0 y (by simp [hy])) (fun y hy => h1 y (by simp [hy]))) (Ev.now _))
/-! the last lines -/
def lineB (n v : ByteArray) : ByteArray := if v.toList = ([] : List UInt8) then n ++ ⟨#[58]⟩ else (n ++ ⟨#[58, 32]⟩) ++ v
theorem sz1 : (⟨#[58]⟩ : ByteArray).size = 1 := rfl
theorem sz2 : (⟨#[58, 32]⟩ : ByteArray).size = 2 := rfl
theorem sz3 : (⟨#[13, 10]⟩ : ByteArray).size = 2 := rfl
theorem sz4 : (⟨#[32]⟩ : ByteArray).size = 1 := rfl
theorem lineB_size {n v : ByteArray} (h0 : n.size ≤ 100) (h1 : v.size ≤ 300) : (lineB n v).size ≤ 402 := by
  unfold lineB
  split
  · rw [ByteArray.size_append, sz1]; omega
  · rw [ByteArray.size_append, ByteArray.size_append, sz2]; omega
theorem fline_s (n v : ByteArray) (h0 : n.size ≤ 100) (h1 : v.size ≤ 300) : field_Line.f n v = some (lineB n v) := by
  unfold field_Line.f lineB
  by_cases h : v.toList = ([] : List UInt8)
  · rw [if_pos h, if_pos h, if_pos (by omega)]
  · rw [if_neg h, if_neg h, if_pos (by omega), if_pos (by rw [ByteArray.size_append, sz2]; omega)]
theorem rline_s (n v : ByteArray) (h0 : n.size ≤ 100) (h1 : v.size ≤ 300) : abutmentref09_Line.f n v = some (lineB n v) := by
  unfold abutmentref09_Line.f lineB
  rw [if_pos (by omega)]
  by_cases h : v.toList = ([] : List UInt8)
  · rw [if_pos h, if_pos h]
  · rw [if_neg h, if_neg h, if_pos (by rw [ByteArray.size_append, sz1]; omega), if_pos (by rw [ByteArray.size_append, ByteArray.size_append, sz1, sz4]; omega)]
    rw [ByteArray.append_assoc (a := n)]
    rfl
def lastS : List S61 → ByteArray → ByteArray
  | [], a => a ++ ⟨#[13, 10]⟩
  | x :: l, a => lastS l (a ++ (lineB x.f0 x.f1 ++ ⟨#[13, 10]⟩))
theorem lastS_size : ∀ (l : List S61) (a : ByteArray), (∀ x ∈ l, x.f0.size ≤ 100) → (∀ x ∈ l, x.f1.size ≤ 300) → (lastS l a).size ≤ a.size + 404 * l.length + 2
  | [], a, _, _ => by unfold lastS; rw [ByteArray.size_append, sz3]; omega
  | x :: l, a, h0, h1 => by
    have h := lastS_size l (a ++ (lineB x.f0 x.f1 ++ ⟨#[13, 10]⟩)) (fun y hy => h0 y (by simp [hy])) (fun y hy => h1 y (by simp [hy]))
    have h2 := lineB_size (h0 x (by simp)) (h1 x (by simp))
    unfold lastS
    rw [ByteArray.size_append, ByteArray.size_append, sz3] at h
    rw [List.length_cons]
    omega
theorem last_l (l : List S61) (hf : Few l) : ∀ (d i : Nat) (a : ByteArray), i + d = l.length → a.size ≤ 10 + 404 * i → Ev (fun k => encode_Last.l0 k a l (l.length : Int) (i : Int)) (lastS (l.drop i) a)
  | 0, i, a, h, ha => by
    have := hf.len
    refine Ev.step (f := fun _ => some (a ++ ⟨#[13, 10]⟩)) (fun k => ?_) ?_
    · show encode_Last.l0 (k + 1) a l (l.length : Int) (i : Int) = _
      simp only [encode_Last.l0]
      rw [if_neg (by omega), if_pos (by omega)]
    · rw [List.drop_of_length_le (by omega)]
      exact Ev.now _
  | d + 1, i, a, h, ha => by
    have hlen := hf.len
    have hi : i < l.length := by omega
    have h0 := hf.f0 (l[i]'hi) (List.getElem_mem hi)
    have h1 := hf.f1 (l[i]'hi) (List.getElem_mem hi)
    have hs := lineB_size h0 h1
    have hz : (lineB (l[i]'hi).f0 (l[i]'hi).f1 ++ ⟨#[13, 10]⟩).size ≤ 404 := by rw [ByteArray.size_append, sz3]; omega
    rw [List.drop_eq_getElem_cons hi, lastS]
    refine Ev.step (f := fun k => encode_Last.l0 k (a ++ (lineB (l[i]'hi).f0 (l[i]'hi).f1 ++ ⟨#[13, 10]⟩)) l (l.length : Int) ((i + 1 : Nat) : Int)) (fun k => ?_) (last_l l hf d (i + 1) _ (by omega) (by rw [ByteArray.size_append]; omega))
    show encode_Last.l0 (k + 1) a l (l.length : Int) (i : Int) = _
    simp only [encode_Last.l0]
    rw [if_pos (by omega), if_pos (by omega), if_pos (by omega), rd_nat l i hi, fline_s _ _ h0 h1]
    simp only [Option.bind_some]
    rw [if_pos (by omega), if_pos (by omega), w64 (by omega) (by omega)]
    rfl
theorem rlast_l (l : List S61) (hf : Few l) : ∀ (d i : Nat) (a : ByteArray), i + d = l.length → a.size ≤ 10 + 404 * i → Ev (fun k => abutmentref25_Last.l0 k l a (i : Int)) (lastS (l.drop i) a)
  | 0, i, a, h, ha => by
    have := hf.len
    refine Ev.step (f := fun _ => some (a ++ ⟨#[13, 10]⟩)) (fun k => ?_) ?_
    · show abutmentref25_Last.l0 (k + 1) l a (i : Int) = _
      simp only [abutmentref25_Last.l0]
      rw [if_neg (by omega), if_pos (by omega)]
    · rw [List.drop_of_length_le (by omega)]
      exact Ev.now _
  | d + 1, i, a, h, ha => by
    have hlen := hf.len
    have hi : i < l.length := by omega
    have h0 := hf.f0 (l[i]'hi) (List.getElem_mem hi)
    have h1 := hf.f1 (l[i]'hi) (List.getElem_mem hi)
    have hs := lineB_size h0 h1
    have hz : (a ++ lineB (l[i]'hi).f0 (l[i]'hi).f1).size = a.size + (lineB (l[i]'hi).f0 (l[i]'hi).f1).size := ByteArray.size_append
    have hz2 : (a ++ (lineB (l[i]'hi).f0 (l[i]'hi).f1 ++ ⟨#[13, 10]⟩)).size = a.size + (lineB (l[i]'hi).f0 (l[i]'hi).f1).size + 2 := by rw [ByteArray.size_append, ByteArray.size_append, sz3]; omega
    rw [List.drop_eq_getElem_cons hi, lastS]
    refine Ev.step (f := fun k => abutmentref25_Last.l0 k l (a ++ (lineB (l[i]'hi).f0 (l[i]'hi).f1 ++ ⟨#[13, 10]⟩)) ((i + 1 : Nat) : Int)) (fun k => ?_) (rlast_l l hf d (i + 1) _ (by omega) (by omega))
    show abutmentref25_Last.l0 (k + 1) l a (i : Int) = _
    simp only [abutmentref25_Last.l0]
    rw [if_pos (by omega), if_pos (by omega), rd_nat l i hi, rline_s _ _ h0 h1]
    simp only [Option.bind_some]
    rw [if_pos (by omega), if_pos (by omega), w64 (by omega) (by omega), ByteArray.append_assoc]
    rfl
def zeroB : ByteArray := ⟨#[48, 13, 10]⟩
theorem last_s (l : List S61) (hf : Few l) : Ev (fun k => encode_Last.f k l) (lastS l zeroB) := by
  have e : chunk_Line.f 0 = some zeroB := by kernel_rfl
  have h := last_l l hf l.length 0 zeroB (by omega) (by decide)
  unfold encode_Last.f
  simp only [e, Option.bind_some]
  exact h
theorem rlast_s (l : List S61) (hf : Few l) : Ev (fun k => abutmentref25_Last.f k l) (lastS l zeroB) := rlast_l l hf l.length 0 zeroB (by omega) (by decide)
/-! a chunk's first line -/
theorem begins (fl : Int) (hfl : fl ≤ 9223372036854775807) : ∃ r, encode_Begin.f fl = some r ∧ abutmentref25_Begin.f fl = some r := by
  by_cases h : fl < 1
  · refine ⟨⟨#[]⟩, ?_, ?_⟩
    · unfold encode_Begin.f; rw [if_pos h]
    · unfold abutmentref25_Begin.f; rw [if_pos h]
  · have hn : fl.natAbs = fl.toNat := by omega
    have hl : (digL (16 : Int).toNat fl.natAbs).length ≤ 20 := digL_len (b := 16) (n := fl) (by omega) (by omega) (by omega)
    have hz : (ba (digL (16 : Int).toNat fl.natAbs)).size ≤ 20 := by rw [ba_size]; exact hl
    have e : (⟨(digL (16 : Int).toNat fl.natAbs).toArray⟩ : ByteArray) = ba (digL (16 : Int).toNat fl.natAbs) := rfl
    refine ⟨ba (digL (16 : Int).toNat fl.natAbs) ++ ⟨#[13, 10]⟩, ?_, ?_⟩
    · unfold encode_Begin.f chunk_Line.f digits_HexText.f digits_figures.f
      rw [if_neg (by omega), if_neg (by omega), if_neg (by omega), if_pos ⟨.inr rfl, by omega, by omega⟩]
      simp only [Option.bind_some]
      rw [e, if_pos (by omega)]
      rfl
    · unfold abutmentref25_Begin.f abutmentref14_Line.f abutmentref02_HexText.f abutmentref02_Digits.f
      have hw : IntKind.u64.wrap fl = fl := IntWalk.u64_in _ (by omega)
      rw [if_neg (by omega), if_neg (by omega), if_neg (by omega), hw, if_pos ⟨.inr rfl, by omega, by omega⟩]
      simp only [Option.bind_some]
      rw [← hn, if_pos (by omega)]
      rfl
/-! the whole body -/
theorem fits_s (kd fl : Int) (s : ByteArray) : encode_fits.f kd fl s = some (plainB kd fl s) := by
  unfold encode_fits.f plainB
  by_cases h0 : kd = 0
  · subst h0
    rw [if_pos rfl]
    cases s.toList <;> rfl
  · rw [if_neg h0]
    by_cases h1 : kd = 1
    · subst h1
      rw [if_pos rfl]
      simp
    · rw [if_neg h1]
      simp [h0, h1]
def bodyS (kd fl : Int) (zs : List Int) (s : ByteArray) (l : List S61) : ByteArray × Int :=
  if fl < 0 then (⟨#[]⟩, 14)
  else if kd = 2 then if cutL zs s.size = some 0 then if anyS l = true then (⟨#[]⟩, 7) else (ba (chunksB (pieces zs s)) ++ lastS l zeroB, 0) else (⟨#[]⟩, 14)
  else if plainB kd fl s = true ∧ zs.length + l.length = 0 then (s, 0) else (⟨#[]⟩, 14)
theorem body_s (kd fl : Int) (zs : List Int) (s : ByteArray) (l : List S61) (hz : zs.length ≤ 300) (hs : s.size ≤ 2000) (hf : Few l) : Ev (fun k => encode_Body.f k kd fl zs s l) (bodyS kd fl zs s l) := by
  have hlen := hf.len
  have hsz : zeroB.size = 3 := rfl
  have ht := lastS_size l zeroB hf.f0 hf.f1
  unfold encode_Body.f bodyS
  refine Ev.ite_pos ⟨by omega, by omega, by omega⟩ ?_
  by_cases h : fl < 0
  · rw [if_pos h]; exact Ev.ite_pos h (Ev.now _)
  · rw [if_neg h]
    refine Ev.ite_neg h ?_
    by_cases hk : kd = 2
    · rw [if_pos hk]
      refine Ev.ite_pos hk ?_
      by_cases hc : cutL zs s.size = some 0
      · rw [if_pos hc]
        refine Ev.ite_pos hc (Ev.bind (anyW_ev l hf.f0 hf.f1) ?_)
        by_cases ha : anyS l = true
        · rw [if_pos ha]; exact Ev.ite_pos ha (Ev.now _)
        · rw [if_neg ha]
          refine Ev.ite_neg ha (Ev.bind (last_s l hf) (Ev.ite_pos (by omega) (Ev.now _)))
      · rw [if_neg hc]; exact Ev.ite_neg hc (Ev.now _)
    · rw [if_neg hk]
      refine Ev.ite_neg hk ?_
      simp only [fits_s, Option.bind_some]
      by_cases hp : plainB kd fl s = true ∧ zs.length + l.length = 0
      · simp only [if_pos hp]; exact Ev.now _
      · simp only [if_neg hp]; exact Ev.now _
theorem rbody_s (kd fl : Int) (zs : List Int) (s : ByteArray) (l : List S61) (hz : zs.length ≤ 300) (hs : s.size ≤ 2000) (hf : Few l) : Ev (fun k => abutmentref25_Body.f k kd fl zs s l) (bodyS kd fl zs s l) := by
  have hlen := hf.len
  have hsz : zeroB.size = 3 := rfl
  have ht := lastS_size l zeroB hf.f0 hf.f1
  unfold abutmentref25_Body.f bodyS
  refine Ev.ite_pos ⟨by omega, by omega, by omega⟩ ?_
  by_cases h : fl < 0
  · rw [if_pos h]; exact Ev.ite_pos h (Ev.now _)
  · rw [if_neg h]
    refine Ev.ite_neg h ?_
    by_cases hk : kd = 2
    · rw [if_pos hk]
      exact Ev.ite_pos hk (Ev.bind (anyR_ev l hf.f0 hf.f1) (Ev.bind (rlast_s l hf) (Ev.ite_pos (by omega) (Ev.now _))))
    · rw [if_neg hk]
      exact Ev.ite_neg hk (Ev.now _)
theorem elives_s : Ev (fun k => abutmentlaw25_lives.f k) true := Ev.of abutmentlaw25_lives.mono (k := 3) (by kernel_rfl)
theorem body_j0 (b : Bool) (kd fl : Int) (zs : List Int) (s : ByteArray) (l : List S61) (hfl : fl ≤ 9223372036854775807) (hb : b = false → zs.length ≤ 300 ∧ s.size ≤ 2000 ∧ Few l) : Ev (fun k => abutmentlaw25_EncodeBody.j0 k zs s l b kd fl) true := by
  have key : Ev (fun k => abutmentlaw25_EncodeBody.j0 (k + 1) zs s l b kd fl) true := by
    simp only [abutmentlaw25_EncodeBody.j0]
    cases b
    · obtain ⟨hz, hs, hf⟩ := hb rfl
      simp only [Bool.false_eq_true, if_false]
      refine Ev.bind (body_s kd fl zs s l hz hs hf) (Ev.bind (rbody_s kd fl zs s l hz hs hf) ?_)
      obtain ⟨r, e1, e2⟩ := begins fl hfl
      simp only [if_true, e1, e2, Option.bind_some]
      refine Ev.bind (last_s l hf) (Ev.bind (rlast_s l hf) ?_)
      simp only [if_true]
      exact Ev.bind elives_s (Ev.now true)
    · simp only [if_true]
      exact Ev.bind elives_s (Ev.now true)
  obtain ⟨K, h⟩ := key
  exact ⟨K + 1, fun k hk => by
    obtain ⟨m, rfl⟩ : ∃ m, k = m + 1 := ⟨k - 1, by omega⟩
    exact h m (by omega)⟩
theorem law_Body (a0_0 : Int) (a0_1 : Int) (l1 : List Int) (a2_0 a2_1 : ByteArray) (a2_2 a2_3 : Int) (a2_4 : ByteArray) (l2_5 : List S61) (a2_6 a2_7 : Int) (a2_8 : ByteArray) (l2_9 : List Int) (l2_10 : List S61) (hfl : a0_1 ≤ 9223372036854775807) : ∃ k, abutmentlaw25_EncodeBody.f k a0_0 a0_1 l1 a2_0 a2_1 a2_2 a2_3 a2_4 l2_5 a2_6 a2_7 a2_8 l2_9 l2_10 = some true := by
  apply Ev.rounds
  unfold abutmentlaw25_EncodeBody.f
  by_cases a : (a2_8.size : Int) > 2000
  · simp only [if_pos a]
    exact body_j0 true _ _ _ _ _ hfl (fun h => by cases h)
  · simp only [if_neg a]
    by_cases b : (l1.length : Int) > 300
    · simp only [if_pos b]
      exact body_j0 true _ _ _ _ _ hfl (fun h => by cases h)
    · simp only [if_neg b]
      refine Ev.bind (Few_ev l2_10) (body_j0 _ _ _ _ _ _ hfl (fun h => ⟨by omega, by omega, few_of (by simpa using h)⟩))
end Go.Proofs.Ytdbokcgjdkbknaa.PE0

