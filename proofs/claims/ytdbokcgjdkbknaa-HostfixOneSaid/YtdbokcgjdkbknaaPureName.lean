/- Plain: names of hosts: the program's cut and tests and the reference's Name, on lists. -/
import Derived.Test.YtdbokcgjdkbknaaPureNum
import Derived.Test.YtdbokcgjdkbknaaRefNameB
namespace Go.Proofs.Ytdbokcgjdkbknaa.PHost
open Go.RowKit Go.Proofs.Ytdbokcgjdkbknaa.Hand Go.Proofs.YtdbokcgjdkbknaaW.PrintWords
set_option linter.unusedVariables false
set_option linter.unusedSimpArgs false
/-- How many octets at the begin are of a registered name; none: a wrong % stands there. -/
def scan : List UInt8 → Option Nat
  | [] => some 0
  | c :: l => if c = 37 then (match l with | h1 :: h2 :: l' => if hexB h1 && hexB h2 then (scan l').map (· + 3) else none | _ => none) else if plainB c then (scan l).map (· + 1) else some 0
theorem scan_pct2 {l : List UInt8} {h1 h2 : UInt8} : scan (37 :: h1 :: h2 :: l) = if hexB h1 && hexB h2 then (scan l).map (· + 3) else none := by simp [scan]
theorem scan_yes {c : UInt8} {l : List UInt8} (h : ¬ c = 37) (h2 : plainB c = true) : scan (c :: l) = (scan l).map (· + 1) := by
  conv => lhs; unfold scan
  show (if c = 37 then _ else _) = _
  rw [if_neg h, if_pos h2]
theorem scan_no {c : UInt8} {l : List UInt8} (h : ¬ c = 37) (h2 : plainB c = false) : scan (c :: l) = some 0 := by
  conv => lhs; unfold scan
  show (if c = 37 then _ else _) = _
  rw [if_neg h, if_neg (by simp [h2])]
theorem nameR_scan : ∀ (k : Nat) (l : List UInt8) (n : Nat), l.length ≤ k → nameR l n = (match scan l with | none => 0 | some m => n + m)
  | k, [], n, _ => by simp [nameR, scan]
  | 0, c :: l, n, h => absurd h (by simp)
  | k + 1, c :: l, n, h => by
    have hl : l.length ≤ k := by simpa using h
    by_cases hc : c = 37
    · subst hc
      match l, hl with
      | [], _ => simp [nameR, scan]
      | [a], _ => simp [nameR, scan]
      | a :: b :: l', hl =>
        rw [nameR_pct2, scan_pct2]
        split
        · rw [nameR_scan k l' (n + 3) (by simp at hl; omega)]
          cases scan l' with
          | none => rfl
          | some v => show n + 3 + v = n + (v + 3); omega
        · rfl
    · cases hp : plainB c
      · rw [nameR_no hc hp, scan_no hc hp]; rfl
      · rw [nameR_yes hc hp, scan_yes hc hp, nameR_scan k l (n + 1) hl]
        cases scan l with
        | none => rfl
        | some v => show n + 1 + v = n + (v + 1); omega
theorem byte_cases (p : UInt8 → Bool) (h : ∀ i : Fin 256, p (UInt8.ofNat i.val) = true) (c : UInt8) : p c = true := by
  have := h ⟨c.toNat, UInt8.toNat_lt c⟩
  simpa using this
theorem hexI_B (c : UInt8) : hexI c.toNat = hexB c := by
  have := byte_cases (fun c => hexI c.toNat == hexB c) (by decide +kernel) c
  simpa using this
theorem plainI_B (c : UInt8) : plainI c.toNat = plainB c := by
  have := byte_cases (fun c => plainI c.toNat == plainB c) (by decide +kernel) c
  simpa using this
theorem litB_C (c : UInt8) : litB c.toNat = litC c := by
  have := byte_cases (fun c => litB c.toNat == litC c) (by decide +kernel) c
  simpa using this
/-- A registered name, as the program tests it: 'left' digits are owed. -/
theorem reg_nil (left : Int) : regL [] left = (left == 0) := rfl
theorem reg_scan : ∀ (k : Nat) (p rest : List UInt8), p.length ≤ k → regL p 0 = true → scan (p ++ rest) = (scan rest).map (· + p.length)
  | k, [], rest, _, _ => by simp
  | 0, c :: p, rest, h, _ => absurd h (by simp)
  | k + 1, c :: p, rest, h, hr => by
    have hl : p.length ≤ k := by simpa using h
    by_cases hc : c = 37
    · subst hc
      rw [reg_pct (by omega) rfl] at hr
      match p, hl, hr with
      | [], _, hr => exact absurd hr (by decide)
      | [a], _, hr =>
        cases h1 : hexI a.toNat
        · rw [reg_nohex (by omega) h1] at hr; cases hr
        · rw [reg_hex (by omega) h1] at hr; exact absurd hr (by decide)
      | a :: b :: p', hl, hr =>
        cases h1 : hexI a.toNat
        · rw [reg_nohex (by omega) h1] at hr; cases hr
        cases h2 : hexI b.toNat
        · rw [reg_hex (by omega) h1, reg_nohex (by omega) h2] at hr; cases hr
        rw [reg_hex (by omega) h1, reg_hex (by omega) h2] at hr
        rw [hexI_B] at h1 h2
        simp only [List.cons_append]
        rw [scan_pct2, if_pos (by simp [h1, h2]), reg_scan k p' rest (by simp at hl; omega) (by simpa using hr)]
        cases scan rest <;> simp <;> omega
    · have hc' : ¬ (c.toNat : Int) = 37 := by intro h'; exact hc (UInt8.toNat_inj.1 (by show _ = 37; omega))
      cases hp : plainI c.toNat
      · rw [reg_noplain (by omega) hc' hp] at hr; cases hr
      · rw [reg_plain (by omega) hc' hp] at hr
        rw [plainI_B] at hp
        simp only [List.cons_append]
        rw [scan_yes hc hp, reg_scan k p rest hl hr]
        cases scan rest <;> simp <;> omega
theorem scan_some : ∀ (k : Nat) (l : List UInt8) (m : Nat), l.length ≤ k → scan l = some m → m ≤ l.length ∧ regL (l.take m) 0 = true ∧ ∀ c, l[m]? = some c → plainB c = false ∧ c ≠ 37
  | k, [], m, _, h => by
    simp [scan] at h
    subst h
    simp [regL]
  | 0, c :: p, m, h, _ => absurd h (by simp)
  | k + 1, c :: l, m, h, hs => by
    have hl : l.length ≤ k := by simpa using h
    by_cases hc : c = 37
    · subst hc
      match l, hl, hs with
      | [], _, hs => simp [scan] at hs
      | [a], _, hs => simp [scan] at hs
      | a :: b :: l', hl, hs =>
        rw [scan_pct2] at hs
        by_cases hh : (hexB a && hexB b) = true
        · rw [if_pos hh] at hs
          obtain ⟨m', hm', rfl⟩ := Option.map_eq_some_iff.1 hs
          obtain ⟨h1, h2, h3⟩ := scan_some k l' m' (by simp at hl; omega) hm'
          have ha : hexI a.toNat = true := by rw [hexI_B]; simp at hh; exact hh.1
          have hb : hexI b.toNat = true := by rw [hexI_B]; simp at hh; exact hh.2
          refine ⟨by simp; omega, ?_, ?_⟩
          · simp only [List.take_succ_cons]
            rw [reg_pct (by omega) rfl, reg_hex (by omega) ha, reg_hex (by omega) hb]
            simpa using h2
          · intro c hc
            exact h3 c (by simpa using hc)
        · rw [if_neg hh] at hs; cases hs
    · have hc' : ¬ (c.toNat : Int) = 37 := by intro h'; exact hc (UInt8.toNat_inj.1 (by show _ = 37; omega))
      cases hp : plainB c
      · rw [scan_no hc hp] at hs
        obtain rfl := Option.some.inj hs
        refine ⟨by omega, by simp [regL], ?_⟩
        intro d hd
        simp at hd
        subst hd
        exact ⟨hp, hc⟩
      · rw [scan_yes hc hp] at hs
        obtain ⟨m', hm', rfl⟩ := Option.map_eq_some_iff.1 hs
        obtain ⟨h1, h2, h3⟩ := scan_some k l m' hl hm'
        refine ⟨by simp; omega, ?_, ?_⟩
        · simp only [List.take_succ_cons]
          rw [reg_plain (by omega) hc' (by rw [plainI_B]; exact hp)]
          exact h2
        · intro d hd
          exact h3 d (by simpa using hd)
theorem reg_mem : ∀ (l : List UInt8) (left : Int) (c : UInt8), regL l left = true → c ∈ l → hexB c = true ∨ plainB c = true ∨ c = 37
  | a :: l, left, c, h, hm => by
    by_cases h0 : 0 < left
    · cases h1 : hexI a.toNat
      · rw [reg_nohex h0 h1] at h; cases h
      · rw [reg_hex h0 h1] at h
        rcases List.mem_cons.1 hm with rfl | hm
        · exact .inl (by rw [← hexI_B]; exact h1)
        · exact reg_mem l _ c h hm
    · by_cases hc : (a.toNat : Int) = 37
      · rw [reg_pct h0 hc] at h
        rcases List.mem_cons.1 hm with rfl | hm
        · exact .inr (.inr (UInt8.toNat_inj.1 (by show _ = 37; omega)))
        · exact reg_mem l _ c h hm
      · cases h1 : plainI a.toNat
        · rw [reg_noplain h0 hc h1] at h; cases h
        · rw [reg_plain h0 hc h1] at h
          rcases List.mem_cons.1 hm with rfl | hm
          · exact .inr (.inl (by rw [← plainI_B]; exact h1))
          · exact reg_mem l _ c h hm
theorem reg_no {l : List UInt8} {c : UInt8} (h : regL l 0 = true) (h1 : hexB c = false) (h2 : plainB c = false) (h3 : c ≠ 37) : ¬ c ∈ l := by
  intro hm
  rcases reg_mem l 0 c h hm with h' | h' | h'
  · rw [h1] at h'; cases h'
  · rw [h2] at h'; cases h'
  · exact h3 h'

/-! the cut -/
/-- r is where c stands last in l, or -1. -/
def LastAt (l : List UInt8) (c : UInt8) (r : Int) : Prop := (r = -1 ∧ ¬ c ∈ l) ∨ ∃ a b, l = a ++ c :: b ∧ r = a.length ∧ ¬ c ∈ b
theorem indexByte_at (l : List UInt8) (c : UInt8) : (Lib.indexByte l c = -1 ∧ ¬ c ∈ l) ∨ ∃ a b, l = a ++ c :: b ∧ Lib.indexByte l c = a.length ∧ ¬ c ∈ a := by
  induction l with
  | nil => exact .inl ⟨rfl, by simp⟩
  | cons d l ih =>
    unfold Lib.indexByte
    by_cases h : d = c
    · subst h
      rw [if_pos (by simp)]
      exact .inr ⟨[], l, rfl, rfl, by simp⟩
    · rw [if_neg (by simpa using h)]
      rcases ih with ⟨h1, h2⟩ | ⟨a, b, h1, h2, h3⟩
      · rw [if_pos (by simp [h1])]
        exact .inl ⟨rfl, by simp [h2]; exact fun h' => h h'.symm⟩
      · have hg := Lib.indexByte_ge l c
        rw [if_neg (by rw [h2]; simp), h2]
        exact .inr ⟨d :: a, b, by rw [h1]; rfl, by simp, by simp [h3]; exact fun h' => h h'.symm⟩
theorem drop_split {s : ByteArray} {i : Nat} (h : i < s.size) : s.data.toList = s.data.toList.take i ++ (s[i]'h) :: s.data.toList.drop (i + 1) := by
  conv => lhs; rw [← List.take_append_drop i s.data.toList, drop_cons s i h]
theorem LastIndex_ev (s : ByteArray) (c : UInt8) (hs : s.size ≤ 140737488355328) : ∀ (i : Nat), i ≤ s.size → ¬ c ∈ s.data.toList.drop i →
    ∃ r, Ev (fun k => bytealg_LastIndexByteString.l0 k s (c.toNat : Int) ((i : Int) - 1)) r ∧ LastAt s.data.toList c r
  | 0, hi, hn => ⟨-1, by
      refine Ev.step (fun k => by rw [bytealg_LastIndexByteString.l0]) (Ev.ite_neg (by omega) (Ev.now _)), .inl ⟨rfl, by simpa using hn⟩⟩
  | i + 1, hi, hn => by
    have hi' : i < s.size := by omega
    by_cases h : s[i]'hi' = c
    · refine ⟨i, ?_, .inr ⟨s.data.toList.take i, s.data.toList.drop (i + 1), by rw [← h]; exact drop_split hi', by simp; omega, hn⟩⟩
      refine Ev.step (fun k => by rw [bytealg_LastIndexByteString.l0]) ?_
      rw [show ((i + 1 : Nat) : Int) - 1 = (i : Int) by omega]
      exact Ev.ite_pos (by omega) (Ev.ite_pos (by omega) (Ev.ite_pos (by omega) (Ev.ite_pos (by rw [bt_nat s i hi', h]) (Ev.now _))))
    · obtain ⟨r, hr, hl⟩ := LastIndex_ev s c hs i (by omega) (by
        rw [drop_cons s i hi']
        simp [hn]
        exact fun h' => h h'.symm)
      refine ⟨r, ?_, hl⟩
      refine Ev.step (fun k => by rw [bytealg_LastIndexByteString.l0]) ?_
      rw [show ((i + 1 : Nat) : Int) - 1 = (i : Int) by omega]
      refine Ev.ite_pos (by omega) (Ev.ite_pos (by omega) (Ev.ite_pos (by omega) (Ev.ite_neg ?_ ?_)))
      · rw [bt_nat s i hi']
        intro h'
        exact h (UInt8.toNat_inj.1 (by omega))
      · rw [w64 (by omega) (by omega)]
        exact hr
theorem cut_ev (s : ByteArray) (hs : s.size ≤ 140737488355328) :
    (Ev (fun k => host_cut.f k s) (s, ⟨#[]⟩, false) ∧ (¬ 58 ∈ s.data.toList ∨ ∃ a b, s.data.toList = a ++ 58 :: b ∧ 93 ∈ b ∧ ¬ 58 ∈ b ∧ ¬ 93 ∈ a)) ∨
    (∃ (a b : List UInt8), s.data.toList = a ++ 58 :: b ∧ ¬ 58 ∈ b ∧ (¬ 93 ∈ s.data.toList ∨ 93 ∈ a) ∧ ∃ n p : ByteArray, n.data.toList = a ∧ p.data.toList = b ∧ Ev (fun k => host_cut.f k s) (n, p, true)) := by
  obtain ⟨r, hr, hl⟩ := LastIndex_ev s 58 hs s.size (Nat.le_refl _) (by rw [List.drop_of_length_le (by simp)]; simp)
  have h0 : Ev (fun k => strings_LastIndexByte.f k s 58) r := by
    unfold strings_LastIndexByte.f bytealg_LastIndexByteString.f
    refine Ev.bind ?_ (Ev.now r)
    rw [w64 (by omega) (by omega)]
    exact hr
  have h1 : Ev (fun k => strings_IndexByte.f s 93) (Lib.indexByte s.data.toList 93) := Ev.now _
  rcases hl with ⟨rfl, hn⟩ | ⟨a, b, hab, rfl, hb⟩
  · refine .inl ⟨?_, .inl hn⟩
    unfold host_cut.f
    refine Ev.bind h0 (Ev.bind h1 ?_)
    have := Lib.indexByte_ge s.data.toList 93
    by_cases h : (-1 : Int) < Lib.indexByte s.data.toList 93
    · exact Ev.ite_pos h (Ev.now _)
    · exact Ev.ite_neg h (Ev.ite_pos (by omega) (Ev.now _))
  · have hsz : s.size = a.length + 1 + b.length := by
      have := congrArg List.length hab
      simp at this
      omega
    rcases indexByte_at s.data.toList 93 with ⟨h2, h3⟩ | ⟨a', b', h2, h3, h4⟩
    · refine .inr ⟨a, b, hab, hb, ?_, ?_⟩
      · exact .inl h3
      · refine ⟨s.extract 0 a.length, s.extract (a.length + 1) s.size, ?_, ?_, ?_⟩
        · simp [ByteArray.data_extract]
          rw [hab]
          simp
        · rw [Lib.extract_to_end, hab]
          simp
        · unfold host_cut.f
          refine Ev.bind h0 (Ev.bind h1 ?_)
          refine Ev.ite_neg (by omega) (Ev.ite_neg (by omega) (Ev.ite_pos (by omega) (Ev.ite_pos (by omega) ?_)))
          rw [w64 (by omega) (by omega)]
          refine Ev.ite_pos (by omega) (Ev.ite_pos (by omega) ?_)
          exact Ev.now _
    · by_cases hlt : a.length < a'.length
      · refine .inl ⟨?_, .inr ⟨a, b, hab, ?_, hb, ?_⟩⟩
        · unfold host_cut.f
          refine Ev.bind h0 (Ev.bind h1 ?_)
          exact Ev.ite_pos (by rw [h3]; omega) (Ev.now _)
        · rw [hab] at h2
          rcases List.append_eq_append_iff.1 h2 with ⟨c, hc1, hc2⟩ | ⟨c, hc1, hc2⟩
          · cases c with
            | nil => simp at hc1; rw [hc1] at hlt; omega
            | cons d c =>
              have := (List.cons.inj hc2).2
              rw [this]
              simp
          · rw [hc1] at hlt
            simp at hlt
            omega
        · intro hm
          apply h4
          rw [hab] at h2
          rcases List.append_eq_append_iff.1 h2 with ⟨c, hc1, hc2⟩ | ⟨c, hc1, hc2⟩
          · rw [hc1]
            simp [hm]
          · rw [hc1] at hlt
            simp at hlt
            omega
      · refine .inr ⟨a, b, hab, hb, .inr ?_, ?_⟩
        · rw [hab] at h2
          rcases List.append_eq_append_iff.1 h2 with ⟨c, hc1, hc2⟩ | ⟨c, hc1, hc2⟩
          · cases c with
            | nil => exact absurd (List.cons.inj hc2).1 (by decide)
            | cons d c => rw [hc1] at hlt; simp at hlt
          · cases c with
            | nil => exact absurd (List.cons.inj hc2).1 (by decide)
            | cons d c =>
              have := (List.cons.inj hc2).1
              rw [hc1, ← this]
              simp
        · refine ⟨s.extract 0 a.length, s.extract (a.length + 1) s.size, ?_, ?_, ?_⟩
          · simp [ByteArray.data_extract]
            rw [hab]
            simp
          · rw [Lib.extract_to_end, hab]
            simp
          · unfold host_cut.f
            refine Ev.bind h0 (Ev.bind h1 ?_)
            refine Ev.ite_neg (by omega) (Ev.ite_neg (by omega) (Ev.ite_pos (by omega) (Ev.ite_pos (by omega) ?_)))
            rw [w64 (by omega) (by omega)]
            refine Ev.ite_pos (by omega) (Ev.ite_pos (by omega) ?_)
            exact Ev.now _

/-! the answer of Parse -/
/-- What comes of the octets behind the name's colon. -/
def portS (q : Int × Int) (name : ByteArray) : ByteArray × Int × Int := if q.2 = 5 then (⟨#[]⟩, 0, 5) else if q.2 = 0 then (name, q.1, 0) else (⟨#[]⟩, 0, 3)
theorem portS_5 {q : Int × Int} {n : ByteArray} (h : q.2 = 5) : portS q n = (⟨#[]⟩, 0, 5) := if_pos h
theorem portS_0 {q : Int × Int} {n : ByteArray} (h : q.2 = 0) : portS q n = (n, q.1, 0) := by unfold portS; rw [if_neg (by omega), if_pos h]
theorem portS_3 {q : Int × Int} {n : ByteArray} (h5 : ¬ q.2 = 5) (h : ¬ q.2 = 0) : portS q n = (⟨#[]⟩, 0, 3) := by unfold portS; rw [if_neg h5, if_neg h]
/-- As the reference has it. -/
def parseS (s : ByteArray) : ByteArray × Int × Int :=
  if s.data.toList = [] then (⟨#[]⟩, 0, 2)
  else if nameL s.data.toList = 0 then (⟨#[]⟩, 0, 3)
  else if nameL s.data.toList = s.size then (s, 80, 0)
  else if s.data.toList[nameL s.data.toList]? = some 58 then portS (numSpec 10 65535 (s.data.toList.drop (nameL s.data.toList + 1))) (s.extract 0 (nameL s.data.toList))
  else (⟨#[]⟩, 0, 3)
theorem data_nil {s : ByteArray} : s.toList = [] ↔ s.data.toList = [] := by rw [toList_eq]
theorem nameL_le (l : List UInt8) : nameL l ≤ l.length := by
  unfold nameL
  split
  · simp
  · rename_i c r
    split
    · split
      · omega
      · rename_i h
        have h2 : r[(r.takeWhile litC).length]? = some 93 := by
          apply Decidable.byContradiction
          intro h'
          exact h (.inr h')
        have := (List.getElem?_eq_some_iff.1 h2).1
        simp
        omega
    · rw [nameR_scan _ _ _ (Nat.le_refl _)]
      cases h : scan (c :: r) with
      | none => simp
      | some m =>
        have := (scan_some _ _ m (Nat.le_refl _) h).1
        show 0 + m ≤ _
        omega
theorem refParse_ev (s : ByteArray) (hs : s.size ≤ 140737488355327) : Ev (fun k => abutmentref11_Parse.f k s) (parseS s) := by
  unfold abutmentref11_Parse.f parseS
  by_cases h0 : s.data.toList = []
  · rw [if_pos h0]
    exact Ev.ite_pos (data_nil.2 h0) (Ev.now _)
  rw [if_neg h0]
  refine Ev.ite_neg (fun h => h0 (data_nil.1 h)) ?_
  have hn : abutmentref11_Name.f s = some (nameL s.data.toList : Int) := by unfold abutmentref11_Name.f; rw [if_pos (by omega)]
  have hle := nameL_le s.data.toList
  rw [Array.length_toList] at hle
  have hle' : nameL s.data.toList ≤ s.size := hle
  simp only [hn, Option.bind_some]
  generalize nameL s.data.toList = n at hle'
  by_cases h1 : n = 0
  · rw [if_pos h1]
    exact Ev.ite_pos (by omega) (Ev.now _)
  rw [if_neg h1]
  refine Ev.ite_neg (by omega) ?_
  by_cases h2 : n = s.size
  · rw [if_pos h2]
    exact Ev.ite_pos (by omega) (Ev.now _)
  rw [if_neg h2]
  have hlt : n < s.size := by omega
  have hget : s.data.toList[n]? = some (s[n]'hlt) := by simp [hlt]; rfl
  refine Ev.ite_neg (by omega) (Ev.ite_pos (by omega) (Ev.ite_pos (by omega) ?_))
  rw [bt_nat s n hlt, hget]
  by_cases h3 : s[n]'hlt = 58
  · rw [h3, if_pos rfl, w64 (by omega) (by omega)]
    refine Ev.ite_pos rfl (Ev.ite_pos (by omega) (Ev.ite_pos (by omega) ?_))
    have hnum := Number_ev 10 65535 (.inl rfl) (by omega) (by omega) (s.extract (n + 1) s.size) (by simp; omega)
    rw [Lib.extract_to_end] at hnum
    refine Ev.bind hnum ?_
    generalize numSpec 10 65535 (s.data.toList.drop (n + 1)) = q
    by_cases h5 : q.2 = 5
    · rw [portS_5 h5, h5]
      exact Ev.ite_pos rfl (Ev.now _)
    by_cases h6 : q.2 = 0
    · rw [portS_0 h6]
      exact Ev.ite_neg h5 (Ev.ite_pos h6 (Ev.ite_pos (by omega) (Ev.now _)))
    · rw [portS_3 h5 h6]
      exact Ev.ite_neg h5 (Ev.ite_neg h6 (Ev.now _))
  · rw [if_neg (by simp [h3])]
    refine Ev.ite_neg ?_ (Ev.now _)
    intro h
    exact h3 (UInt8.toNat_inj.1 (by show _ = 58; omega))

/-! the program's Parse -/
theorem numSpec_colon {l : List UInt8} {c : UInt8} (h : c ∈ l) (hc : ¬ val c < 10) : numSpec 10 65535 l = (0, 3) := by
  unfold numSpec
  have h1 : ¬ l = [] := by intro h'; rw [h'] at h; simp at h
  have h2 : badd 10 l = true := by
    unfold badd
    rw [List.any_eq_true]
    exact ⟨c, h, by simp; omega⟩
  rw [if_neg h1, if_pos h2]
/-- a literal, on lists -/
def litOK (p : List UInt8) : Prop := ∃ inner, p = 91 :: inner ++ [93] ∧ inner ≠ [] ∧ inner.all litC = true
theorem ba_data (s : ByteArray) : ba s.data.toList = s := by
  unfold ba
  rfl
theorem litS_ba (l : List UInt8) : litS (ba l) = true ↔ litOK l := by
  unfold litS inBr
  cases l with
  | nil =>
    have : (cutPre (ba []) ⟨#[91]⟩).2 = false := by decide
    rw [this]
    simp [litOK]
  | cons c r =>
    by_cases hc : c = 91
    · subst hc
      have hp : cutPre (ba (91 :: r)) ⟨#[91]⟩ = (ba r, true) := by
        have h1 : hasPre (ba (91 :: r)) ⟨#[91]⟩ = true := by
          unfold hasPre
          rw [List.isPrefixOf_iff_prefix]
          exact ⟨r, rfl⟩
        unfold cutPre
        rw [if_pos h1]
        congr 1
        apply ByteArray.ext
        apply Array.ext'
        rw [Lib.extract_to_end]
        rfl
      rw [hp]
      simp only [Bool.true_and]
      by_cases hx : ∃ inner, r = inner ++ [93]
      · obtain ⟨inner, rfl⟩ := hx
        have hs : cutSuf (ba (inner ++ [93])) ⟨#[93]⟩ = (ba inner, true) := by
          have h1 : hasSuf (ba (inner ++ [93])) ⟨#[93]⟩ = true := by
            unfold hasSuf
            rw [List.isSuffixOf_iff_suffix]
            exact ⟨inner, rfl⟩
          unfold cutSuf
          rw [if_pos h1]
          congr 1
          apply ByteArray.ext
          apply Array.ext'
          have e : (ba (inner ++ [93])).size - (⟨#[93]⟩ : ByteArray).size = inner.length := by rw [ba_size]; simp; rfl
          rw [e]
          simp [ba, ByteArray.data_extract]
        rw [hs]
        have e1 : (ba inner).data.toList = inner := rfl
        rw [toList_eq, e1]
        have e2 : litL inner = inner.all litC := by
          unfold litL
          congr 1
          funext c
          exact litB_C c
        rw [e2]
        simp only [Bool.and_true]
        constructor
        · intro h
          simp at h
          exact ⟨inner, rfl, h.2, by simpa using h.1⟩
        · rintro ⟨inner', h1, h2, h3⟩
          have h4 : inner = inner' := List.append_cancel_right (List.cons.inj h1).2
          subst h4
          simp only [List.all_eq_true] at h3
          simp
          exact ⟨h3, h2⟩
      · have hs : (cutSuf (ba r) ⟨#[93]⟩).2 = false := by
          unfold cutSuf
          rw [if_neg]
          intro h
          unfold hasSuf at h
          rw [List.isSuffixOf_iff_suffix] at h
          obtain ⟨t, ht⟩ := h
          exact hx ⟨t, ht.symm⟩
        rw [hs]
        simp
        rintro ⟨inner, h1, _⟩
        exact hx ⟨inner, (List.cons.inj h1).2⟩
    · have hp : (cutPre (ba (c :: r)) ⟨#[91]⟩).2 = false := by
        unfold cutPre
        rw [if_neg]
        intro h
        unfold hasPre at h
        rw [List.isPrefixOf_iff_prefix] at h
        obtain ⟨t, ht⟩ := h
        exact hc (List.cons.inj ht).1.symm
      rw [hp]
      simp
      rintro ⟨inner, h1, _⟩
      exact hc (List.cons.inj h1).1
theorem litS_iff (s : ByteArray) : litS s = true ↔ litOK s.data.toList := by
  have := litS_ba s.data.toList
  rwa [ba_data] at this
theorem regS_iff (s : ByteArray) : regS s = true ↔ s.data.toList ≠ [] ∧ regL s.data.toList 0 = true := by
  unfold regS
  rw [toList_eq]
  cases s.data.toList <;> simp
theorem nameL_no {l : List UInt8} (h : l.head? ≠ some 91) : nameL l = (match scan l with | none => 0 | some m => m) := by
  cases l with
  | nil => simp [nameL, scan]
  | cons c r =>
    have hc : ¬ c = 91 := by intro h'; apply h; rw [h']; rfl
    unfold nameL
    simp only [hc, if_false]
    rw [nameR_scan _ _ _ (Nat.le_refl _)]
    cases scan (c :: r) <;> simp
theorem takeWhile_split : ∀ (l a b : List UInt8), l = a ++ 93 :: b → a.all litC = true → l.takeWhile litC = a
  | l, [], b, h, _ => by subst h; simp [List.takeWhile_cons, show litC 93 = false from by decide]
  | l, c :: a, b, h, hl => by
    subst h
    simp at hl
    simp only [List.cons_append, List.takeWhile_cons, hl.1, if_true]
    rw [takeWhile_split _ a b rfl (by simpa using hl.2)]
theorem litC_93 : litC 93 = false := by decide
theorem nameL_lit {inner rest : List UInt8} (h1 : inner ≠ []) (h2 : inner.all litC = true) : nameL (91 :: inner ++ 93 :: rest) = inner.length + 2 := by
  have h3 := takeWhile_split (inner ++ 93 :: rest) inner rest rfl h2
  show (if ((inner ++ 93 :: rest).takeWhile litC).length = 0 ∨ (inner ++ 93 :: rest)[((inner ++ 93 :: rest).takeWhile litC).length]? ≠ some 93 then 0 else ((inner ++ 93 :: rest).takeWhile litC).length + 2) = _
  rw [h3, if_neg]
  intro h
  rcases h with h | h
  · exact h1 (List.eq_nil_of_length_eq_zero h)
  · apply h
    simp
/-- The name of a text in brackets: none, or up to the first ']'. -/
theorem nameL_br (r : List UInt8) : (nameL (91 :: r) = 0 ∧ ∀ inner rest, r = inner ++ 93 :: rest → inner ≠ [] → ¬ inner.all litC = true) ∨
    ∃ inner rest, r = inner ++ 93 :: rest ∧ inner ≠ [] ∧ inner.all litC = true ∧ nameL (91 :: r) = inner.length + 2 := by
  by_cases h : ∃ inner rest, r = inner ++ 93 :: rest ∧ inner ≠ [] ∧ inner.all litC = true
  · obtain ⟨inner, rest, h1, h2, h3⟩ := h
    refine .inr ⟨inner, rest, h1, h2, h3, ?_⟩
    rw [h1]
    exact nameL_lit h2 h3
  · refine .inl ⟨?_, fun inner rest h1 h2 h3 => h ⟨inner, rest, h1, h2, h3⟩⟩
    show (if (r.takeWhile litC).length = 0 ∨ r[(r.takeWhile litC).length]? ≠ some 93 then 0 else (r.takeWhile litC).length + 2) = 0
    rw [if_pos]
    apply Decidable.byContradiction
    intro h'
    have h4 : ¬ (r.takeWhile litC).length = 0 := fun x => h' (.inl x)
    have h5 : r[(r.takeWhile litC).length]? = some 93 := Decidable.byContradiction fun x => h' (.inr x)
    apply h
    obtain ⟨h6, h7⟩ := List.getElem?_eq_some_iff.1 h5
    refine ⟨r.takeWhile litC, r.drop ((r.takeWhile litC).length + 1), ?_, by intro x; rw [x] at h4; simp at h4, by simp⟩
    have e : r = r.takeWhile litC ++ r.drop (r.takeWhile litC).length := by
      have := List.takeWhile_append_dropWhile (p := litC) (l := r)
      have h8 : r.dropWhile litC = r.drop (r.takeWhile litC).length := by
        have h9 := List.drop_left (l₁ := r.takeWhile litC) (l₂ := r.dropWhile litC)
        rw [this] at h9
        exact h9.symm
      rw [← h8]
      exact this.symm
    conv => lhs; rw [e]
    rw [List.drop_eq_getElem_cons h6, h7]
end Go.Proofs.Ytdbokcgjdkbknaa.PHost
