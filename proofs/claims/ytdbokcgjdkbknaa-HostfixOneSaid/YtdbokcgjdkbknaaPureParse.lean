/- Plain: the program's Parse of a host and the reference's have one answer. -/
import Derived.Test.YtdbokcgjdkbknaaPureName
import Derived.Test.YtdbokcgjdkbknaaPHostx3
import Derived.OpenShut
namespace Go.Proofs.Ytdbokcgjdkbknaa.PHost
open Go.RowKit Go.Proofs.Ytdbokcgjdkbknaa.Hand Go.Proofs.YtdbokcgjdkbknaaW.PrintWords
set_option linter.unusedVariables false
set_option linter.unusedSimpArgs false
/-- Is a text a name, as the program tests it? -/
def nameOK (p : List UInt8) : Prop := (p ≠ [] ∧ regL p 0 = true) ∨ litOK p
theorem Parse_name (s n p : ByteArray) (has : Bool) (hs : s.size ≤ 140737488355327) (h0 : ¬ s.data.toList = []) (hn : n.size ≤ 140737488355327) (hp : p.size ≤ 140737488355327) (hc : Ev (fun k => host_cut.f k s) (n, p, has)) (r : ByteArray × Int × Int)
    (hyes : nameOK n.data.toList → r = if has = true then portS (numSpec 10 65535 p.data.toList) n else (n, 80, 0)) (hno : ¬ nameOK n.data.toList → r = (⟨#[]⟩, 0, 3)) :
    Ev (fun k => host_Parse.f k s) r := by
  unfold host_Parse.f
  refine Ev.ite_neg (fun h => h0 (data_nil.1 h)) (Ev.bind hc ?_)
  have h1 : host_registered.f n = some (regS n) := by unfold host_registered.f; rw [if_pos (by omega)]
  have h2 : host_literal.f n = some (litS n) := by unfold host_literal.f; rw [if_pos (by omega)]
  simp only [h1, h2, Option.bind_some]
  have hj : nameOK n.data.toList → Ev (fun k => host_Parse.j0 k n p has false) r := by
    intro hok
    refine Ev.step (fun k => by rw [host_Parse.j0]) ?_
    refine Ev.ite_neg (by simp) ?_
    rw [hyes hok]
    cases has
    · exact Ev.ite_neg (by simp) (Ev.now _)
    · refine Ev.ite_pos rfl ?_
      have h3 : digits_Dec.f p 65535 = some (numSpec 10 65535 p.data.toList) := by
        unfold digits_Dec.f digits_number.f
        rw [if_pos ⟨by omega, .inl rfl, by omega, by omega⟩, numS_spec (.inl rfl) (by omega)]
        rfl
      simp only [h3, Option.bind_some, if_true]
      generalize numSpec 10 65535 p.data.toList = q
      by_cases h6 : q.2 = 0
      · rw [portS_0 h6, h6]
        exact Ev.ite_pos rfl (Ev.now _)
      by_cases h5 : q.2 = 5
      · rw [portS_5 h5, h5]
        exact Ev.ite_neg (by omega) (Ev.ite_pos rfl (Ev.now _))
      · rw [portS_3 h5 h6]
        exact Ev.ite_neg h6 (Ev.ite_neg h5 (Ev.now _))
  by_cases hr : regS n = true
  · exact Ev.ite_pos hr (hj (.inl ((regS_iff n).1 hr)))
  · refine Ev.ite_neg hr ?_
    cases hl : litS n
    · have : ¬ nameOK n.data.toList := by
        rintro (h | h)
        · exact hr ((regS_iff n).2 h)
        · rw [(litS_iff n).2 h] at hl
          cases hl
      rw [hno this]
      refine Ev.step (fun k => by rw [host_Parse.j0]) ?_
      exact Ev.ite_pos rfl (Ev.now _)
    · exact hj (.inr ((litS_iff n).1 hl))
theorem reg_head {p : List UInt8} {r : List UInt8} (h : regL (91 :: r) 0 = true) : False := by
  rw [reg_noplain (by omega) (by decide) (by decide)] at h
  cases h
theorem litOK_head {c : UInt8} {r : List UInt8} (h : litOK (c :: r)) : c = 91 := by
  obtain ⟨inner, h1, _⟩ := h
  exact (List.cons.inj h1).1
theorem no93 {l : List UInt8} (h : l.all litC = true) : ¬ 93 ∈ l := by
  intro hm
  have := (List.all_eq_true.1 h) 93 hm
  rw [litC_93] at this
  cases this
/-- A literal that begins with another is that. -/
theorem litOK_pre {inner rest : List UInt8} (h1 : inner.all litC = true) (h : litOK (91 :: inner ++ 93 :: rest)) : rest = [] := by
  obtain ⟨i2, h2, h3, h4⟩ := h
  have h5 : inner ++ 93 :: rest = i2 ++ [93] := (List.cons.inj h2).2
  rcases List.append_eq_append_iff.1 h5 with ⟨c, hc1, hc2⟩ | ⟨c, hc1, hc2⟩
  · cases c with
    | nil => exact (List.cons.inj hc2).2
    | cons d c =>
      exfalso
      apply no93 h4
      rw [hc1, ← (List.cons.inj hc2).1]
      simp
  · cases c with
    | nil => simp at hc2; exact hc2
    | cons d c => simp at hc2
theorem hexB_58 : hexB 58 = false := by decide
theorem plainB_58 : plainB 58 = false := by decide
theorem reg_58 {p : List UInt8} (h : regL p 0 = true) : ¬ 58 ∈ p := reg_no h hexB_58 plainB_58 (by decide)
theorem parseS_some {s : ByteArray} {n : Nat} (h0 : ¬ s.data.toList = []) (hn : nameL s.data.toList = n) (h1 : ¬ n = 0) (h2 : ¬ n = s.size) (h3 : s.data.toList[n]? = some 58) :
    parseS s = portS (numSpec 10 65535 (s.data.toList.drop (n + 1))) (s.extract 0 n) := by
  unfold parseS
  rw [if_neg h0, hn, if_neg h1, if_neg h2, if_pos h3]
theorem parseS_bad {s : ByteArray} {n : Nat} (h0 : ¬ s.data.toList = []) (hn : nameL s.data.toList = n) (h : n = 0 ∨ (¬ n = s.size ∧ s.data.toList[n]? ≠ some 58) ∨ (¬ n = s.size ∧ ∃ c, c ∈ s.data.toList.drop (n + 1) ∧ ¬ val c < 10)) :
    parseS s = (⟨#[]⟩, 0, 3) := by
  unfold parseS
  rw [if_neg h0, hn]
  rcases h with h | ⟨h, h3⟩ | ⟨h, c, h3, h4⟩
  · rw [if_pos h]
  · by_cases h1 : n = 0
    · rw [if_pos h1]
    · rw [if_neg h1, if_neg h, if_neg h3]
  · by_cases h1 : n = 0
    · rw [if_pos h1]
    · rw [if_neg h1, if_neg h, numSpec_colon h3 h4]
      split <;> rfl
theorem parseS_all {s : ByteArray} (h0 : ¬ s.data.toList = []) (hn : nameL s.data.toList = s.size) : parseS s = (s, 80, 0) := by
  have : ¬ s.size = 0 := by
    intro h
    apply h0
    apply List.eq_nil_of_length_eq_zero
    rw [Array.length_toList]
    exact h
  unfold parseS
  rw [if_neg h0, hn, if_neg this, if_pos rfl]
theorem last_le {a b l : List UInt8} {m : Nat} {c : UInt8} (h : l = a ++ c :: b) (hb : ¬ c ∈ b) (hm : l[m]? = some c) : m ≤ a.length := by
  apply Decidable.byContradiction
  intro h'
  apply hb
  rw [h, List.getElem?_append_right (by omega)] at hm
  obtain ⟨k, hk⟩ : ∃ k, m - a.length = k + 1 := ⟨m - a.length - 1, by omega⟩
  rw [hk, List.getElem?_cons_succ] at hm
  exact List.mem_of_getElem? hm
theorem last_eq {a b a' b' : List UInt8} {c : UInt8} (h : a ++ c :: b = a' ++ c :: b') (hb : ¬ c ∈ b) (hb' : ¬ c ∈ b') : a = a' ∧ b = b' := by
  have h1 := last_le (m := a'.length) rfl hb (by rw [h]; simp)
  have h2 := last_le (m := a.length) rfl hb' (by rw [← h]; simp)
  have := List.append_inj h (by omega)
  exact ⟨this.1, (List.cons.inj this.2).2⟩
theorem head_91 {l : List UInt8} : l.head? = some 91 ↔ ∃ r, l = 91 :: r := by
  cases l with
  | nil => simp
  | cons c r => simp
theorem Parse_ev (s : ByteArray) (hs : s.size ≤ 140737488355327) : Ev (fun k => host_Parse.f k s) (parseS s) := by
  by_cases h0 : s.data.toList = []
  · unfold host_Parse.f parseS
    rw [if_pos h0]
    exact Ev.ite_pos (data_nil.2 h0) (Ev.now _)
  have hlen : s.data.toList.length = s.size := by rw [Array.length_toList]; rfl
  rcases cut_ev s (by omega) with ⟨hc, hno⟩ | ⟨a, b, hab, hb, h93, n, p, hn, hp, hc⟩
  · -- no colon that counts
    refine Parse_name s s ⟨#[]⟩ false hs h0 hs (by show 0 ≤ _; omega) hc _ ?_ ?_
    · intro hok
      show parseS s = (s, 80, 0)
      refine parseS_all h0 ?_
      rw [← hlen]
      rcases hok with ⟨_, hr⟩ | ⟨inner, h1, h2, h3⟩
      · rw [nameL_no (by intro h; obtain ⟨r, h⟩ := head_91.1 h; rw [h] at hr; exact reg_head (p := []) hr)]
        have := reg_scan _ s.data.toList [] (Nat.le_refl _) hr
        rw [List.append_nil] at this
        rw [this]
        simp [scan]
      · rw [h1, nameL_lit h2 h3]
        simp
    · intro hok
      by_cases hd : s.data.toList.head? = some 91
      · obtain ⟨r, hr⟩ := head_91.1 hd
        rcases nameL_br r with ⟨h1, _⟩ | ⟨inner, rest, h1, h2, h3, h4⟩
        · exact parseS_bad h0 (by rw [hr]; exact h1) (.inl rfl)
        · have hne : rest ≠ [] := by
            rintro rfl
            exact hok (.inr ⟨inner, by rw [hr, h1]; rfl, h2, h3⟩)
          have hsz : s.size = inner.length + 2 + rest.length := by
            rw [← hlen, hr, h1]
            simp only [List.length_cons, List.length_append]
            omega
          have hrl : rest.length ≠ 0 := fun h => hne (List.eq_nil_of_length_eq_zero h)
          refine parseS_bad (n := inner.length + 2) h0 (by rw [hr]; exact h4) (.inr (.inl ⟨by omega, ?_⟩))
          intro h58
          rcases hno with hno | ⟨a, b, hab, hb1, hb2, hb3⟩
          · exact hno (List.mem_of_getElem? h58)
          · have := last_le hab hb2 h58
            apply hb3
            have e : s.data.toList = (91 :: inner) ++ 93 :: rest := by rw [hr, h1]; rfl
            rw [hab] at e
            rcases List.append_eq_append_iff.1 e with ⟨c, hc1, hc2⟩ | ⟨c, hc1, hc2⟩
            · have := congrArg List.length hc1
              simp at this
              omega
            · cases c with
              | nil => rw [hc1] at this; simp at this
              | cons d c =>
                rw [hc1, ← (List.cons.inj hc2).1]
                simp
      · have hnl := nameL_no hd
        cases hsc : scan s.data.toList with
        | none =>
          rw [hsc] at hnl
          exact parseS_bad h0 hnl (.inl rfl)
        | some m =>
          rw [hsc] at hnl
          obtain ⟨g1, g2, g3⟩ := scan_some _ _ m (Nat.le_refl _) hsc
          by_cases hm0 : m = 0
          · exact parseS_bad h0 hnl (.inl hm0)
          have hms : ¬ m = s.size := by
            intro h
            rw [List.take_of_length_le (by omega)] at g2
            exact hok (.inl ⟨h0, g2⟩)
          by_cases h58 : s.data.toList[m]? = some 58
          · rcases hno with hno | ⟨a, b, hab, hb1, hb2, hb3⟩
            · exact absurd (List.mem_of_getElem? h58) hno
            · have := last_le hab hb2 h58
              refine parseS_bad h0 hnl (.inr (.inr ⟨hms, 93, ?_, by decide⟩))
              rw [hab, List.drop_append, List.mem_append]
              right
              rw [show m + 1 - a.length = (if m = a.length then 1 else 0) by split <;> omega]
              split <;> simp [hb1]
          · exact parseS_bad h0 hnl (.inr (.inl ⟨hms, h58⟩))
  · have hsz : s.size = a.length + 1 + b.length := by
      rw [← hlen, hab]
      simp
      omega
    have hn2 : n.size = a.length := by rw [← hn, Array.length_toList]; rfl
    have hp2 : p.size = b.length := by rw [← hp, Array.length_toList]; rfl
    have hat : s.data.toList[a.length]? = some 58 := by rw [hab]; simp
    have hdr : s.data.toList.drop (a.length + 1) = b := by rw [hab]; simp
    have hex : s.extract 0 a.length = n := by
      apply ByteArray.ext
      apply Array.ext'
      rw [hn]
      simp [ByteArray.data_extract]
      rw [hab]
      simp
    refine Parse_name s n p true hs h0 (by omega) (by omega) hc _ ?_ ?_
    · intro hok
      rw [if_pos rfl, hp]
      have hna : nameL s.data.toList = a.length ∧ a ≠ [] := by
        rw [hn] at hok
        rcases hok with ⟨ha, hr⟩ | ⟨inner, h1, h2, h3⟩
        · have hd : s.data.toList.head? ≠ some 91 := by
            intro h
            obtain ⟨r, h⟩ := head_91.1 h
            cases a with
            | nil => exact ha rfl
            | cons c a =>
              rw [hab] at h
              have := (List.cons.inj h).1
              subst this
              exact reg_head (p := []) hr
          rw [nameL_no hd, hab, reg_scan _ a (58 :: b) (Nat.le_refl _) hr, scan_no (by decide) plainB_58]
          exact ⟨by simp, ha⟩
        · rw [hab, h1, List.append_assoc]
          show nameL (91 :: inner ++ 93 :: 58 :: b) = _ ∧ _
          rw [nameL_lit h2 h3]
          simp
      have := parseS_some h0 hna.1 (by intro h; exact hna.2 (List.eq_nil_of_length_eq_zero h)) (by omega) hat
      rw [this, hdr, hex]
    · intro hok
      rw [hn] at hok
      by_cases hd : s.data.toList.head? = some 91
      · obtain ⟨r, hr⟩ := head_91.1 hd
        rcases nameL_br r with ⟨h1, _⟩ | ⟨inner, rest, h1, h2, h3, h4⟩
        · exact parseS_bad h0 (by rw [hr]; exact h1) (.inl rfl)
        · have e : s.data.toList = (91 :: inner) ++ 93 :: rest := by rw [hr, h1]; rfl
          have h93a : 93 ∈ a := by
            rcases h93 with h | h
            · exact absurd (by rw [e]; simp) h
            · exact h
          have hne : rest ≠ [] := by
            rintro rfl
            rw [hab] at e
            have h5 : 93 ∈ (91 : UInt8) :: inner := by
              rcases List.append_eq_append_iff.1 e with ⟨c, hc1, hc2⟩ | ⟨c, hc1, hc2⟩
              · rw [hc1]; simp [h93a]
              · cases c with
                | nil => rw [List.append_nil] at hc1; rw [hc1] at h93a; exact h93a
                | cons d c => simp at hc2
            rcases List.mem_cons.1 h5 with h6 | h6
            · exact absurd h6 (by decide)
            · exact no93 h3 h6
          have hsz2 : s.size = inner.length + 2 + rest.length := by
            rw [← hlen, hr, h1]
            simp only [List.length_cons, List.length_append]
            omega
          have hrl : rest.length ≠ 0 := fun h => hne (List.eq_nil_of_length_eq_zero h)
          by_cases h58 : s.data.toList[inner.length + 2]? = some 58
          · cases rest with
            | nil => exact absurd rfl hne
            | cons c rest =>
              have hc58 : c = 58 := by
                rw [e] at h58
                simp at h58
                exact h58
              subst hc58
              by_cases h6 : 58 ∈ rest
              · refine parseS_bad (n := inner.length + 2) h0 (by rw [hr]; exact h4) (.inr (.inr ⟨by omega, 58, ?_, by decide⟩))
                rw [e, show inner.length + 2 + 1 = ((91 :: inner) ++ [93, 58]).length by simp, show (91 :: inner) ++ 93 :: 58 :: rest = ((91 :: inner) ++ [93, 58]) ++ rest by simp, List.drop_left]
                exact h6
              · exfalso
                rw [hab, show (91 :: inner) ++ 93 :: 58 :: rest = (91 :: inner ++ [93]) ++ 58 :: rest by simp] at e
                have := (last_eq e hb h6).1
                exact hok (.inr ⟨inner, this, h2, h3⟩)
          · exact parseS_bad h0 (by rw [hr]; exact h4) (.inr (.inl ⟨by omega, h58⟩))
      · have hnl := nameL_no hd
        cases hsc : scan s.data.toList with
        | none =>
          rw [hsc] at hnl
          exact parseS_bad h0 hnl (.inl rfl)
        | some m =>
          rw [hsc] at hnl
          obtain ⟨g1, g2, g3⟩ := scan_some _ _ m (Nat.le_refl _) hsc
          by_cases hm0 : m = 0
          · exact parseS_bad h0 hnl (.inl hm0)
          have hms : ¬ m = s.size := by
            intro h
            rw [List.take_of_length_le (by omega)] at g2
            exact reg_58 g2 (by rw [hab]; simp)
          by_cases h58 : s.data.toList[m]? = some 58
          · have hle := last_le hab hb h58
            have hma : ¬ m = a.length := by
              intro h
              rw [hab, h, List.take_left'] at g2
              · exact hok (.inl ⟨by intro h'; rw [h'] at h; exact hm0 h, g2⟩)
              · rfl
            refine parseS_bad h0 hnl (.inr (.inr ⟨hms, 58, ?_, by decide⟩))
            rw [hab, List.drop_append, List.mem_append]
            right
            rw [show m + 1 - a.length = 0 by omega]
            simp
          · exact parseS_bad h0 hnl (.inr (.inl ⟨hms, h58⟩))

/-! Key -/
theorem parseS_size {s : ByteArray} : (parseS s).1.size ≤ s.size := by
  unfold parseS portS
  have h0 : (⟨#[]⟩ : ByteArray).size = 0 := rfl
  repeat' split
  all_goals first | exact Nat.le_refl _ | (show (⟨#[]⟩ : ByteArray).size ≤ _; omega) | (simp; done) | (simp; omega)
theorem numSpec_range {base most : Int} {l : List UInt8} (hm : 0 ≤ most) (hb : 1 ≤ base) : 0 ≤ (numSpec base most l).1 ∧ (numSpec base most l).1 ≤ most := by
  unfold numSpec
  have := numv_ge hb l 0 (by omega)
  repeat' split
  all_goals simp
  all_goals omega
theorem parseS_port {s : ByteArray} : 0 ≤ (parseS s).2.1 ∧ (parseS s).2.1 ≤ 65535 := by
  unfold parseS portS
  have := @numSpec_range 10 65535 (s.data.toList.drop (nameL s.data.toList + 1)) (by omega) (by omega)
  repeat' split
  all_goals first | exact this | (simp; done) | (simp; omega)
def keyS (s : ByteArray) : ByteArray × Bool := if (parseS s).2.2 = 0 then (ba (hostTextL (parseS s).1.data.toList (parseS s).2.1), true) else (⟨#[]⟩, false)
theorem keyS_0 {s : ByteArray} (h : (parseS s).2.2 = 0) : keyS s = (ba (hostTextL (parseS s).1.data.toList (parseS s).2.1), true) := if_pos h
theorem keyS_n {s : ByteArray} (h : ¬ (parseS s).2.2 = 0) : keyS s = (⟨#[]⟩, false) := if_neg h
theorem Key_ev (s : ByteArray) (hs : s.size ≤ 140737488351000) : Ev (fun k => host_Key.f k s) (keyS s) := by
  unfold host_Key.f
  refine Ev.bind (Parse_ev s (by omega)) ?_
  have h1 := @parseS_size s
  have h2 := @parseS_port s
  by_cases h : (parseS s).2.2 = 0
  · rw [keyS_0 h]
    refine Ev.ite_pos h ?_
    have : host_Text.f (parseS s).1 (parseS s).2.1 = some (ba (hostTextL (parseS s).1.data.toList (parseS s).2.1)) := by
      unfold host_Text.f; rw [if_pos (by omega)]
    simp only [this, Option.bind_some]
    exact Ev.now _
  · rw [keyS_n h]
    exact Ev.ite_neg h (Ev.now _)
theorem refKey_ev (s : ByteArray) (hs : s.size ≤ 140737488351000) : Ev (fun k => abutmentref11_Key.f k s) (keyS s) := by
  unfold abutmentref11_Key.f
  refine Ev.bind (refParse_ev s (by omega)) ?_
  have h1 := @parseS_size s
  have h2 := @parseS_port s
  by_cases h : (parseS s).2.2 = 0
  · rw [keyS_0 h]
    refine Ev.ite_pos h ?_
    have : abutmentref11_Text.f (parseS s).1 (parseS s).2.1 = some (ba (hostTextL (parseS s).1.data.toList (parseS s).2.1)) := by
      unfold abutmentref11_Text.f; rw [if_pos (by omega)]
    simp only [this, Option.bind_some]
    exact Ev.now _
  · rw [keyS_n h]
    exact Ev.ite_neg h (Ev.now _)
theorem text_81 : hostTextL [65] 81 = [97, 58, 56, 49] := by
  unfold hostTextL textL
  rw [if_neg (by decide), if_neg (by decide), show (81 : Int).natAbs = 81 from rfl, digL_ge (by omega) (by omega), digL_lt (by omega)]
  decide
theorem ba_list (l : List UInt8) : (ba l).toList = l := by rw [toList_eq]; rfl
theorem lives_ev : Ev (fun k => abutmentlaw11_lives.f k) true := by
  unfold abutmentlaw11_lives.f
  have e1 : keyS ⟨#[69, 120, 97, 109, 112, 108, 101, 46, 67, 79, 77, 58, 56, 48]⟩ = (ba [101, 120, 97, 109, 112, 108, 101, 46, 99, 111, 109], true) := by
    decide +kernel
  have e2 : parseS ⟨#[91, 58, 58, 49, 93, 58, 56, 48, 56, 48]⟩ = (ba [91, 58, 58, 49, 93], 8080, 0) := by
    decide +kernel
  have e3 : host_Text.f ⟨#[65]⟩ 81 = some (ba [97, 58, 56, 49]) := by
    unfold host_Text.f
    rw [if_pos (by decide)]
    exact congrArg (fun l => some (ba l)) text_81
  refine Ev.bind (Key_ev _ (by decide)) (Ev.bind (Parse_ev _ (by decide)) ?_)
  rw [e1, e2]
  simp only [e3, Option.bind_some, ba_list, if_true]
  exact Ev.now _
theorem mn_cut (a0 : ByteArray) : ∃ s : ByteArray, s.size ≤ 500 ∧ a0.extract 0 (mn (a0.size : Int) 500).toNat = s ∧ 0 ≤ mn (a0.size : Int) 500 ∧ mn (a0.size : Int) 500 ≤ (a0.size : Int) := by
  have h : mn (a0.size : Int) 500 = min (a0.size : Int) 500 := by unfold mn; omega
  refine ⟨_, ?_, rfl, by omega, by omega⟩
  simp
  omega
theorem law_Parses : abutmentlaw11_HostParses.Pure := by
  intro a0 ha
  apply Ev.rounds
  unfold abutmentlaw11_HostParses.f
  obtain ⟨s, hs, e, h1, h2⟩ := mn_cut a0
  rw [e]
  refine Ev.ite_pos h1 (Ev.ite_pos h2 ?_)
  refine Ev.bind (Parse_ev s (by omega)) (Ev.bind (refParse_ev s (by omega)) (Ev.bind (Key_ev s (by omega)) (Ev.bind (refKey_ev s (by omega)) ?_)))
  refine Ev.ite_pos rfl (Ev.ite_pos rfl (Ev.ite_pos rfl (Ev.ite_pos rfl (Ev.ite_pos (by simp) ?_))))
  exact Ev.bind lives_ev (Ev.now _)
theorem law_Text : abutmentlaw11_HostText.Pure := by
  intro a0 a1 ha hw
  apply Ev.rounds
  unfold abutmentlaw11_HostText.f
  obtain ⟨s, hs, e, h1, h2⟩ := mn_cut a0
  rw [e]
  have hr := bounds_i64 hw
  have e1 : host_Text.f s a1 = some (ba (hostTextL s.data.toList a1)) := by unfold host_Text.f; rw [if_pos (by omega)]
  have e2 : abutmentref11_Text.f s a1 = some (ba (hostTextL s.data.toList a1)) := by unfold abutmentref11_Text.f; rw [if_pos (by omega)]
  simp only [e1, e2, Option.bind_some]
  refine Ev.ite_pos h1 (Ev.ite_pos h2 ?_)
  simp only [if_true]
  exact Ev.bind lives_ev (Ev.now _)

/-! names and small letters -/
theorem nameL_ok {a : List UInt8} (h : nameOK a) (b : List UInt8) : nameL a = a.length ∧ nameL (a ++ 58 :: b) = a.length ∧ a ≠ [] := by
  rcases h with ⟨ha, hr⟩ | ⟨inner, h1, h2, h3⟩
  · have hd : a.head? ≠ some 91 := by
      intro h
      obtain ⟨r, h⟩ := head_91.1 h
      rw [h] at hr
      exact reg_head (p := []) hr
    have hd2 : (a ++ 58 :: b).head? ≠ some 91 := by
      cases a with
      | nil => exact absurd rfl ha
      | cons c a => exact hd
    rw [nameL_no hd, nameL_no hd2, reg_scan _ a (58 :: b) (Nat.le_refl _) hr, scan_no (by decide) plainB_58]
    have := reg_scan _ a [] (Nat.le_refl _) hr
    rw [List.append_nil] at this
    rw [this]
    exact ⟨by simp [scan], by simp, ha⟩
  · rw [h1, List.append_assoc]
    refine ⟨?_, ?_, by simp⟩
    · rw [nameL_lit h2 h3]; simp
    · show nameL (91 :: inner ++ 93 :: 58 :: b) = _
      rw [nameL_lit h2 h3]
      simp
theorem nameOK_of {l : List UInt8} {n : Nat} (h : nameL l = n) (hn : n ≠ 0) : nameOK (l.take n) := by
  by_cases hd : l.head? = some 91
  · obtain ⟨r, hr⟩ := head_91.1 hd
    rcases nameL_br r with ⟨h1, _⟩ | ⟨inner, rest, h1, h2, h3, h4⟩
    · exact absurd (by rw [← h, hr]; exact h1) hn
    · refine .inr ⟨inner, ?_, h2, h3⟩
      rw [← h, hr, h4, h1, show inner.length + 2 = (91 :: inner ++ [93]).length by simp, show 91 :: (inner ++ 93 :: rest) = (91 :: inner ++ [93]) ++ rest by simp, List.take_left]
  · rw [nameL_no hd] at h
    cases hsc : scan l with
    | none => rw [hsc] at h; exact absurd h.symm hn
    | some m =>
      rw [hsc] at h
      have hmn : m = n := h
      subst hmn
      obtain ⟨g1, g2, g3⟩ := scan_some _ _ m (Nat.le_refl _) hsc
      refine .inl ⟨?_, g2⟩
      intro h'
      have := congrArg List.length h'
      rw [List.length_take, List.length_nil] at this
      omega
theorem parseS_ok {a : List UInt8} (h : nameOK a) : parseS (ba a) = (ba a, 80, 0) := by
  have h1 := nameL_ok h []
  exact parseS_all h1.2.2 (by rw [show (ba a).data.toList = a from rfl, h1.1, ba_size])
theorem parseS_port2 {a b : List UInt8} (h : nameOK a) : parseS (ba (a ++ 58 :: b)) = portS (numSpec 10 65535 b) (ba a) := by
  have h1 := nameL_ok h b
  have e : (ba (a ++ 58 :: b)).data.toList = a ++ 58 :: b := rfl
  have := parseS_some (s := ba (a ++ 58 :: b)) (n := a.length) (by rw [e]; simp) (by rw [e]; exact h1.2.1) (by intro h'; exact h1.2.2 (List.eq_nil_of_length_eq_zero h')) (by rw [ba_size]; simp) (by rw [e]; simp)
  rw [this, e]
  congr 1
  · simp
  · apply ByteArray.ext
    apply Array.ext'
    simp [ByteArray.data_extract]
    rw [e]
    simp
    rfl
theorem parseS_name {s : ByteArray} (h : (parseS s).2.2 = 0) : nameOK (parseS s).1.data.toList := by
  unfold parseS at h ⊢
  by_cases h0 : s.data.toList = []
  · rw [if_pos h0] at h; simp at h
  rw [if_neg h0] at h ⊢
  by_cases h1 : nameL s.data.toList = 0
  · rw [if_pos h1] at h; simp at h
  rw [if_neg h1] at h ⊢
  have hok := nameOK_of (l := s.data.toList) rfl h1
  by_cases h2 : nameL s.data.toList = s.size
  · rw [if_pos h2]
    rw [List.take_of_length_le (by rw [h2]; simp)] at hok
    exact hok
  rw [if_neg h2] at h ⊢
  by_cases h3 : s.data.toList[nameL s.data.toList]? = some 58
  · rw [if_pos h3] at h ⊢
    generalize numSpec 10 65535 (s.data.toList.drop (nameL s.data.toList + 1)) = q at h ⊢
    by_cases h5 : q.2 = 5
    · rw [portS_5 h5] at h; simp at h
    by_cases h6 : q.2 = 0
    · rw [portS_0 h6]
      have e : (s.extract 0 (nameL s.data.toList)).data.toList = s.data.toList.take (nameL s.data.toList) := by simp [ByteArray.data_extract]
      rw [e]
      exact hok
    · rw [portS_3 h5 h6] at h; simp at h
  · rw [if_neg h3] at h; simp at h
theorem low_low (c : UInt8) : lowB (lowB c) = lowB c := by
  have := byte_cases (fun c => lowB (lowB c) == lowB c) (by decide +kernel) c
  simpa using this
theorem lowL_low (l : List UInt8) : lowL (lowL l) = lowL l := by
  unfold lowL
  rw [List.map_map]
  congr 1
  funext c
  exact low_low c
theorem low_hex (c : UInt8) : hexI (lowB c).toNat = hexI c.toNat := by
  have := byte_cases (fun c => hexI (lowB c).toNat == hexI c.toNat) (by decide +kernel) c
  simpa using this
theorem low_plain (c : UInt8) : plainI (lowB c).toNat = plainI c.toNat := by
  have := byte_cases (fun c => plainI (lowB c).toNat == plainI c.toNat) (by decide +kernel) c
  simpa using this
theorem low_litC (c : UInt8) : litC (lowB c) = litC c := by
  have := byte_cases (fun c => litC (lowB c) == litC c) (by decide +kernel) c
  simpa using this
theorem low_37 (c : UInt8) : ((lowB c).toNat : Int) = 37 ↔ (c.toNat : Int) = 37 := by
  have := byte_cases (fun c => decide (((lowB c).toNat : Int) = 37) == decide ((c.toNat : Int) = 37)) (by decide +kernel) c
  simpa using this
theorem reg_low : ∀ (l : List UInt8) (left : Int), regL (lowL l) left = regL l left
  | [], _ => rfl
  | c :: l, left => by
    show regL (lowB c :: lowL l) left = _
    rw [regL, regL, low_hex, low_plain, reg_low l, reg_low l, reg_low l]
    simp only [low_37]
theorem nameOK_low {a : List UInt8} (h : nameOK a) : nameOK (lowL a) := by
  rcases h with ⟨ha, hr⟩ | ⟨inner, h1, h2, h3⟩
  · exact .inl ⟨by simpa [lowL] using ha, by rw [reg_low]; exact hr⟩
  · refine .inr ⟨lowL inner, ?_, by simpa [lowL] using h2, ?_⟩
    · rw [h1]
      simp [lowL]
      decide
    · simp only [List.all_eq_true] at h3 ⊢
      intro x hx
      obtain ⟨c, hc, rfl⟩ := List.mem_map.1 hx
      rw [low_litC]
      exact h3 c hc
/-! a number comes back from its digits -/
theorem numv_snoc (l : List UInt8) (c : UInt8) (n : Int) : numv 10 (l ++ [c]) n = numv 10 l n * 10 + val c := by simp [numv, List.foldl_append]
theorem val_sg {d : Nat} (h : d < 10) : val (sg d) = d := by
  have : ∀ d : Fin 10, val (sg d.val) = d.val := by decide
  exact this ⟨d, h⟩
theorem numv_digL : ∀ (k n : Nat), n ≤ k → numv 10 (digL 10 n) 0 = n ∧ badd 10 (digL 10 n) = false ∧ digL 10 n ≠ []
  | k, n, hk => by
    by_cases h : n < 10
    · rw [digL_lt h]
      have := val_sg h
      refine ⟨by simp [numv, this], by simp [badd, this]; omega, by simp⟩
    · rw [digL_ge (by omega) h]
      have hd : n / 10 < n := by omega
      cases k with
      | zero => omega
      | succ k =>
        obtain ⟨h1, h2, h3⟩ := numv_digL k (n / 10) (by omega)
        have h4 := val_sg (d := n % 10) (by omega)
        refine ⟨?_, ?_, by simp⟩
        · rw [numv_snoc, h1, h4]
          omega
        · unfold badd at h2 ⊢
          rw [List.any_append, h2]
          simp [h4]
          omega
theorem numSpec_text {p : Int} (h0 : 0 ≤ p) (h1 : p ≤ 65535) : numSpec 10 65535 (textL p) = (p, 0) := by
  have e : textL p = digL 10 p.natAbs := by unfold textL; rw [if_neg (by omega)]
  rw [e]
  obtain ⟨g1, g2, g3⟩ := numv_digL p.natAbs p.natAbs (Nat.le_refl _)
  unfold numSpec
  rw [if_neg g3, if_neg (by simp [g2]), g1, if_neg (by omega), show ((p.natAbs : Nat) : Int) = p by omega]
/-- What Text writes, Parse reads. -/
theorem parse_text {a : List UInt8} {p : Int} (h : nameOK a) (h0 : 0 ≤ p) (h1 : p ≤ 65535) : parseS (ba (hostTextL a p)) = (ba (lowL a), p, 0) := by
  unfold hostTextL
  by_cases hp : p = 80
  · rw [if_pos hp, parseS_ok (nameOK_low h), hp]
  · rw [if_neg hp, parseS_port2 (nameOK_low h), numSpec_text h0 h1, portS_0 rfl]
theorem law_Back : abutmentlaw11_HostBack.Pure := by
  intro a0 ha
  apply Ev.rounds
  unfold abutmentlaw11_HostBack.f
  obtain ⟨s, hs, e, h1, h2⟩ := mn_cut a0
  rw [e]
  refine Ev.ite_pos h1 (Ev.ite_pos h2 (Ev.bind (Key_ev s (by omega)) ?_))
  by_cases h : (parseS s).2.2 = 0
  · have hn := parseS_name h
    have hsz := @parseS_size s
    have hp := @parseS_port s
    rw [keyS_0 h]
    refine Ev.ite_pos rfl ?_
    have htl : (hostTextL (parseS s).1.data.toList (parseS s).2.1).length ≤ 600 := by
      have := textL_len (n := (parseS s).2.1) (by omega) (by omega)
      unfold hostTextL
      split <;> simp [lowL] <;> omega
    have hpt := parse_text hn hp.1 hp.2
    refine Ev.bind (Key_ev (ba _) (by rw [ba_size]; omega)) (Ev.bind (Parse_ev s (by omega)) ?_)
    have e1 : host_Text.f (parseS s).1 (parseS s).2.1 = some (ba (hostTextL (parseS s).1.data.toList (parseS s).2.1)) := by unfold host_Text.f; rw [if_pos (by omega)]
    have e2 : abutmentref01_Lower.f (parseS s).1 = some (ba (lowL (parseS s).1.data.toList)) := by unfold abutmentref01_Lower.f; rw [if_pos (by omega)]
    simp only [e1, e2, Option.bind_some]
    refine Ev.bind (Parse_ev (ba _) (by rw [ba_size]; omega)) ?_
    have hk : keyS (ba (hostTextL (parseS s).1.data.toList (parseS s).2.1)) = (ba (hostTextL (parseS s).1.data.toList (parseS s).2.1), true) := by
      rw [keyS_0 (by rw [hpt]), hpt]
      show (ba (hostTextL (lowL (parseS s).1.data.toList) (parseS s).2.1), true) = _
      unfold hostTextL
      rw [lowL_low]
    rw [hk, hpt]
    refine Ev.ite_pos rfl (Ev.ite_pos rfl (Ev.ite_pos rfl (Ev.ite_pos rfl (Ev.ite_pos rfl ?_))))
    exact Ev.bind lives_ev (Ev.now _)
  · rw [keyS_n h]
    refine Ev.ite_neg (by simp) (Ev.ite_pos ?_ (Ev.bind lives_ev (Ev.now _)))
    exact data_nil.2 rfl
end Go.Proofs.Ytdbokcgjdkbknaa.PHost
