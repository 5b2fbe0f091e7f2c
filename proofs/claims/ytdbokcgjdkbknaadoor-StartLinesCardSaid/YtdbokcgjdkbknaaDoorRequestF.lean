/- Hand walk: start.Request in the printer's form. -/
import Derived.Test.YtdbokcgjdkbknaaDoorRequest
namespace Go.Proofs.YtdbokcgjdkbknaaDoor.Hand
open Go.RowKit Go.Proofs.YtdbokcgjdkbknaaDoorW.PrintWords Go.Proofs.YtdbokcgjdkbknaaDoorW.PrintLast Go.Proofs.YtdbokcgjdkbknaaDoorW.PrintMore
set_option linter.unusedVariables false
set_option linter.unusedSimpArgs false
set_option maxHeartbeats 1000000 in
set_option maxRecDepth 100000 in
theorem Request_other (s : ByteArray) (w : World) (hs : s.size < 4294967281) (hw : ¬ (wordsS s).length = 3) :
    Calls Tryd.prog 16 #[.string s] w fun e w' => e = .returned (.tuple #[headV ⟨#[]⟩ ⟨#[]⟩ 0, .int .i64 3]) ∧ Below w.heap.size w w' := by
  have cS := fun W => words_calls s W hs
  generalize wordsS s = l at cS hw
  have hl : (((l.length : Nat) : Int) != 3) = true := by simp; omega
  clear hw
  go_enter Tryd.func16, Tryd.ntmps16
  go_wp2_with (go_at_call 42; refine (cS _).mono ?_; rintro e w1 ⟨rfl, hw1⟩; have hB1 : Below w.heap.size w w1 := hw1 ▸ ((Below.refl _ _).alloc (Nat.le_refl _) _).alloc (by simp) _; have hb0 : w1.heap[w.heap.size]? = some (.cells (headC ⟨#[]⟩ ⟨#[]⟩ 0) 33 (0, 0)) := hw1 ▸ blk_alloc (blk_new w _) _; clear hw1; have cR : ∀ i, w1.cell? ⟨w.heap.size, i, none⟩ = (headC ⟨#[]⟩ ⟨#[]⟩ 0)[i]? := fun i => blk_cell hb0 i; have fR : ∀ i, w1.frozen? ⟨w.heap.size, i, none⟩ = false := fun i => blk_frozen hb0 i; have r0 := cR 0; have r1 := cR 1; have r2 := cR 2; have r3 := cR 3; have r4 := cR 4; have r5 := cR 5; simp [headC] at r0 r1 r2 r3 r4 r5; clear cR hb0)
  refine bodyPost_ret (v := .tuple #[headV ⟨#[]⟩ ⟨#[]⟩ 0, .int .i64 3]) (by simp [results, Tryd.results16, go_sem, headV, headC, *]) rfl ⟨rfl, ?_⟩
  exact ((((((hB1.setCell (p := ⟨w.heap.size, 0, none⟩) (Nat.le_refl _) _).setCell (p := ⟨w.heap.size, 1, none⟩) (Nat.le_refl _) _).setCell (p := ⟨w.heap.size, 2, none⟩) (Nat.le_refl _) _).setCell (p := ⟨w.heap.size, 3, none⟩) (Nat.le_refl _) _).setCell (p := ⟨w.heap.size, 4, none⟩) (Nat.le_refl _) _).setCell (p := ⟨w.heap.size, 5, none⟩) (Nat.le_refl _) _)
def reqR (s a b : ByteArray) (n f : Int) : ByteArray × ByteArray × Int × Int × ByteArray × List S45 × Int :=
  if errS a b f = 0 then (a, b, n, 0, ⟨#[]⟩, [], errS a b f) else (⟨#[]⟩, ⟨#[]⟩, 0, 0, ⟨#[]⟩, [], errS a b f)
def start_Request.f (a0 : ByteArray) : Option (ByteArray × ByteArray × Int × Int × ByteArray × List S45 × Int) :=
  if a0.size < 4294967281 then
    match wordsS a0 with
    | [a, b, c] => (start_Minor.f c).bind fun nf => some (reqR a0 a b nf.1 nf.2)
    | _ => some (⟨#[]⟩, ⟨#[]⟩, 0, 0, ⟨#[]⟩, [], 3)
  else none
theorem start_Request.calls (a0 : ByteArray) (r1 : ByteArray) (r2 : ByteArray) (r3 : Int) (r4 : Int) (r5 : ByteArray) (r6 : List S45) (r7 : Int) (w : World) (h : start_Request.f a0 = some (r1, r2, r3, r4, r5, r6, r7)) :
    Calls Tryd.prog 16 #[.string a0] w fun e w' => ∃ v5_ : Value, e = .returned (.tuple #[.agg #[.string r1, .string r2, .int .i64 r3, .int .i64 r4, .string r5, v5_], .int .i64 r7]) ∧ Kd.R k45 45 w' w.heap.size (fun _ => True) v5_ r6 ∧ Below w.heap.size w w' := by
  unfold start_Request.f at h
  by_cases hs : a0.size < 4294967281
  · rw [if_pos hs] at h
    by_cases hl : (wordsS a0).length = 3
    · match hw : wordsS a0, hl with
      | [a, b, c], _ =>
        rw [hw] at h
        obtain ⟨⟨n, f⟩, hm, hr⟩ := Option.bind_eq_some_iff.1 h
        have hr := Option.some.inj hr
        refine (Request_three a0 a b c n f w hs hw hm).mono ?_
        rintro e w' ⟨rfl, hb⟩
        unfold reqR at hr
        unfold retR
        by_cases h0 : errS a b f = 0
        · rw [if_pos h0] at hr
          rw [if_pos h0]
          simp only [Prod.mk.injEq] at hr
          obtain ⟨rfl, rfl, rfl, rfl, rfl, rfl, rfl⟩ := hr
          exact ⟨_, rfl, Kd.R_nil _ _ _ _ _, hb⟩
        · rw [if_neg h0] at hr
          rw [if_neg h0]
          simp only [Prod.mk.injEq] at hr
          obtain ⟨rfl, rfl, rfl, rfl, rfl, rfl, rfl⟩ := hr
          exact ⟨_, rfl, Kd.R_nil _ _ _ _ _, hb⟩
    · have hr : some (⟨#[]⟩, ⟨#[]⟩, 0, 0, ⟨#[]⟩, [], 3) = some (r1, r2, r3, r4, r5, r6, r7) := by
        rw [← h]
        split
        · rename_i hq
          rw [hq] at hl
          exact absurd rfl hl
        · rfl
      have hr := Option.some.inj hr
      simp only [Prod.mk.injEq] at hr
      obtain ⟨rfl, rfl, rfl, rfl, rfl, rfl, rfl⟩ := hr
      refine (Request_other a0 w hs hl).mono ?_
      rintro e w' ⟨rfl, hb⟩
      exact ⟨_, rfl, Kd.R_nil _ _ _ _ _, hb⟩
  · rw [if_neg hs] at h
    cases h
end Go.Proofs.YtdbokcgjdkbknaaDoor.Hand
