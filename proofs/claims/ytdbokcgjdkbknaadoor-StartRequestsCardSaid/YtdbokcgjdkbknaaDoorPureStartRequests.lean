/- StartRequests: a request's first line and a version are read as the document says, for every text (at most 1,000 octets of it). Conditions: none. -/
import Derived.Test.YtdbokcgjdkbknaaDoorPureStart
namespace Go.Proofs.YtdbokcgjdkbknaaDoor.Pure
open Go.RowKit Go.Proofs.YtdbokcgjdkbknaaDoor.PSa Go.Proofs.YtdbokcgjdkbknaaDoor.Hand Go.Proofs.YtdbokcgjdkbknaaDoorW.PrintWords Go.Proofs.YtdbokcgjdkbknaaDoorW.PrintLast
theorem StartRequests : abutmentlaw15_StartRequests.Pure := by
  intro a0 hn
  apply Ev.rounds
  unfold abutmentlaw15_StartRequests.f
  have hm : 0 ≤ mn (a0.size : Int) 1000 ∧ mn (a0.size : Int) 1000 ≤ (a0.size : Int) ∧ mn (a0.size : Int) 1000 ≤ 1000 := by unfold mn; split <;> omega
  simp only [if_pos hm.1, if_pos hm.2.1]
  have hx : (a0.extract 0 (mn (a0.size : Int) 1000).toNat).size ≤ 1000 := by rw [ByteArray.size_extract]; omega
  generalize a0.extract 0 (mn (a0.size : Int) 1000).toNat = x at hx
  simp only [request_s x (by omega : x.size < 4294967281)]
  refine Ev.bind (Ev.now (reqS x)) ?_
  refine Ev.bind (refreq_s x (by omega)) ?_
  simp only [minor_s, rminor_s, Option.bind_some]
  have hs : abutmentref15_Same.f (reqS x).1 (reqS x).2.1 (reqS x).2.2.1 (reqS x).2.2.2.1 (reqS x).2.2.2.2.1 (reqS x).2.2.2.2.2.1 (reqS x).1 (reqS x).2.1 (reqS x).2.2.1 (reqS x).2.2.2.1 (reqS x).2.2.2.2.1 (reqS x).2.2.2.2.2.1 = some true := same_s _ _ _ _ _ _ _
  have hf : (((reqS x).2.2.2.2.2.1.length : Nat) : Int) = 0 := by rw [reqS_fields]; rfl

  simp only [hs, Option.bind_some, if_true, if_pos hf]
  exact Ev.bind lives_s (Ev.now true)
end Go.Proofs.YtdbokcgjdkbknaaDoor.Pure
