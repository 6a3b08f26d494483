/-
  L2pPlays: what it returns, at sizes that may be and at others.
-/
import Derived.Test.YtjcmpfiklmpoaaaPn
import Derived.Test.YtjcmpfiklmpoaaaPq
namespace Go.Proofs.Ytjcmpfiklmpoaaa.Pz
open Go.RowKit Go.Proofs.Ytjcmpfiklmpoaaa.M Go.Proofs.Ytjcmpfiklmpoaaa.Pl Go.Proofs.Ytjcmpfiklmpoaaa.Pq Go.Proofs.YtjcmpfiklmpoaaaW.PrintWords Go.Proofs.YtjcmpfiklmpoaaaW.PrintLast
theorem calls (a b c : Int) (A1 : Option Addr) (c1 : Nat) (l : List S32) (w : World) (hr : Kd.C k32 w A1 l.length l) (hc : l.length ≤ c1) (hl : WF l) :
    Calls Try.prog 3 #[.agg #[.int .i64 a, .int .i64 b, .int .i64 c], .slice A1 l.length c1] w fun e w' => e = .returned (.bool true) ∧ Below w.heap.size w w' := by
  by_cases h : newOk a b c
  · exact incunablelaw27_L2pPlays.calls 10000 a b c A1 c1 l true w hr hc (plays ⟨h.1, h.2.1, h.2.2⟩ hl)
  · exact plays_bad 10000 a b c A1 l.length c1 w awake_ok h
end Go.Proofs.Ytjcmpfiklmpoaaa.Pz
