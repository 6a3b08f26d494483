/-
  BlockPlays at sizes that may not be; at all sizes.
-/
import Derived.Test.YtpjmmmgjiaallaaBw
namespace Go.Proofs.Ytpjmmmgjiaallaa.M
open Go.RowKit Go.Proofs.Ytpjmmmgjiaallaa.Bl Go.Proofs.YtpjmmmgjiaallaaW.PrintWords Go.Proofs.YtpjmmmgjiaallaaW.PrintLast Go.Proofs.YtpjmmmgjiaallaaW.PrintMore
set_option linter.unusedVariables false
set_option linter.unusedSimpArgs false
inductive Bad (a0 a1 : Int) : Prop
  | b0 (h : decide (a0 < 1) = true)
  | b1 (h0 : decide (a0 < 1) = false) (h : decide (256 < a0) = true)
  | b2 (h0 : decide (a0 < 1) = false) (h1 : decide (256 < a0) = false) (h : decide (a1 < 1) = true)
  | b3 (h0 : decide (a0 < 1) = false) (h1 : decide (256 < a0) = false) (h2 : decide (a1 < 1) = false) (h : decide (64 < a1) = true)
theorem bad_of {a0 a1 : Int} (h : ¬ newOk a0 a1) : Bad a0 a1 := by
  unfold newOk at h
  by_cases c0 : a0 < 1
  · exact .b0 (decide_eq_true c0)
  by_cases c1 : 256 < a0
  · exact .b1 (decide_eq_false c0) (decide_eq_true c1)
  by_cases c2 : a1 < 1
  · exact .b2 (decide_eq_false c0) (decide_eq_false c1) (decide_eq_true c2)
  by_cases c3 : 64 < a1
  · exact .b3 (decide_eq_false c0) (decide_eq_false c1) (decide_eq_false c2) (decide_eq_true c3)
  exact absurd ⟨⟨by omega, by omega⟩, ⟨by omega, by omega⟩⟩ h
set_option maxHeartbeats 8000000 in
set_option maxRecDepth 100000 in
theorem plays_bad (a0 a1 : Int) (A : Option Addr) (n1 c1 : Nat) (w : World) (hn : ¬ newOk a0 a1) :
    Calls Try.prog 3 #[.int .i64 a0, .int .i64 a1, .slice A n1 c1] w fun e w' => e = .returned (.bool true) ∧ Below w.heap.size w w' := by
  have HH := Aside0.mk hn
  have h := bad_of hn
  clear hn
  cases h <;> (
    go_enter Try.func3, Try.ntmps3
    go_wp2_with (first | (go_at_call 5; (with_reducible refine (awake_calls _).mono ?_); rintro e wa ⟨rfl, hb⟩; have HBA := Aside0.mk hb; clear hb) | (go_at_call 6; (with_reducible refine (New_bad a0 a1 _ HH.out).mono ?_); rintro e w9 ⟨rfl, ⟨nd, rfl⟩⟩))
    go_ret
    exact ⟨by first | rfl | (simp; done), by repeat (first | exact HBA.out | apply pw_below_drewN | apply below_drew1)⟩)
theorem plays (a0 a1 : Int) (A : Option Addr) (n1 c1 : Nat) (l : List S31) (w : World) (hn : n1 = l.length) (hd : Dos w A l) :
    Calls Try.prog 3 #[.int .i64 a0, .int .i64 a1, .slice A n1 c1] w fun e w' => e = .returned (.bool true) ∧ Below w.heap.size w w' := by
  by_cases h : newOk a0 a1
  · exact plays_good a0 a1 A n1 c1 l w hn hd h
  · exact plays_bad a0 a1 A n1 c1 w h
end Go.Proofs.Ytpjmmmgjiaallaa.M
