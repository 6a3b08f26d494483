/-
  L2pPlays at sizes that may not be: New makes no map, and the law holds.
-/
import Derived.Test.YtjcmpfiklmpoaaaAw
namespace Go.Proofs.Ytjcmpfiklmpoaaa.M
open Go.RowKit Go.Proofs.YtjcmpfiklmpoaaaW.PrintWords Go.Proofs.YtjcmpfiklmpoaaaW.PrintLast Go.Proofs.YtjcmpfiklmpoaaaW.PrintMore
set_option linter.unusedVariables false
set_option linter.unusedSimpArgs false
/-- the first of the tests that fails -/
inductive Bad (a0 a1 a2 : Int) : Prop
  | b0 (h : decide (a0 < 1) = true)
  | b1 (h0 : decide (a0 < 1) = false) (h : decide (65536 < a0) = true)
  | b2 (h0 : decide (a0 < 1) = false) (h1 : decide (65536 < a0) = false) (h : decide (a1 < 1) = true)
  | b3 (h0 : decide (a0 < 1) = false) (h1 : decide (65536 < a0) = false) (h2 : decide (a1 < 1) = false) (h : decide (256 < a1) = true)
  | b4 (h0 : decide (a0 < 1) = false) (h1 : decide (65536 < a0) = false) (h2 : decide (a1 < 1) = false) (h3 : decide (256 < a1) = false) (h : decide (a2 < 1) = true)
  | b5 (h0 : decide (a0 < 1) = false) (h1 : decide (65536 < a0) = false) (h2 : decide (a1 < 1) = false) (h3 : decide (256 < a1) = false) (h4 : decide (a2 < 1) = false) (h : decide (64 < a2) = true)
theorem bad_of {a0 a1 a2 : Int} (h : ¬ newOk a0 a1 a2) : Bad a0 a1 a2 := by
  unfold newOk at h
  by_cases c0 : a0 < 1
  · exact .b0 (decide_eq_true c0)
  by_cases c1 : 65536 < a0
  · exact .b1 (decide_eq_false c0) (decide_eq_true c1)
  by_cases c2 : a1 < 1
  · exact .b2 (decide_eq_false c0) (decide_eq_false c1) (decide_eq_true c2)
  by_cases c3 : 256 < a1
  · exact .b3 (decide_eq_false c0) (decide_eq_false c1) (decide_eq_false c2) (decide_eq_true c3)
  by_cases c4 : a2 < 1
  · exact .b4 (decide_eq_false c0) (decide_eq_false c1) (decide_eq_false c2) (decide_eq_false c3) (decide_eq_true c4)
  by_cases c5 : 64 < a2
  · exact .b5 (decide_eq_false c0) (decide_eq_false c1) (decide_eq_false c2) (decide_eq_false c3) (decide_eq_false c4) (decide_eq_true c5)
  exact absurd ⟨⟨by omega, by omega⟩, ⟨by omega, by omega⟩, ⟨by omega, by omega⟩⟩ h
set_option maxHeartbeats 8000000 in
set_option maxRecDepth 100000 in
theorem plays_bad (k : Nat) (a0_0 a0_1 a0_2 : Int) (A1 : Option Addr) (n1 c1 : Nat) (w : World) (ha : incunablelaw27_awake.f k = some true) (hn : ¬ newOk a0_0 a0_1 a0_2) :
    Calls Try.prog 3 #[.agg #[.int .i64 a0_0, .int .i64 a0_1, .int .i64 a0_2], .slice A1 n1 c1] w fun e w' => e = .returned (.bool true) ∧ Below w.heap.size w w' := by
  have hu22 := Try.underlying22
  have HB := Aside0.mk (Below.refl w.heap.size w)
  have HA := Aside0.mk ha
  have HH := Aside0.mk hn
  have h := bad_of hn
  clear ha hn
  cases h <;> (
    go_enter Try.func3, Try.ntmps3
    go_wp2_with (first | ((with_reducible refine gate_dst (N := 2) rfl ?_); refine box_event ?hg (N := 2) ?hd (cs := #[.int .i64 a0_0, .int .i64 a0_1, .int .i64 a0_2]) (t := 22) ?hr ?_; (case hd => rfl); (case hg => rfl); (case hr => first | (go_simp; done) | (go_simp; rfl)); intro gb131 hg w7 hbox hb; have BK := Aside0.mk hbox; have HB1 := Aside0.mk (below_step HB.out hb); clear hbox hb hg HB) | ((with_reducible refine gate_callee (f := 6) rfl ?_); refine goesL_ (some 17) rfl rfl Try.func6 (by kernel_rfl) rfl #[] rfl (by (try simp only [List.map_toArray, List.map_cons, List.map_nil]); first | done | rfl) ?_; (with_reducible refine (incunablelaw27_awake.calls k true _ HA.out).mono ?_); rintro e w8 ⟨rfl, hb⟩; refine ⟨_, rfl, ?_⟩; have BK2 := Aside0.mk (blk_below BK.out hb); have HB2 := Aside0.mk (below_step HB1.out hb); clear hb BK HB1; have hcq_0 : w8.cell? ⟨gb131, 0, none⟩ = some (.int .i64 a0_0) := (blk_cell BK2.out 0).trans rfl; have hcq_1 : w8.cell? ⟨gb131, 1, none⟩ = some (.int .i64 a0_1) := (blk_cell BK2.out 1).trans rfl; have hcq_2 : w8.cell? ⟨gb131, 2, none⟩ = some (.int .i64 a0_2) := (blk_cell BK2.out 2).trans rfl) | (go_at_call 7; (with_reducible refine (l2p_New_bad a0_0 a0_1 a0_2 _ HH.out).mono ?_); rintro e w9 ⟨rfl, ⟨nd, rfl⟩⟩))
    go_ret
    exact ⟨by first | rfl | (simp; done), by repeat (first | exact HB2.out | apply pw_below_drewN | apply below_drew1)⟩)
end Go.Proofs.Ytjcmpfiklmpoaaa.M
