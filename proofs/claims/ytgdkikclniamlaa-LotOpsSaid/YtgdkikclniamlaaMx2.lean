-- Written by a program of this session (wip/patch_print.py over the kit's print); Lean checks it.
import Derived.Test.YtgdkikclniamlaaMx0
import Derived.Test.YtgdkikclniamlaaMx1
namespace Go.Proofs.Ytgdkikclniamlaa.M
open Go.RowKit Go.Proofs.YtgdkikclniamlaaW.PrintWords Go.Proofs.YtgdkikclniamlaaW.PrintLast Go.Proofs.YtgdkikclniamlaaW.PrintMore
attribute [local go_sem] max2_int min2_int max_two min_two max_three min_three max_four min_four   -- for this text's walks alone
set_option linter.unusedVariables false
set_option linter.unusedSimpArgs false

/-! ### lot_Check: function 11 -/
theorem within_t {a b c : Int} (h : b ≤ a ∧ a ≤ c) : lot_within.f a b c = some true := by
  unfold lot_within.f
  rw [if_pos h.1, decide_eq_true h.2]
theorem within_n {a b c : Int} (h : ¬ (b ≤ a ∧ a ≤ c)) : lot_within.f a b c = some false := by
  unfold lot_within.f
  by_cases c1 : a ≥ b
  · rw [if_pos c1, decide_eq_false (fun h2 => h ⟨c1, h2⟩)]
  · rw [if_neg c1]
def loadOk (a0_0 : Int) (a0_1 : Int) (a0_2 : Int) (a0_3 : Int) (a0_4 : Int) (a0_5 : Int) (a0_6 : Int) : Prop := (0 ≤ a0_3 ∧ a0_3 ≤ 100) ∧ (0 ≤ a0_4 ∧ a0_4 ≤ 100) ∧ (0 ≤ a0_5 ∧ a0_5 ≤ 100) ∧ (0 ≤ a0_6 ∧ a0_6 ≤ 100) ∧ (0 ≤ a0_0 ∧ a0_0 ≤ 4096) ∧ (1 ≤ a0_1 ∧ a0_1 ≤ 65536) ∧ (1 ≤ a0_2 ∧ a0_2 ≤ 8192) ∧ a0_3 + a0_4 + a0_5 ≤ 100
instance (a0_0 : Int) (a0_1 : Int) (a0_2 : Int) (a0_3 : Int) (a0_4 : Int) (a0_5 : Int) (a0_6 : Int) : Decidable (loadOk a0_0 a0_1 a0_2 a0_3 a0_4 a0_5 a0_6) := by unfold loadOk; infer_instance
def lot_Check.f (a0_0 : Int) (a0_1 : Int) (a0_2 : Int) (a0_3 : Int) (a0_4 : Int) (a0_5 : Int) (a0_6 : Int) : Option (Int) := some (if loadOk a0_0 a0_1 a0_2 a0_3 a0_4 a0_5 a0_6 then 0 else 2)
theorem ix4 (a b c d : Int) (w : World) (j : Nat) (h : j < 4) : (Instr.index 57 (.agg #[.int .i64 a, .int .i64 b, .int .i64 c, .int .i64 d]) (.int .i64 (j : Int))).run Try.prog w = .ok (.int .i64 (match j with | 0 => a | 1 => b | 2 => c | _ => d)) w := by
  have hs : ∀ w, (sizeOf 3).run Try.prog w = .ok 1 w := by
    intro w
    obtain ⟨i, hi, _, hsz, _⟩ := info_parts info3
    simp [sizeOf, typeInfo, hi, hsz]
  match j, h with
  | 0, _ => simp [Instr.index, asIntOf, run_underlying Try.underlying57, hs, part]
  | 1, _ => simp [Instr.index, asIntOf, run_underlying Try.underlying57, hs, part]
  | 2, _ => simp [Instr.index, asIntOf, run_underlying Try.underlying57, hs, part]
  | 3, _ => simp [Instr.index, asIntOf, run_underlying Try.underlying57, hs, part]
set_option maxHeartbeats 8000000 in
set_option maxRecDepth 100000 in
theorem lot_Check.calls (a0_0 : Int) (a0_1 : Int) (a0_2 : Int) (a0_3 : Int) (a0_4 : Int) (a0_5 : Int) (a0_6 : Int) (r : Int) (w : World) (h : lot_Check.f a0_0 a0_1 a0_2 a0_3 a0_4 a0_5 a0_6 = some r) : Calls Try.prog 11 #[.agg #[.int .i64 a0_0, .int .i64 a0_1, .int .i64 a0_2, .int .i64 a0_3, .int .i64 a0_4, .int .i64 a0_5, .int .i64 a0_6]] w fun e w' => e = .returned (.int .i64 r) ∧ Below w.heap.size w w' := by
  have hu35 := Try.underlying35
  have hix0 : ∀ w, (Instr.index 57 (.agg #[.int .i64 a0_3, .int .i64 a0_4, .int .i64 a0_5, .int .i64 a0_6]) (.int .i64 0)).run Try.prog w = .ok (.int .i64 a0_3) w := fun w => ix4 a0_3 a0_4 a0_5 a0_6 w 0 (by decide)
  have hix1 : ∀ w, (Instr.index 57 (.agg #[.int .i64 a0_3, .int .i64 a0_4, .int .i64 a0_5, .int .i64 a0_6]) (.int .i64 1)).run Try.prog w = .ok (.int .i64 a0_4) w := fun w => ix4 a0_3 a0_4 a0_5 a0_6 w 1 (by decide)
  have hix2 : ∀ w, (Instr.index 57 (.agg #[.int .i64 a0_3, .int .i64 a0_4, .int .i64 a0_5, .int .i64 a0_6]) (.int .i64 2)).run Try.prog w = .ok (.int .i64 a0_5) w := fun w => ix4 a0_3 a0_4 a0_5 a0_6 w 2 (by decide)
  have hix3 : ∀ w, (Instr.index 57 (.agg #[.int .i64 a0_3, .int .i64 a0_4, .int .i64 a0_5, .int .i64 a0_6]) (.int .i64 3)).run Try.prog w = .ok (.int .i64 a0_6) w := fun w => ix4 a0_3 a0_4 a0_5 a0_6 w 3 (by decide)
  have HR := Aside0.mk (Option.some.inj h).symm
  clear h
  have HB := Aside0.mk (Below.refl w.heap.size w)
  go_enter Try.func11, Try.ntmps11
  go_wp2_with (first | ((with_reducible refine gate_dst (N := 1) rfl ?_); refine box_event ?hg (N := 1) ?hd (cs := #[.int .i64 a0_0, .int .i64 a0_1, .int .i64 a0_2, .int .i64 a0_3, .int .i64 a0_4, .int .i64 a0_5, .int .i64 a0_6]) (t := 35) ?hr ?_; (case hd => rfl); (case hg => rfl); (case hr => first | (go_simp; done) | (go_simp; rfl)); intro gb hg w1 hbox hb; have n1_ := Aside0.mk (below_step (by repeat (first | (with_reducible first | exact HB.out | apply below_alloc | apply pw_below_drewN | apply below_drew1) | exact HB.out)) hb); have BK := Aside0.mk hbox; clear HB hg hb hbox; have HB := n1_; clear n1_; have hc0 : w1.cell? ⟨gb, 0, none⟩ = some (.int .i64 a0_0) := (blk_cell BK.out 0).trans rfl; have hc1 : w1.cell? ⟨gb, 1, none⟩ = some (.int .i64 a0_1) := (blk_cell BK.out 1).trans rfl; have hc2 : w1.cell? ⟨gb, 2, none⟩ = some (.int .i64 a0_2) := (blk_cell BK.out 2).trans rfl; have hc3 : w1.cell? ⟨gb, 3, none⟩ = some (.int .i64 a0_3) := (blk_cell BK.out 3).trans rfl; have hc4 : w1.cell? ⟨gb, 4, none⟩ = some (.int .i64 a0_4) := (blk_cell BK.out 4).trans rfl; have hc5 : w1.cell? ⟨gb, 5, none⟩ = some (.int .i64 a0_5) := (blk_cell BK.out 5).trans rfl; have hc6 : w1.cell? ⟨gb, 6, none⟩ = some (.int .i64 a0_6) := (blk_cell BK.out 6).trans rfl))
  clear hc0 hc1 hc2 hc3 hc4 hc5 hc6
  go_loopg [14] 4 (fun g s14 wr => ∃ i : Nat, i ≤ 4 ∧ 4 - i ≤ g ∧ s14 = .int .i64 i ∧ Aside0 (Below w.heap.size w wr) ∧ Aside0 (wr.heap[gb]? = some (.cells #[.int .i64 a0_0, .int .i64 a0_1, .int .i64 a0_2, .int .i64 a0_3, .int .i64 a0_4, .int .i64 a0_5, .int .i64 a0_6] 35 (0, 0))) ∧ Aside0 ((0 < i → 0 ≤ a0_3 ∧ a0_3 ≤ 100) ∧ (1 < i → 0 ≤ a0_4 ∧ a0_4 ≤ 100) ∧ (2 < i → 0 ≤ a0_5 ∧ a0_5 ≤ 100) ∧ (3 < i → 0 ≤ a0_6 ∧ a0_6 ≤ 100)))
  case atStart => exact ⟨0, by omega, by omega, rfl, HB, BK, ⟨by omega, by omega, by omega, by omega⟩⟩
  case round =>
    clear HB BK
    obtain ⟨i, hi, hg, rfl, HB, BK, HF⟩ := hrel
    by_cases h4 : i = 4
    · subst h4
      obtain ⟨f3, f4, f5, f6⟩ := HF.out
      have F := Aside0.mk (show (0 ≤ a0_3 ∧ a0_3 ≤ 100) ∧ (0 ≤ a0_4 ∧ a0_4 ≤ 100) ∧ (0 ≤ a0_5 ∧ a0_5 ≤ 100) ∧ (0 ≤ a0_6 ∧ a0_6 ≤ 100) from ⟨f3 (by omega), f4 (by omega), f5 (by omega), f6 (by omega)⟩)
      clear f3 f4 f5 f6 HF hi hg
      have hc0 : wr.cell? ⟨gb, 0, none⟩ = some (.int .i64 a0_0) := (blk_cell BK.out 0).trans rfl
      have hc1 : wr.cell? ⟨gb, 1, none⟩ = some (.int .i64 a0_1) := (blk_cell BK.out 1).trans rfl
      have hc2 : wr.cell? ⟨gb, 2, none⟩ = some (.int .i64 a0_2) := (blk_cell BK.out 2).trans rfl
      have hc3 : wr.cell? ⟨gb, 3, none⟩ = some (.int .i64 a0_3) := (blk_cell BK.out 3).trans rfl
      have hc4 : wr.cell? ⟨gb, 4, none⟩ = some (.int .i64 a0_4) := (blk_cell BK.out 4).trans rfl
      have hc5 : wr.cell? ⟨gb, 5, none⟩ = some (.int .i64 a0_5) := (blk_cell BK.out 5).trans rfl
      have hc6 : wr.cell? ⟨gb, 6, none⟩ = some (.int .i64 a0_6) := (blk_cell BK.out 6).trans rfl
      by_cases c0 : 0 ≤ a0_0 ∧ a0_0 ≤ 4096
      · have t0 := Aside0.mk (within_t c0)
        by_cases c1 : 1 ≤ a0_1 ∧ a0_1 ≤ 65536
        · have t1 := Aside0.mk (within_t c1)
          by_cases c2 : 1 ≤ a0_2 ∧ a0_2 ≤ 8192
          · have t2 := Aside0.mk (within_t c2)
            have e1 : wrap64 (a0_3 + a0_4) = a0_3 + a0_4 := by have := F.out; unfold wrap64; omega
            have e2 : wrap64 (a0_3 + a0_4 + a0_5) = a0_3 + a0_4 + a0_5 := by have := F.out; unfold wrap64; omega
            have E1 : IntKind.i64.wrap (a0_3 + a0_4) = a0_3 + a0_4 := (i64_w _).trans e1
            have E2 : IntKind.i64.wrap (a0_3 + a0_4 + a0_5) = a0_3 + a0_4 + a0_5 := (i64_w _).trans e2
            by_cases cs : a0_3 + a0_4 + a0_5 ≤ 100
            · have cs0 := Aside0.mk cs
              have qs : decide (100 < a0_3 + a0_4 + a0_5) = false := decide_eq_false (by omega)
              have q0 := Aside0.mk c0; have q1 := Aside0.mk c1; have q2 := Aside0.mk c2
              clear cs c0 c1 c2 e1 e2
              go_wp2_with (first | (go_at_call 21; (with_reducible refine (lot_within.calls a0_0 0 4096 true _ t0.out).mono ?_); rintro e w_ ⟨rfl, ⟨nd, rfl⟩⟩) | (go_at_call 21; (with_reducible refine (lot_within.calls a0_1 1 65536 true _ t1.out).mono ?_); rintro e w_ ⟨rfl, ⟨nd, rfl⟩⟩) | (go_at_call 21; (with_reducible refine (lot_within.calls a0_2 1 8192 true _ t2.out).mono ?_); rintro e w_ ⟨rfl, ⟨nd, rfl⟩⟩) | fail)
              go_ret
              have hr : loadOk a0_0 a0_1 a0_2 a0_3 a0_4 a0_5 a0_6 := ⟨F.out.1, F.out.2.1, F.out.2.2.1, F.out.2.2.2, q0.out, q1.out, q2.out, cs0.out⟩
              have er : r = 0 := by rw [HR.out, if_pos hr]
              subst er
              exact ⟨by first | rfl | (simp; done), (by repeat (first | (with_reducible first | exact HB.out | apply below_alloc | apply pw_below_drewN | apply below_drew1) | exact HB.out))⟩
            · have cs0 := Aside0.mk cs
              have qs : decide (100 < a0_3 + a0_4 + a0_5) = true := decide_eq_true (by omega)
              have q0 := Aside0.mk c0; have q1 := Aside0.mk c1; have q2 := Aside0.mk c2
              clear cs c0 c1 c2 e1 e2
              go_wp2_with (first | (go_at_call 21; (with_reducible refine (lot_within.calls a0_0 0 4096 true _ t0.out).mono ?_); rintro e w_ ⟨rfl, ⟨nd, rfl⟩⟩) | (go_at_call 21; (with_reducible refine (lot_within.calls a0_1 1 65536 true _ t1.out).mono ?_); rintro e w_ ⟨rfl, ⟨nd, rfl⟩⟩) | (go_at_call 21; (with_reducible refine (lot_within.calls a0_2 1 8192 true _ t2.out).mono ?_); rintro e w_ ⟨rfl, ⟨nd, rfl⟩⟩) | fail)
              go_ret
              have hr : ¬ loadOk a0_0 a0_1 a0_2 a0_3 a0_4 a0_5 a0_6 := fun h => by have h1 := cs0.out; have h2 := h.2.2.2.2.2.2.2; omega
              have er : r = 2 := by rw [HR.out, if_neg hr]
              subst er
              exact ⟨by first | rfl | (simp; done), (by repeat (first | (with_reducible first | exact HB.out | apply below_alloc | apply pw_below_drewN | apply below_drew1) | exact HB.out))⟩
          · have t2 := Aside0.mk (within_n c2)
            have q2 := Aside0.mk c2
            clear c0 c1 c2
            go_wp2_with (first | (go_at_call 21; (with_reducible refine (lot_within.calls a0_0 0 4096 true _ t0.out).mono ?_); rintro e w_ ⟨rfl, ⟨nd, rfl⟩⟩) | (go_at_call 21; (with_reducible refine (lot_within.calls a0_1 1 65536 true _ t1.out).mono ?_); rintro e w_ ⟨rfl, ⟨nd, rfl⟩⟩) | (go_at_call 21; (with_reducible refine (lot_within.calls a0_2 1 8192 false _ t2.out).mono ?_); rintro e w_ ⟨rfl, ⟨nd, rfl⟩⟩))
            go_ret
            have hr : ¬ loadOk a0_0 a0_1 a0_2 a0_3 a0_4 a0_5 a0_6 := fun h => by have h1 := q2.out; have h2 := h.2.2.2.2.2.2.1; omega
            have er : r = 2 := by rw [HR.out, if_neg hr]
            subst er
            exact ⟨by first | rfl | (simp; done), (by repeat (first | (with_reducible first | exact HB.out | apply below_alloc | apply pw_below_drewN | apply below_drew1) | exact HB.out))⟩
        · have t1 := Aside0.mk (within_n c1)
          have q1 := Aside0.mk c1
          clear c0 c1
          go_wp2_with (first | (go_at_call 21; (with_reducible refine (lot_within.calls a0_0 0 4096 true _ t0.out).mono ?_); rintro e w_ ⟨rfl, ⟨nd, rfl⟩⟩) | (go_at_call 21; (with_reducible refine (lot_within.calls a0_1 1 65536 false _ t1.out).mono ?_); rintro e w_ ⟨rfl, ⟨nd, rfl⟩⟩))
          go_ret
          have hr : ¬ loadOk a0_0 a0_1 a0_2 a0_3 a0_4 a0_5 a0_6 := fun h => by have h1 := q1.out; have h2 := h.2.2.2.2.2.1; omega
          have er : r = 2 := by rw [HR.out, if_neg hr]
          subst er
          exact ⟨by first | rfl | (simp; done), (by repeat (first | (with_reducible first | exact HB.out | apply below_alloc | apply pw_below_drewN | apply below_drew1) | exact HB.out))⟩
      · have t0 := Aside0.mk (within_n c0)
        have q0 := Aside0.mk c0
        clear c0
        go_wp2_with (first | (go_at_call 21; (with_reducible refine (lot_within.calls a0_0 0 4096 false _ t0.out).mono ?_); rintro e w_ ⟨rfl, ⟨nd, rfl⟩⟩))
        go_ret
        have hr : ¬ loadOk a0_0 a0_1 a0_2 a0_3 a0_4 a0_5 a0_6 := fun h => by have h1 := q0.out; have h2 := h.2.2.2.2.1; omega
        have er : r = 2 := by rw [HR.out, if_neg hr]
        subst er
        exact ⟨by first | rfl | (simp; done), (by repeat (first | (with_reducible first | exact HB.out | apply below_alloc | apply pw_below_drewN | apply below_drew1) | exact HB.out))⟩
    · obtain h0 | h0 | h0 | h0 : i = 0 ∨ i = 1 ∨ i = 2 ∨ i = 3 := by omega
      · subst h0
        obtain ⟨f3, f4, f5, f6⟩ := HF.out
        by_cases c : 0 ≤ a0_3 ∧ a0_3 ≤ 100
        · have tt := Aside0.mk (within_t c)
          have HF2 := Aside0.mk (show (0 < 1 → 0 ≤ a0_3 ∧ a0_3 ≤ 100) ∧ (1 < 1 → 0 ≤ a0_4 ∧ a0_4 ≤ 100) ∧ (2 < 1 → 0 ≤ a0_5 ∧ a0_5 ≤ 100) ∧ (3 < 1 → 0 ≤ a0_6 ∧ a0_6 ≤ 100) from ⟨fun _ => c, (by omega), (by omega), (by omega)⟩)
          clear c f3 f4 f5 f6 HF hi h4
          go_wp2_with (first | (go_at_call 21; (with_reducible refine (lot_within.calls a0_3 0 100 true _ tt.out).mono ?_); rintro e w_ ⟨rfl, ⟨nd, rfl⟩⟩))
          go_roundg (4 - 1)
          case measure => omega
          case rel => exact ⟨1, by omega, Nat.le_refl _, rfl, ⟨(by repeat (first | (with_reducible first | exact HB.out | apply below_alloc | apply pw_below_drewN | apply below_drew1) | exact HB.out))⟩, ⟨by (with_reducible repeat (first | refine blk_drewN ?_ _ | refine blk_drew ?_ | refine blk_alloc ?_ _)); exact BK.out⟩, HF2⟩
        · have tt := Aside0.mk (within_n c)
          have q := Aside0.mk c
          clear c f3 f4 f5 f6 HF hi h4
          go_wp2_with (first | (go_at_call 21; (with_reducible refine (lot_within.calls a0_3 0 100 false _ tt.out).mono ?_); rintro e w_ ⟨rfl, ⟨nd, rfl⟩⟩))
          go_ret
          have hr : ¬ loadOk a0_0 a0_1 a0_2 a0_3 a0_4 a0_5 a0_6 := fun h => by have h1 := q.out; have h2 := h.1; omega
          have er : r = 2 := by rw [HR.out, if_neg hr]
          subst er
          exact ⟨by first | rfl | (simp; done), (by repeat (first | (with_reducible first | exact HB.out | apply below_alloc | apply pw_below_drewN | apply below_drew1) | exact HB.out))⟩
      · subst h0
        obtain ⟨f3, f4, f5, f6⟩ := HF.out
        by_cases c : 0 ≤ a0_4 ∧ a0_4 ≤ 100
        · have tt := Aside0.mk (within_t c)
          have HF2 := Aside0.mk (show (0 < 2 → 0 ≤ a0_3 ∧ a0_3 ≤ 100) ∧ (1 < 2 → 0 ≤ a0_4 ∧ a0_4 ≤ 100) ∧ (2 < 2 → 0 ≤ a0_5 ∧ a0_5 ≤ 100) ∧ (3 < 2 → 0 ≤ a0_6 ∧ a0_6 ≤ 100) from ⟨(by omega), fun _ => c, (by omega), (by omega)⟩)
          clear c f3 f4 f5 f6 HF hi h4
          go_wp2_with (first | (go_at_call 21; (with_reducible refine (lot_within.calls a0_4 0 100 true _ tt.out).mono ?_); rintro e w_ ⟨rfl, ⟨nd, rfl⟩⟩))
          go_roundg (4 - 2)
          case measure => omega
          case rel => exact ⟨2, by omega, Nat.le_refl _, rfl, ⟨(by repeat (first | (with_reducible first | exact HB.out | apply below_alloc | apply pw_below_drewN | apply below_drew1) | exact HB.out))⟩, ⟨by (with_reducible repeat (first | refine blk_drewN ?_ _ | refine blk_drew ?_ | refine blk_alloc ?_ _)); exact BK.out⟩, HF2⟩
        · have tt := Aside0.mk (within_n c)
          have q := Aside0.mk c
          clear c f3 f4 f5 f6 HF hi h4
          go_wp2_with (first | (go_at_call 21; (with_reducible refine (lot_within.calls a0_4 0 100 false _ tt.out).mono ?_); rintro e w_ ⟨rfl, ⟨nd, rfl⟩⟩))
          go_ret
          have hr : ¬ loadOk a0_0 a0_1 a0_2 a0_3 a0_4 a0_5 a0_6 := fun h => by have h1 := q.out; have h2 := h.2.1; omega
          have er : r = 2 := by rw [HR.out, if_neg hr]
          subst er
          exact ⟨by first | rfl | (simp; done), (by repeat (first | (with_reducible first | exact HB.out | apply below_alloc | apply pw_below_drewN | apply below_drew1) | exact HB.out))⟩
      · subst h0
        obtain ⟨f3, f4, f5, f6⟩ := HF.out
        by_cases c : 0 ≤ a0_5 ∧ a0_5 ≤ 100
        · have tt := Aside0.mk (within_t c)
          have HF2 := Aside0.mk (show (0 < 3 → 0 ≤ a0_3 ∧ a0_3 ≤ 100) ∧ (1 < 3 → 0 ≤ a0_4 ∧ a0_4 ≤ 100) ∧ (2 < 3 → 0 ≤ a0_5 ∧ a0_5 ≤ 100) ∧ (3 < 3 → 0 ≤ a0_6 ∧ a0_6 ≤ 100) from ⟨(by omega), (by omega), fun _ => c, (by omega)⟩)
          clear c f3 f4 f5 f6 HF hi h4
          go_wp2_with (first | (go_at_call 21; (with_reducible refine (lot_within.calls a0_5 0 100 true _ tt.out).mono ?_); rintro e w_ ⟨rfl, ⟨nd, rfl⟩⟩))
          go_roundg (4 - 3)
          case measure => omega
          case rel => exact ⟨3, by omega, Nat.le_refl _, rfl, ⟨(by repeat (first | (with_reducible first | exact HB.out | apply below_alloc | apply pw_below_drewN | apply below_drew1) | exact HB.out))⟩, ⟨by (with_reducible repeat (first | refine blk_drewN ?_ _ | refine blk_drew ?_ | refine blk_alloc ?_ _)); exact BK.out⟩, HF2⟩
        · have tt := Aside0.mk (within_n c)
          have q := Aside0.mk c
          clear c f3 f4 f5 f6 HF hi h4
          go_wp2_with (first | (go_at_call 21; (with_reducible refine (lot_within.calls a0_5 0 100 false _ tt.out).mono ?_); rintro e w_ ⟨rfl, ⟨nd, rfl⟩⟩))
          go_ret
          have hr : ¬ loadOk a0_0 a0_1 a0_2 a0_3 a0_4 a0_5 a0_6 := fun h => by have h1 := q.out; have h2 := h.2.2.1; omega
          have er : r = 2 := by rw [HR.out, if_neg hr]
          subst er
          exact ⟨by first | rfl | (simp; done), (by repeat (first | (with_reducible first | exact HB.out | apply below_alloc | apply pw_below_drewN | apply below_drew1) | exact HB.out))⟩
      · subst h0
        obtain ⟨f3, f4, f5, f6⟩ := HF.out
        by_cases c : 0 ≤ a0_6 ∧ a0_6 ≤ 100
        · have tt := Aside0.mk (within_t c)
          have HF2 := Aside0.mk (show (0 < 4 → 0 ≤ a0_3 ∧ a0_3 ≤ 100) ∧ (1 < 4 → 0 ≤ a0_4 ∧ a0_4 ≤ 100) ∧ (2 < 4 → 0 ≤ a0_5 ∧ a0_5 ≤ 100) ∧ (3 < 4 → 0 ≤ a0_6 ∧ a0_6 ≤ 100) from ⟨(by omega), (by omega), (by omega), fun _ => c⟩)
          clear c f3 f4 f5 f6 HF hi h4
          go_wp2_with (first | (go_at_call 21; (with_reducible refine (lot_within.calls a0_6 0 100 true _ tt.out).mono ?_); rintro e w_ ⟨rfl, ⟨nd, rfl⟩⟩))
          go_roundg (4 - 4)
          case measure => omega
          case rel => exact ⟨4, by omega, Nat.le_refl _, rfl, ⟨(by repeat (first | (with_reducible first | exact HB.out | apply below_alloc | apply pw_below_drewN | apply below_drew1) | exact HB.out))⟩, ⟨by (with_reducible repeat (first | refine blk_drewN ?_ _ | refine blk_drew ?_ | refine blk_alloc ?_ _)); exact BK.out⟩, HF2⟩
        · have tt := Aside0.mk (within_n c)
          have q := Aside0.mk c
          clear c f3 f4 f5 f6 HF hi h4
          go_wp2_with (first | (go_at_call 21; (with_reducible refine (lot_within.calls a0_6 0 100 false _ tt.out).mono ?_); rintro e w_ ⟨rfl, ⟨nd, rfl⟩⟩))
          go_ret
          have hr : ¬ loadOk a0_0 a0_1 a0_2 a0_3 a0_4 a0_5 a0_6 := fun h => by have h1 := q.out; have h2 := h.2.2.2.1; omega
          have er : r = 2 := by rw [HR.out, if_neg hr]
          subst er
          exact ⟨by first | rfl | (simp; done), (by repeat (first | (with_reducible first | exact HB.out | apply below_alloc | apply pw_below_drewN | apply below_drew1) | exact HB.out))⟩

/-! ### lot_kind: function 25 -/
def lot_kind.f (a0_0 : Int) (a0_1 : Int) (a0_2 : Int) (a0_3 : Int) (a0_4 : Int) (a0_5 : Int) (a0_6 : Int) (a1 : Int) : Option (Int) := if a1 < a0_3 then (some 2) else (if a1 < (wrap64 (a0_3 + a0_4)) then (some 3) else (if a1 < (wrap64 ((wrap64 (a0_3 + a0_4)) + a0_5)) then (some 4) else (some 1)))
set_option maxHeartbeats 8000000 in
set_option maxRecDepth 100000 in
theorem lot_kind.calls (a0_0 : Int) (a0_1 : Int) (a0_2 : Int) (a0_3 : Int) (a0_4 : Int) (a0_5 : Int) (a0_6 : Int) (a1 : Int) (r : Int) (w : World) (h : lot_kind.f a0_0 a0_1 a0_2 a0_3 a0_4 a0_5 a0_6 a1 = some r) :
    Calls Try.prog 25 #[.agg #[.int .i64 a0_0, .int .i64 a0_1, .int .i64 a0_2, .int .i64 a0_3, .int .i64 a0_4, .int .i64 a0_5, .int .i64 a0_6], .int .i64 a1] w fun e w' => e = .returned (.int .i64 r) ∧ Below w.heap.size w w' := by
  have hu35 := Try.underlying35
  have HB := Aside0.mk (Below.refl w.heap.size w)
  have H : (if a1 < a0_3 then (some 2) else (if a1 < (wrap64 (a0_3 + a0_4)) then (some 3) else (if a1 < (wrap64 ((wrap64 (a0_3 + a0_4)) + a0_5)) then (some 4) else (some 1)))) = some r := h
  clear h
  by_cases c3 : a1 < a0_3
  · rw [if_pos c3] at H
    have c3b0 : decide (a1 < a0_3) = true := decide_eq_true c3
    clear c3
    obtain rfl := Option.some.inj H
    go_enter Try.func25, Try.ntmps25
    go_wp2_with (first | ((with_reducible refine gate_dst (N := 2) rfl ?_); refine box_event ?hg (N := 2) ?hd (cs := #[.int .i64 a0_0, .int .i64 a0_1, .int .i64 a0_2, .int .i64 a0_3, .int .i64 a0_4, .int .i64 a0_5, .int .i64 a0_6]) (t := 35) ?hr ?_; (case hd => rfl); (case hg => rfl); (case hr => first | (go_simp; done) | (go_simp; rfl)); intro gb115 hg w4 hbox hb; have n0_ := Aside0.mk (below_step (by repeat (first | (with_reducible first | exact HB.out | apply below_alloc | apply pw_below_drewN | apply below_drew1) | exact HB.out)) hb); have n1_ := Aside0.mk (hbox); have n2_ := Aside0.mk ((by rw [hg]; exact (below_size (by repeat (first | (with_reducible first | exact HB.out | apply below_alloc | apply pw_below_drewN | apply below_drew1) | exact HB.out))) : w.heap.size ≤ gb115)); have n3_ := Aside0.mk ((by rw [hg]; exact (below_size (by repeat (first | (with_reducible first | exact HB.out | apply below_alloc | apply pw_below_drewN | apply below_drew1) | exact HB.out))) : w.heap.size ≤ gb115)); clear HB; have HB := n0_; have BK115 := n1_; have GW115 := n2_; have GE115 := n3_; clear n0_ n1_ n2_ n3_; clear hb hbox hg; have hcz5_0 : w4.cell? ⟨gb115, 0, none⟩ = some (.int .i64 a0_0) := (blk_cell BK115.out 0).trans rfl; have hcz5_1 : w4.cell? ⟨gb115, 1, none⟩ = some (.int .i64 a0_1) := (blk_cell BK115.out 1).trans rfl; have hcz5_2 : w4.cell? ⟨gb115, 2, none⟩ = some (.int .i64 a0_2) := (blk_cell BK115.out 2).trans rfl; have hcz5_3 : w4.cell? ⟨gb115, 3, none⟩ = some (.int .i64 a0_3) := (blk_cell BK115.out 3).trans rfl; have hcz5_4 : w4.cell? ⟨gb115, 4, none⟩ = some (.int .i64 a0_4) := (blk_cell BK115.out 4).trans rfl; have hcz5_5 : w4.cell? ⟨gb115, 5, none⟩ = some (.int .i64 a0_5) := (blk_cell BK115.out 5).trans rfl; have hcz5_6 : w4.cell? ⟨gb115, 6, none⟩ = some (.int .i64 a0_6) := (blk_cell BK115.out 6).trans rfl; have hfz5_0 := blk_frozen BK115.out 0; have hfz5_1 := blk_frozen BK115.out 1; have hfz5_2 := blk_frozen BK115.out 2; have hfz5_3 := blk_frozen BK115.out 3; have hfz5_4 := blk_frozen BK115.out 4; have hfz5_5 := blk_frozen BK115.out 5; have hfz5_6 := blk_frozen BK115.out 6))
    go_ret
    exact ⟨by first | rfl | (simp [errW_none, errW_some] <;> rfl) | (simp [*, errW_none, errW_some] <;> rfl), by repeat (first | (with_reducible first | exact HB.out | apply below_alloc | apply pw_below_drewN | apply below_drew1 | refine below_set ?_ GE115.out) | exact HB.out)⟩
  · rw [if_neg c3] at H
    have c3b0 : decide (a1 < a0_3) = false := decide_eq_false c3
    clear c3
    by_cases c6 : a1 < (wrap64 (a0_3 + a0_4))
    · rw [if_pos c6] at H
      have c6b0 : decide (a1 < (wrap64 (a0_3 + a0_4))) = true := decide_eq_true c6
      clear c6
      obtain rfl := Option.some.inj H
      go_enter Try.func25, Try.ntmps25
      go_wp2_with (first | ((with_reducible refine gate_dst (N := 2) rfl ?_); refine box_event ?hg (N := 2) ?hd (cs := #[.int .i64 a0_0, .int .i64 a0_1, .int .i64 a0_2, .int .i64 a0_3, .int .i64 a0_4, .int .i64 a0_5, .int .i64 a0_6]) (t := 35) ?hr ?_; (case hd => rfl); (case hg => rfl); (case hr => first | (go_simp; done) | (go_simp; rfl)); intro gb115 hg w7 hbox hb; have n0_ := Aside0.mk (below_step (by repeat (first | (with_reducible first | exact HB.out | apply below_alloc | apply pw_below_drewN | apply below_drew1) | exact HB.out)) hb); have n1_ := Aside0.mk (hbox); have n2_ := Aside0.mk ((by rw [hg]; exact (below_size (by repeat (first | (with_reducible first | exact HB.out | apply below_alloc | apply pw_below_drewN | apply below_drew1) | exact HB.out))) : w.heap.size ≤ gb115)); have n3_ := Aside0.mk ((by rw [hg]; exact (below_size (by repeat (first | (with_reducible first | exact HB.out | apply below_alloc | apply pw_below_drewN | apply below_drew1) | exact HB.out))) : w.heap.size ≤ gb115)); clear HB; have HB := n0_; have BK115 := n1_; have GW115 := n2_; have GE115 := n3_; clear n0_ n1_ n2_ n3_; clear hb hbox hg; have hcz8_0 : w7.cell? ⟨gb115, 0, none⟩ = some (.int .i64 a0_0) := (blk_cell BK115.out 0).trans rfl; have hcz8_1 : w7.cell? ⟨gb115, 1, none⟩ = some (.int .i64 a0_1) := (blk_cell BK115.out 1).trans rfl; have hcz8_2 : w7.cell? ⟨gb115, 2, none⟩ = some (.int .i64 a0_2) := (blk_cell BK115.out 2).trans rfl; have hcz8_3 : w7.cell? ⟨gb115, 3, none⟩ = some (.int .i64 a0_3) := (blk_cell BK115.out 3).trans rfl; have hcz8_4 : w7.cell? ⟨gb115, 4, none⟩ = some (.int .i64 a0_4) := (blk_cell BK115.out 4).trans rfl; have hcz8_5 : w7.cell? ⟨gb115, 5, none⟩ = some (.int .i64 a0_5) := (blk_cell BK115.out 5).trans rfl; have hcz8_6 : w7.cell? ⟨gb115, 6, none⟩ = some (.int .i64 a0_6) := (blk_cell BK115.out 6).trans rfl; have hfz8_0 := blk_frozen BK115.out 0; have hfz8_1 := blk_frozen BK115.out 1; have hfz8_2 := blk_frozen BK115.out 2; have hfz8_3 := blk_frozen BK115.out 3; have hfz8_4 := blk_frozen BK115.out 4; have hfz8_5 := blk_frozen BK115.out 5; have hfz8_6 := blk_frozen BK115.out 6))
      go_ret
      exact ⟨by first | rfl | (simp [errW_none, errW_some] <;> rfl) | (simp [*, errW_none, errW_some] <;> rfl), by repeat (first | (with_reducible first | exact HB.out | apply below_alloc | apply pw_below_drewN | apply below_drew1 | refine below_set ?_ GE115.out) | exact HB.out)⟩
    · rw [if_neg c6] at H
      have c6b0 : decide (a1 < (wrap64 (a0_3 + a0_4))) = false := decide_eq_false c6
      clear c6
      by_cases c9 : a1 < (wrap64 ((wrap64 (a0_3 + a0_4)) + a0_5))
      · rw [if_pos c9] at H
        have c9b0 : decide (a1 < (wrap64 ((wrap64 (a0_3 + a0_4)) + a0_5))) = true := decide_eq_true c9
        clear c9
        obtain rfl := Option.some.inj H
        go_enter Try.func25, Try.ntmps25
        go_wp2_with (first | ((with_reducible refine gate_dst (N := 2) rfl ?_); refine box_event ?hg (N := 2) ?hd (cs := #[.int .i64 a0_0, .int .i64 a0_1, .int .i64 a0_2, .int .i64 a0_3, .int .i64 a0_4, .int .i64 a0_5, .int .i64 a0_6]) (t := 35) ?hr ?_; (case hd => rfl); (case hg => rfl); (case hr => first | (go_simp; done) | (go_simp; rfl)); intro gb115 hg w10 hbox hb; have n0_ := Aside0.mk (below_step (by repeat (first | (with_reducible first | exact HB.out | apply below_alloc | apply pw_below_drewN | apply below_drew1) | exact HB.out)) hb); have n1_ := Aside0.mk (hbox); have n2_ := Aside0.mk ((by rw [hg]; exact (below_size (by repeat (first | (with_reducible first | exact HB.out | apply below_alloc | apply pw_below_drewN | apply below_drew1) | exact HB.out))) : w.heap.size ≤ gb115)); have n3_ := Aside0.mk ((by rw [hg]; exact (below_size (by repeat (first | (with_reducible first | exact HB.out | apply below_alloc | apply pw_below_drewN | apply below_drew1) | exact HB.out))) : w.heap.size ≤ gb115)); clear HB; have HB := n0_; have BK115 := n1_; have GW115 := n2_; have GE115 := n3_; clear n0_ n1_ n2_ n3_; clear hb hbox hg; have hcz11_0 : w10.cell? ⟨gb115, 0, none⟩ = some (.int .i64 a0_0) := (blk_cell BK115.out 0).trans rfl; have hcz11_1 : w10.cell? ⟨gb115, 1, none⟩ = some (.int .i64 a0_1) := (blk_cell BK115.out 1).trans rfl; have hcz11_2 : w10.cell? ⟨gb115, 2, none⟩ = some (.int .i64 a0_2) := (blk_cell BK115.out 2).trans rfl; have hcz11_3 : w10.cell? ⟨gb115, 3, none⟩ = some (.int .i64 a0_3) := (blk_cell BK115.out 3).trans rfl; have hcz11_4 : w10.cell? ⟨gb115, 4, none⟩ = some (.int .i64 a0_4) := (blk_cell BK115.out 4).trans rfl; have hcz11_5 : w10.cell? ⟨gb115, 5, none⟩ = some (.int .i64 a0_5) := (blk_cell BK115.out 5).trans rfl; have hcz11_6 : w10.cell? ⟨gb115, 6, none⟩ = some (.int .i64 a0_6) := (blk_cell BK115.out 6).trans rfl; have hfz11_0 := blk_frozen BK115.out 0; have hfz11_1 := blk_frozen BK115.out 1; have hfz11_2 := blk_frozen BK115.out 2; have hfz11_3 := blk_frozen BK115.out 3; have hfz11_4 := blk_frozen BK115.out 4; have hfz11_5 := blk_frozen BK115.out 5; have hfz11_6 := blk_frozen BK115.out 6))
        go_ret
        exact ⟨by first | rfl | (simp [errW_none, errW_some] <;> rfl) | (simp [*, errW_none, errW_some] <;> rfl), by repeat (first | (with_reducible first | exact HB.out | apply below_alloc | apply pw_below_drewN | apply below_drew1 | refine below_set ?_ GE115.out) | exact HB.out)⟩
      · rw [if_neg c9] at H
        have c9b0 : decide (a1 < (wrap64 ((wrap64 (a0_3 + a0_4)) + a0_5))) = false := decide_eq_false c9
        clear c9
        obtain rfl := Option.some.inj H
        go_enter Try.func25, Try.ntmps25
        go_wp2_with (first | ((with_reducible refine gate_dst (N := 2) rfl ?_); refine box_event ?hg (N := 2) ?hd (cs := #[.int .i64 a0_0, .int .i64 a0_1, .int .i64 a0_2, .int .i64 a0_3, .int .i64 a0_4, .int .i64 a0_5, .int .i64 a0_6]) (t := 35) ?hr ?_; (case hd => rfl); (case hg => rfl); (case hr => first | (go_simp; done) | (go_simp; rfl)); intro gb115 hg w12 hbox hb; have n0_ := Aside0.mk (below_step (by repeat (first | (with_reducible first | exact HB.out | apply below_alloc | apply pw_below_drewN | apply below_drew1) | exact HB.out)) hb); have n1_ := Aside0.mk (hbox); have n2_ := Aside0.mk ((by rw [hg]; exact (below_size (by repeat (first | (with_reducible first | exact HB.out | apply below_alloc | apply pw_below_drewN | apply below_drew1) | exact HB.out))) : w.heap.size ≤ gb115)); have n3_ := Aside0.mk ((by rw [hg]; exact (below_size (by repeat (first | (with_reducible first | exact HB.out | apply below_alloc | apply pw_below_drewN | apply below_drew1) | exact HB.out))) : w.heap.size ≤ gb115)); clear HB; have HB := n0_; have BK115 := n1_; have GW115 := n2_; have GE115 := n3_; clear n0_ n1_ n2_ n3_; clear hb hbox hg; have hcz13_0 : w12.cell? ⟨gb115, 0, none⟩ = some (.int .i64 a0_0) := (blk_cell BK115.out 0).trans rfl; have hcz13_1 : w12.cell? ⟨gb115, 1, none⟩ = some (.int .i64 a0_1) := (blk_cell BK115.out 1).trans rfl; have hcz13_2 : w12.cell? ⟨gb115, 2, none⟩ = some (.int .i64 a0_2) := (blk_cell BK115.out 2).trans rfl; have hcz13_3 : w12.cell? ⟨gb115, 3, none⟩ = some (.int .i64 a0_3) := (blk_cell BK115.out 3).trans rfl; have hcz13_4 : w12.cell? ⟨gb115, 4, none⟩ = some (.int .i64 a0_4) := (blk_cell BK115.out 4).trans rfl; have hcz13_5 : w12.cell? ⟨gb115, 5, none⟩ = some (.int .i64 a0_5) := (blk_cell BK115.out 5).trans rfl; have hcz13_6 : w12.cell? ⟨gb115, 6, none⟩ = some (.int .i64 a0_6) := (blk_cell BK115.out 6).trans rfl; have hfz13_0 := blk_frozen BK115.out 0; have hfz13_1 := blk_frozen BK115.out 1; have hfz13_2 := blk_frozen BK115.out 2; have hfz13_3 := blk_frozen BK115.out 3; have hfz13_4 := blk_frozen BK115.out 4; have hfz13_5 := blk_frozen BK115.out 5; have hfz13_6 := blk_frozen BK115.out 6))
        go_ret
        exact ⟨by first | rfl | (simp [errW_none, errW_some] <;> rfl) | (simp [*, errW_none, errW_some] <;> rfl), by repeat (first | (with_reducible first | exact HB.out | apply below_alloc | apply pw_below_drewN | apply below_drew1 | refine below_set ?_ GE115.out) | exact HB.out)⟩

end Go.Proofs.Ytgdkikclniamlaa.M
