-- Written by a program of this session (wip/patch_print.py over the kit's print); Lean checks it.
import Derived.Test.YtdgdpeibagcnpaaMx0
namespace Go.Proofs.Ytdgdpeibagcnpaa.M
open Go.RowKit Go.Proofs.YtdgdpeibagcnpaaW.PrintWords Go.Proofs.YtdgdpeibagcnpaaW.PrintLast Go.Proofs.YtdgdpeibagcnpaaW.PrintMore
attribute [local go_sem] max2_int min2_int max_two min_two max_three min_three max_four min_four   -- for this text's walks alone
set_option linter.unusedVariables false
set_option linter.unusedSimpArgs false

/-! ### same: function 23 -/
def same.l0 : Nat → List Int → Int → Option (Int)
  | 0, _, _ => none
  | k + 1, x0, x3 => if x3 < (x0.length : Int) then (if x3 < 130 then (if 0 ≤ x3 then (if 0 < (x0.length : Int) then (if (rd x0 x3) = (rd x0 0) then (same.l0 k x0 (wrap64 (x3 + 1))) else (some x3)) else (none)) else (none)) else (some x3)) else (some x3)
def same.f (k : Nat) (l0 : List Int) : Option (Int) := same.l0 k l0 0
theorem same.mono_l : ∀ k, (∀ y0 y1, LeO (same.l0 k y0 y1) (same.l0 (k + 1) y0 y1))
  | 0 => fun _ _ r h => by simp [same.l0] at h
  | k + 1 => by
    have ih0 := same.mono_l k
    · intro y0 y1
      unfold same.l0
      repeat' first
      | (with_reducible exact ih0 _ _)
      | (with_reducible exact LeO.refl _)
      | (with_reducible exact LeO.none _)
      | (with_reducible refine LeO.ite ?_ ?_)
      | (with_reducible refine LeO.bind ?_ (fun _ => ?_))
      | exact ih0 _ _
      | exact LeO.none _
      | refine LeO.ite ?_ ?_
      | refine LeO.bind ?_ (fun _ => ?_)
theorem same.mono : ∀ a0 k, LeO (same.f k a0) (same.f (k + 1) a0) := by
  intro a0 k
  have ih0 := same.mono_l k
  unfold same.f
  repeat' first
      | (with_reducible exact ih0 _ _)
      | (with_reducible exact LeO.refl _)
      | (with_reducible exact LeO.none _)
      | (with_reducible refine LeO.ite ?_ ?_)
      | (with_reducible refine LeO.bind ?_ (fun _ => ?_))
      | exact ih0 _ _
      | exact LeO.none _
      | refine LeO.ite ?_ ?_
      | refine LeO.bind ?_ (fun _ => ?_)
set_option maxHeartbeats 8000000 in
set_option maxRecDepth 100000 in
theorem same.calls (k : Nat) (A0 : Option Addr) (c0 : Nat) (l0 : List Int) (r : Int) (w : World) (hr0 : Kd.C (Kd.int .u8) w A0 l0.length l0) (hc0 : l0.length ≤ c0) (h : same.f k l0 = some r) :
    Calls Try.prog 23 #[.slice A0 l0.length c0] w fun e w' => e = .returned (.int .i64 r) ∧ Drawn0 w w' := by
  have HR0 := Aside0.mk hr0
  have HC0 := Aside0.mk hc0
  clear hr0 hc0
  have H : (same.l0 k l0 0) = some r := h
  clear h
  have H' := Aside0.mk H
  clear H
  go_enter Try.func23, Try.ntmps23
  go_wp2
  repeat (go_quiet (fail); try go_wp2)
  go_loopg [3] k (fun kq v3 w' => ∃ (x3_1 : Int), v3 = .int .i64 x3_1 ∧ Aside0 (same.l0 kq l0 x3_1 = some r) ∧ Aside0 (kq ≤ k) ∧ Drawn0 w w')
  case atStart => exact ⟨(0), (by first | rfl | (simp; done) | (simp [*]; done)), H', ⟨Nat.le_refl _⟩, by repeat (first | exact Drawn0.refl _ | apply Drawn0.step)⟩
  case round =>
    clear H'
    obtain ⟨x3_1, rfl, HA, HK1, ⟨m1, rfl⟩⟩ := hrel
    cases gk with
    | zero => exact absurd HA.out (by simp [same.l0])
    | succ k1 =>
      have H := HA.out
      clear HA
      simp only [same.l0] at H
      by_cases c2 : x3_1 < (l0.length : Int)
      · rw [if_pos c2] at H
        have c2b0 : decide (x3_1 < (l0.length : Int)) = true := decide_eq_true c2
        clear c2
        by_cases c3 : x3_1 < 130
        · rw [if_pos c3] at H
          have c3b0 : decide (x3_1 < 130) = true := decide_eq_true c3
          clear c3
          by_cases c4 : 0 ≤ x3_1
          · rw [if_pos c4] at H
            have c4b0 : decide (0 ≤ x3_1) = true := decide_eq_true c4
            clear c4
            by_cases c5 : 0 < (l0.length : Int)
            · rw [if_pos c5] at H
              have c5b0 : decide (0 < (l0.length : Int)) = true := decide_eq_true c5
              have c5b1 : decide (0 < l0.length) = true := decide_eq_true (by omega)
              clear c5
              by_cases c6 : (rd l0 x3_1) = (rd l0 0)
              · rw [if_pos c6] at H
                have c6b0 : ((rd l0 x3_1) == (rd l0 0)) = true := beq_iff_eq.mpr c6
                have c6b1 : ((rd l0 x3_1) != (rd l0 0)) = false := bne_eq_false_iff_eq.mpr c6
                clear c6
                have H' := Aside0.mk H
                clear H
                have p101 : 0 ≤ (x3_1 : Int) := of_decide_eq_true (by first | (with_reducible assumption) | assumption)
                have q101 : x3_1 < (l0.length : Int) := of_decide_eq_true (by first | (with_reducible assumption) | assumption)
                obtain ⟨ad101, e101, hx101_0⟩ := Kd.at_int HR0.out x3_1 p101 q101
                cases e101
                replace p101 := eq_true p101
                replace q101 := eq_true q101
                have p102 : 0 ≤ (0 : Int) := (by omega)
                have q102 : 0 < (l0.length : Int) := of_decide_eq_true (by first | (with_reducible assumption) | assumption)
                obtain ⟨ad102, e102, hx102_0⟩ := Kd.at_int HR0.out 0 p102 q102
                obtain rfl : ad101 = ad102 := (by injection e102)
                have qi102 : (0 < l0.length) = True := eq_true (by omega)
                (try rw [show ((0 : Int)).toNat = 0 from rfl] at hx102_0)
                (try rw [Addr.add_zero'] at hx102_0)
                replace p102 := eq_true p102
                replace q102 := eq_true q102
                go_wp2
                repeat (go_quiet (fail); try go_wp2)
                go_roundg k1
                case measure => have := HK1.out; omega
                case rel => exact ⟨(wrap64 (x3_1 + 1)), (by first | rfl | (simp; done) | (simp [*]; done)), H', ⟨by have := HK1.out; omega⟩, by repeat (first | exact Drawn0.refl _ | apply Drawn0.step)⟩
              · rw [if_neg c6] at H
                have c6b0 : ((rd l0 x3_1) == (rd l0 0)) = false := beq_eq_false_iff_ne.mpr c6
                have c6b1 : ((rd l0 x3_1) != (rd l0 0)) = true := bne_iff_ne.mpr c6
                obtain rfl := Option.some.inj H
                have p101 : 0 ≤ (x3_1 : Int) := of_decide_eq_true (by first | (with_reducible assumption) | assumption)
                have q101 : x3_1 < (l0.length : Int) := of_decide_eq_true (by first | (with_reducible assumption) | assumption)
                obtain ⟨ad101, e101, hx101_0⟩ := Kd.at_int HR0.out x3_1 p101 q101
                cases e101
                replace p101 := eq_true p101
                replace q101 := eq_true q101
                have p102 : 0 ≤ (0 : Int) := (by omega)
                have q102 : 0 < (l0.length : Int) := of_decide_eq_true (by first | (with_reducible assumption) | assumption)
                obtain ⟨ad102, e102, hx102_0⟩ := Kd.at_int HR0.out 0 p102 q102
                obtain rfl : ad101 = ad102 := (by injection e102)
                have qi102 : (0 < l0.length) = True := eq_true (by omega)
                (try rw [show ((0 : Int)).toNat = 0 from rfl] at hx102_0)
                (try rw [Addr.add_zero'] at hx102_0)
                replace p102 := eq_true p102
                replace q102 := eq_true q102
                go_wp2
                repeat (go_quiet (fail); try go_wp2)
                go_ret
                exact ⟨by first | rfl | (simp; done) | (simp [*]; done), by repeat (first | exact Drawn0.refl _ | apply Drawn0.step)⟩
            · rw [if_neg c5] at H
              exact absurd H (by simp)
          · rw [if_neg c4] at H
            exact absurd H (by simp)
        · rw [if_neg c3] at H
          have c3b0 : decide (x3_1 < 130) = false := decide_eq_false c3
          clear c3
          obtain rfl := Option.some.inj H
          go_wp2
          repeat (go_quiet (fail); try go_wp2)
          go_ret
          exact ⟨by first | rfl | (simp; done) | (simp [*]; done), by repeat (first | exact Drawn0.refl _ | apply Drawn0.step)⟩
      · rw [if_neg c2] at H
        have c2b0 : decide (x3_1 < (l0.length : Int)) = false := decide_eq_false c2
        clear c2
        obtain rfl := Option.some.inj H
        go_wp2
        repeat (go_quiet (fail); try go_wp2)
        go_ret
        exact ⟨by first | rfl | (simp; done) | (simp [*]; done), by repeat (first | exact Drawn0.refl _ | apply Drawn0.step)⟩

/-! ### piece: function 20 -/
def piece.l0 : Nat → List Int → Int → Int → Option (Int × Bool)
  | 0, _, _, _ => none
  | k + 1, x0, x13, x14 => if x14 < x13 then (if 0 ≤ x14 then (if x14 ≤ (x0.length : Int) then ((same.f k (x0.drop (x14 : Int).toNat)).bind fun t105 => (if t105 ≥ 3 then (some (x14, false)) else (piece.l0 k x0 x13 (wrap64 (x14 + 1))))) else (none)) else (none)) else (some (mn (x0.length : Int) 128, false))
def piece.f (k : Nat) (l0 : List Int) : Option (Int × Bool) := (same.f k l0).bind fun t103 => (if t103 ≥ 3 then (some (t103, true)) else (piece.l0 k l0 (mn (l0.length : Int) 128) 0))
theorem piece.mono_l : ∀ k, (∀ y0 y1 y2, LeO (piece.l0 k y0 y1 y2) (piece.l0 (k + 1) y0 y1 y2))
  | 0 => fun _ _ _ r h => by simp [piece.l0] at h
  | k + 1 => by
    have ih0 := piece.mono_l k
    · intro y0 y1 y2
      unfold piece.l0
      repeat' first
      | (with_reducible exact ih0 _ _ _)
      | (with_reducible exact same.mono _ _)
      | (with_reducible exact LeO.refl _)
      | (with_reducible exact LeO.none _)
      | (with_reducible refine LeO.ite ?_ ?_)
      | (with_reducible refine LeO.bind ?_ (fun _ => ?_))
      | exact ih0 _ _ _
      | exact same.mono _ _
      | exact LeO.none _
      | refine LeO.ite ?_ ?_
      | refine LeO.bind ?_ (fun _ => ?_)
theorem piece.mono : ∀ a0 k, LeO (piece.f k a0) (piece.f (k + 1) a0) := by
  intro a0 k
  have ih0 := piece.mono_l k
  unfold piece.f
  repeat' first
      | (with_reducible exact ih0 _ _ _)
      | (with_reducible exact same.mono _ _)
      | (with_reducible exact LeO.refl _)
      | (with_reducible exact LeO.none _)
      | (with_reducible refine LeO.ite ?_ ?_)
      | (with_reducible refine LeO.bind ?_ (fun _ => ?_))
      | exact ih0 _ _ _
      | exact same.mono _ _
      | exact LeO.none _
      | refine LeO.ite ?_ ?_
      | refine LeO.bind ?_ (fun _ => ?_)
set_option maxHeartbeats 8000000 in
set_option maxRecDepth 100000 in
theorem piece.calls (k : Nat) (A0 : Option Addr) (c0 : Nat) (l0 : List Int) (r1 : Int) (r2 : Bool) (w : World) (hr0 : Kd.C (Kd.int .u8) w A0 l0.length l0) (hc0 : l0.length ≤ c0) (h : piece.f k l0 = some (r1, r2)) :
    Calls Try.prog 20 #[.slice A0 l0.length c0] w fun e w' => e = .returned (.tuple #[.int .i64 r1, .bool r2]) ∧ Below w.heap.size w w' := by
  have HR0 := Aside0.mk hr0
  have HC0 := Aside0.mk hc0
  clear hr0 hc0
  have HB := Aside0.mk (Below.refl w.heap.size w)
  have H : ((same.f k l0).bind fun t103 => (if t103 ≥ 3 then (some (t103, true)) else (piece.l0 k l0 (mn (l0.length : Int) 128) 0))) = some (r1, r2) := h
  clear h
  replace H := Option.bind_eq_some_iff.mp H
  obtain ⟨t103, A20, H⟩ := H
  replace H : (if t103 ≥ 3 then (some (t103, true)) else (piece.l0 k l0 (mn (l0.length : Int) 128) 0)) = some (r1, r2) := H
  have A2 := Aside0.mk A20
  clear A20
  by_cases c3 : t103 ≥ 3
  · rw [if_pos c3] at H
    have c3b0 : decide (3 ≤ t103) = true := decide_eq_true c3
    clear c3
    simp only [Option.some.injEq, Prod.mk.injEq] at H
    obtain ⟨rfl, rfl⟩ := H
    go_enter Try.func20, Try.ntmps20
    go_wp2_with (first | ((with_reducible refine gate_callee (f := 23) rfl ?_); refine goesL_ (some 7) rfl rfl Try.func23 (by kernel_rfl) rfl #[.slice A0 l0.length c0] rfl (by (try simp only [List.map_toArray, List.map_cons, List.map_nil]); first | done | rfl | (simp only [List.length_drop, List.length_take]; rfl)) ?_; (with_reducible refine (same.calls k _ _ l0 t103 _ ?side1 ?side2 A2.out).mono ?_); (case side1 => repeat (first | exact HR0.out | (with_reducible refine Kd.C_alloc ?_ _) | (with_reducible refine Kd.C_drewN ?_ _) | (with_reducible refine Kd.C_drew ?_))); (case side2 => exact HC0.out); rintro e w' ⟨rfl, ⟨nd, rfl⟩⟩; refine ⟨_, rfl, ?_⟩))
    go_ret2
    exact ⟨by first | rfl | (simp [errW_none, errW_some] <;> rfl) | (simp [*, errW_none, errW_some] <;> rfl), by repeat (first | (with_reducible first | exact HB.out | apply below_alloc | apply pw_below_drewN | apply below_drew1) | exact HB.out)⟩
  · rw [if_neg c3] at H
    have c3b0 : decide (3 ≤ t103) = false := decide_eq_false c3
    clear c3
    obtain ⟨ji4, hji4⟩ : ∃ j_ : Int, (mn (l0.length : Int) 128) = j_ := ⟨_, rfl⟩
    replace H : (piece.l0 k l0 ji4 0) = some (r1, r2) := by first | (rw [hji4] at H; exact H) | (simp only [hji4] at H ⊢; exact H)
    (try rw [hji4] at A2)
    (try (have hji4h : ji4 ≤ 128 := by (rw [← hji4]; unfold mn; (repeat' split) <;> omega)))
    (try (have hji4g : ji4 ≤ 64 := by omega))
    (try (have hji4l : 0 ≤ ji4 := by (rw [← hji4]; unfold mn; (repeat' split) <;> omega)))
    (try (have hji4m : 0 ≤ ji4 := by omega))
    have hji4_ : (if 128 < (l0.length : Int) then 128 else (l0.length : Int)) = ji4 := hji4
    have H' := Aside0.mk H
    clear H
    go_enter Try.func20, Try.ntmps20
    go_wp2_with (first | ((with_reducible refine gate_callee (f := 23) rfl ?_); refine goesL_ (some 7) rfl rfl Try.func23 (by kernel_rfl) rfl #[.slice A0 l0.length c0] rfl (by (try simp only [List.map_toArray, List.map_cons, List.map_nil]); first | done | rfl | (simp only [List.length_drop, List.length_take]; rfl)) ?_; (with_reducible refine (same.calls k _ _ l0 t103 _ ?side1 ?side2 A2.out).mono ?_); (case side1 => repeat (first | exact HR0.out | (with_reducible refine Kd.C_alloc ?_ _) | (with_reducible refine Kd.C_drewN ?_ _) | (with_reducible refine Kd.C_drew ?_))); (case side2 => exact HC0.out); rintro e w' ⟨rfl, ⟨nd, rfl⟩⟩; refine ⟨_, rfl, ?_⟩))
    go_loopg [14] k (fun kq v14 w' => ∃ (x14_1 : Int), v14 = .int .i64 x14_1 ∧ Aside0 (piece.l0 kq l0 ji4 x14_1 = some (r1, r2)) ∧ Aside0 (kq ≤ k) ∧ Aside0 (Below w.heap.size w w'))
    case atStart => exact ⟨(0), (by first | rfl | (simp; done) | (simp [*]; done)), H', ⟨Nat.le_refl _⟩, ⟨by repeat (first | (with_reducible first | exact HB.out | apply below_alloc | apply pw_below_drewN | apply below_drew1) | exact HB.out)⟩⟩
    case round =>
      clear H'
      try clear c2
      try clear p2
      try clear c3
      try clear c3b0
      obtain ⟨x14_1, rfl, HA, HK1, HB⟩ := hrel
      cases gk with
      | zero => exact absurd HA.out (by simp [piece.l0])
      | succ k1 =>
        have H := HA.out
        clear HA
        simp only [piece.l0] at H
        by_cases c5 : x14_1 < ji4
        · rw [if_pos c5] at H
          have c5b0 : decide (x14_1 < ji4) = true := decide_eq_true c5
          clear c5
          by_cases c6 : 0 ≤ x14_1
          · rw [if_pos c6] at H
            have c6b0 := eq_true c6
            have c6b1 : decide (0 ≤ x14_1) = true := decide_eq_true c6
            clear c6
            by_cases c7 : x14_1 ≤ (l0.length : Int)
            · rw [if_pos c7] at H
              have c7b0 := eq_true c7
              have c7b1 : decide (x14_1 ≤ (l0.length : Int)) = true := decide_eq_true c7
              clear c7
              replace H := Option.bind_eq_some_iff.mp H
              obtain ⟨t105, A80, H⟩ := H
              replace H : (if t105 ≥ 3 then (some (x14_1, false)) else (piece.l0 k1 l0 ji4 (wrap64 (x14_1 + 1)))) = some (r1, r2) := H
              have A8 := Aside0.mk A80
              clear A80
              by_cases c9 : t105 ≥ 3
              · rw [if_pos c9] at H
                have c9b0 : decide (3 ≤ t105) = true := decide_eq_true c9
                clear c9
                simp only [Option.some.injEq, Prod.mk.injEq] at H
                obtain ⟨rfl, rfl⟩ := H
                obtain ⟨i010, hi010, _, hsz10, _⟩ := info_parts info5
                obtain ⟨A10, hcut10, hA10, hC10⟩ := print_drop_of (P := Try.prog) (Value.int .u8) 0 22 5 .i64 Try.underlying22 hi010 hsz10 A0 c0 l0 x14_1 (of_decide_eq_true (by first | (with_reducible assumption) | assumption)) (of_decide_eq_true (by first | (with_reducible assumption) | assumption)) HC0.out
                have HR104 := Aside0.mk (Kd.C_of_reads (h1 := fun _ => rfl) (hA10 _ (Kd.reads_of_C HR0.out)))
                have HC104 := Aside0.mk hC10
                clear hA10 hC10 hi010 hsz10
                go_wp2_with (first | ((with_reducible refine gate_callee (f := 23) rfl ?_); refine goesL_ (some 20) rfl rfl Try.func23 (by kernel_rfl) rfl #[.slice A10 (l0.drop (x14_1 : Int).toNat).length (c0 - x14_1.toNat)] rfl (by (try simp only [List.map_toArray, List.map_cons, List.map_nil]); first | done | (rw [show (l0.drop (x14_1 : Int).toNat).length = (l0.length - x14_1.toNat) from List.length_drop] <;> rfl) | rfl | (simp only [List.length_drop, List.length_take]; rfl)) ?_; (with_reducible refine (same.calls k1 _ _ (l0.drop (x14_1 : Int).toNat) t105 _ ?side1 ?side2 A8.out).mono ?_); (case side1 => repeat (first | exact (Kd.C_below HR104.out HB.out) | (with_reducible refine Kd.C_alloc ?_ _) | (with_reducible refine Kd.C_drewN ?_ _) | (with_reducible refine Kd.C_drew ?_))); (case side2 => exact HC104.out); rintro e w' ⟨rfl, ⟨nd, rfl⟩⟩; refine ⟨_, rfl, ?_⟩))
                go_ret2
                exact ⟨by first | rfl | (simp [errW_none, errW_some] <;> rfl) | (simp only [← hji4]; first | rfl | (simp [errW_none, errW_some] <;> rfl)) | (simp [*, errW_none, errW_some] <;> rfl), by repeat (first | (with_reducible first | exact HB.out | apply below_alloc | apply pw_below_drewN | apply below_drew1) | exact HB.out)⟩
              · rw [if_neg c9] at H
                have c9b0 : decide (3 ≤ t105) = false := decide_eq_false c9
                clear c9
                have H' := Aside0.mk H
                clear H
                obtain ⟨i011, hi011, _, hsz11, _⟩ := info_parts info5
                obtain ⟨A11, hcut11, hA11, hC11⟩ := print_drop_of (P := Try.prog) (Value.int .u8) 0 22 5 .i64 Try.underlying22 hi011 hsz11 A0 c0 l0 x14_1 (of_decide_eq_true (by first | (with_reducible assumption) | assumption)) (of_decide_eq_true (by first | (with_reducible assumption) | assumption)) HC0.out
                have HR104 := Aside0.mk (Kd.C_of_reads (h1 := fun _ => rfl) (hA11 _ (Kd.reads_of_C HR0.out)))
                have HC104 := Aside0.mk hC11
                clear hA11 hC11 hi011 hsz11
                go_wp2_with (first | ((with_reducible refine gate_callee (f := 23) rfl ?_); refine goesL_ (some 20) rfl rfl Try.func23 (by kernel_rfl) rfl #[.slice A11 (l0.drop (x14_1 : Int).toNat).length (c0 - x14_1.toNat)] rfl (by (try simp only [List.map_toArray, List.map_cons, List.map_nil]); first | done | (rw [show (l0.drop (x14_1 : Int).toNat).length = (l0.length - x14_1.toNat) from List.length_drop] <;> rfl) | rfl | (simp only [List.length_drop, List.length_take]; rfl)) ?_; (with_reducible refine (same.calls k1 _ _ (l0.drop (x14_1 : Int).toNat) t105 _ ?side1 ?side2 A8.out).mono ?_); (case side1 => repeat (first | exact (Kd.C_below HR104.out HB.out) | (with_reducible refine Kd.C_alloc ?_ _) | (with_reducible refine Kd.C_drewN ?_ _) | (with_reducible refine Kd.C_drew ?_))); (case side2 => exact HC104.out); rintro e w' ⟨rfl, ⟨nd, rfl⟩⟩; refine ⟨_, rfl, ?_⟩))
                go_roundg k1
                case measure => have := HK1.out; omega
                case rel => exact ⟨(wrap64 (x14_1 + 1)), (by first | rfl | (simp; done) | (simp [*]; done)), H', ⟨by have := HK1.out; omega⟩, ⟨by repeat (first | (with_reducible first | exact HB.out | apply below_alloc | apply pw_below_drewN | apply below_drew1) | exact HB.out)⟩⟩
            · rw [if_neg c7] at H
              exact absurd H (by simp)
          · rw [if_neg c6] at H
            exact absurd H (by simp)
        · rw [if_neg c5] at H
          have c5b0 : decide (x14_1 < ji4) = false := decide_eq_false c5
          clear c5
          obtain ⟨ji12, hji12⟩ : ∃ j_ : Int, (mn (l0.length : Int) 128) = j_ := ⟨_, rfl⟩
          replace H : (some (ji12, false)) = some (r1, r2) := by first | (rw [hji12] at H; exact H) | (simp only [hji12] at H ⊢; exact H)
          (try (have hji12h : ji12 ≤ 128 := by (rw [← hji12]; unfold mn; (repeat' split) <;> omega)))
          (try (have hji12g : ji12 ≤ 64 := by omega))
          (try (have hji12l : 0 ≤ ji12 := by (rw [← hji12]; unfold mn; (repeat' split) <;> omega)))
          (try (have hji12m : 0 ≤ ji12 := by omega))
          have hji12_ : (if 128 < (l0.length : Int) then 128 else (l0.length : Int)) = ji12 := hji12
          simp only [Option.some.injEq, Prod.mk.injEq] at H
          obtain ⟨rfl, rfl⟩ := H
          go_wp2
          go_ret2
          exact ⟨by first | rfl | (simp [errW_none, errW_some] <;> rfl) | (simp only [← hji4, ← hji12]; first | rfl | (simp [errW_none, errW_some] <;> rfl)) | (simp [*, errW_none, errW_some] <;> rfl), by repeat (first | (with_reducible first | exact HB.out | apply below_alloc | apply pw_below_drewN | apply below_drew1) | exact HB.out)⟩

/-! ### Pack: function 7 -/
section
open Go.Shelf
/-- so many numbers c stand at the begin, m at most -/
def run1 (c : Int) : Nat → List Int → Nat
  | 0, _ => 0
  | _ + 1, [] => 0
  | m + 1, x :: r => if x = c then run1 c m r + 1 else 0
def sameL (l : List Int) : Nat := run1 (rd l 0) 130 l
def plainN : Nat → List Int → Nat
  | 0, _ => 0
  | _ + 1, [] => 0
  | m + 1, x :: r => if 3 ≤ sameL (x :: r) then 0 else plainN m r + 1
def pieceL (l : List Int) : Nat × Bool := if 3 ≤ sameL l then (sameL l, true) else (plainN 128 l, false)
def encP (p : List Int) (b : Bool) : List Int := if b then [(p.length : Int) + 125, rd p 0] else ((p.length : Int) - 1) :: p
def packN : Nat → List Int → List Int
  | 0, _ => []
  | _ + 1, [] => []
  | m + 1, x :: r => encP ((x :: r).take (pieceL (x :: r)).1) (pieceL (x :: r)).2 ++ packN m ((x :: r).drop (pieceL (x :: r)).1)
def packL (l : List Int) : List Int := packN l.length l
theorem run1_le (c : Int) : ∀ (m : Nat) (l : List Int), run1 c m l ≤ m ∧ run1 c m l ≤ l.length ∧ l.take (run1 c m l) = List.replicate (run1 c m l) c
  | 0, _ => ⟨Nat.le_refl _, Nat.zero_le _, rfl⟩
  | _ + 1, [] => ⟨Nat.zero_le _, Nat.zero_le _, rfl⟩
  | m + 1, x :: r => by
    obtain ⟨h1, h2, h3⟩ := run1_le c m r
    simp only [run1]
    split
    · rename_i e
      refine ⟨by omega, by simp; omega, ?_⟩
      rw [List.take_succ_cons, h3, List.replicate_succ, e]
    · exact ⟨Nat.zero_le _, Nat.zero_le _, rfl⟩
theorem plainN_le : ∀ (m : Nat) (l : List Int), plainN m l ≤ m ∧ plainN m l ≤ l.length
  | 0, _ => ⟨Nat.le_refl _, Nat.zero_le _⟩
  | _ + 1, [] => ⟨Nat.zero_le _, Nat.zero_le _⟩
  | m + 1, x :: r => by
    obtain ⟨h1, h2⟩ := plainN_le m r
    simp only [plainN]
    split
    · exact ⟨Nat.zero_le _, Nat.zero_le _⟩
    · exact ⟨by omega, by simp; omega⟩
theorem pieceL_le (l : List Int) (h : l ≠ []) : 1 ≤ (pieceL l).1 ∧ (pieceL l).1 ≤ l.length ∧ (pieceL l).1 ≤ 130 ∧ ((pieceL l).2 = false → (pieceL l).1 ≤ 128) ∧ ((pieceL l).2 = true → 3 ≤ (pieceL l).1) := by
  unfold pieceL
  obtain ⟨h1, h2, _⟩ := run1_le (rd l 0) 130 l
  obtain ⟨g1, g2⟩ := plainN_le 128 l
  split
  · rename_i e
    unfold sameL at e ⊢
    exact ⟨(by show 1 ≤ _; omega), h2, h1, (fun e => by cases e), fun _ => e⟩
  · rename_i e
    refine ⟨?_, g2, (by show plainN 128 l ≤ 130; omega), fun _ => g1, (fun e => by cases e)⟩
    cases l with
    | nil => exact absurd rfl h
    | cons x r =>
      show 1 ≤ plainN 128 (x :: r)
      simp only [plainN]
      rw [if_neg e]
      omega
theorem packN_fuel : ∀ (m : Nat) (l : List Int), l.length ≤ m → ∀ m', l.length ≤ m' → packN m l = packN m' l
  | 0, l, h, m', _ => by
    have : l = [] := List.length_eq_zero_iff.mp (by omega)
    subst this
    cases m' <;> rfl
  | m + 1, [], _, m', _ => by cases m' <;> rfl
  | m + 1, x :: r, h, m', h' => by
    cases m' with
    | zero => simp at h'
    | succ m' =>
      have hp := pieceL_le (x :: r) (by simp)
      simp only [packN]
      rw [packN_fuel m _ (by rw [List.length_drop]; omega) m' (by rw [List.length_drop]; omega)]
theorem packL_nil : packL [] = [] := rfl
theorem packL_cons (l : List Int) (h : l ≠ []) : packL l = encP (l.take (pieceL l).1) (pieceL l).2 ++ packL (l.drop (pieceL l).1) := by
  cases l with
  | nil => exact absurd rfl h
  | cons x r =>
    have hp := pieceL_le (x :: r) (by simp)
    unfold packL
    show packN (r.length + 1) (x :: r) = _
    simp only [packN]
    rw [packN_fuel r.length _ (by rw [List.length_drop, List.length_cons]; omega) _ (Nat.le_refl _)]
theorem packL_len : ∀ (n : Nat) (l : List Int), l.length ≤ n → (packL l).length ≤ 2 * l.length
  | 0, l, h => by
    have : l = [] := List.length_eq_zero_iff.mp (by omega)
    subst this; simp [packL_nil]
  | n + 1, l, h => by
    by_cases e : l = []
    · subst e; simp [packL_nil]
    · have hp := pieceL_le l e
      rw [packL_cons l e, List.length_append]
      have h1 := packL_len n (l.drop (pieceL l).1) (by rw [List.length_drop]; omega)
      rw [List.length_drop] at h1
      have h2 : (encP (l.take (pieceL l).1) (pieceL l).2).length ≤ 2 * (pieceL l).1 := by
        unfold encP
        split
        · simp; omega
        · rw [List.length_cons, List.length_take]; omega
      omega
theorem wrap_succ {n : Nat} (h : n ≤ 9223372036854775806) : wrap64 ((n : Int) + 1) = ((n + 1 : Nat) : Int) := by unfold wrap64; omega
theorem rd_nat {l : List Int} {i : Nat} (h : i < l.length) : rd l (i : Int) = l[i] := by simp [rd, h]
theorem same_l0 (l : List Int) : ∀ (m i k : Nat), i + m = 130 → m < k → i ≤ l.length → same.l0 k l (i : Int) = some ((i + run1 (rd l 0) m (l.drop i) : Nat) : Int)
  | 0, i, k, hi, hk, hl => by
    obtain ⟨k, rfl⟩ : ∃ j, k = j + 1 := ⟨k - 1, by omega⟩
    simp only [same.l0, run1, Nat.add_zero]
    split
    · rw [if_neg (by omega)]
    · rfl
  | m + 1, i, k, hi, hk, hl => by
    obtain ⟨k, rfl⟩ : ∃ j, k = j + 1 := ⟨k - 1, by omega⟩
    simp only [same.l0]
    by_cases e : i = l.length
    · rw [if_neg (by omega), List.drop_eq_nil_of_le (by omega)]
      rfl
    · have hlt : i < l.length := by omega
      have h0 : rd l 0 = l[0] := rd_nat (i := 0) (by omega)
      rw [if_pos (by omega), if_pos (by omega), if_pos (by omega), if_pos (by omega), List.drop_eq_getElem_cons hlt, rd_nat hlt]
      simp only [run1]
      by_cases c : l[i] = rd l 0
      · rw [if_pos c, if_pos c, wrap_succ (by omega), same_l0 l m (i + 1) k (by omega) (by omega) (by omega)]
        congr 2
        omega
      · rw [if_neg c, if_neg c]; rfl
theorem same_f (l : List Int) {k : Nat} (hk : 131 ≤ k) : same.f k l = some ((sameL l : Nat) : Int) := by
  have h := same_l0 l 130 0 k (by omega) (by omega) (Nat.zero_le _)
  unfold same.f sameL
  simpa using h
theorem piece_l0 (l : List Int) : ∀ (m i k : Nat), i + m = 128 → m + 132 < k → i ≤ l.length → piece.l0 k l (mn (l.length : Int) 128) (i : Int) = some (((i + plainN m (l.drop i) : Nat) : Int), false)
  | 0, i, k, hi, hk, hl => by
    obtain ⟨k, rfl⟩ : ∃ j, k = j + 1 := ⟨k - 1, by omega⟩
    simp only [piece.l0, plainN, Nat.add_zero]
    have e : mn (l.length : Int) 128 = 128 := by unfold mn; split <;> omega
    rw [e, if_neg (by omega)]
    have : i = 128 := by omega
    subst this; rfl
  | m + 1, i, k, hi, hk, hl => by
    obtain ⟨k, rfl⟩ : ∃ j, k = j + 1 := ⟨k - 1, by omega⟩
    simp only [piece.l0]
    by_cases e : i = l.length
    · have em : mn (l.length : Int) 128 = (l.length : Int) := by unfold mn; split <;> omega
      rw [em, if_neg (by omega), List.drop_eq_nil_of_le (by omega)]
      subst e; rfl
    · have hlt : i < l.length := by omega
      have hm : (i : Int) < mn (l.length : Int) 128 := by unfold mn; split <;> omega
      rw [if_pos hm, if_pos (by omega), if_pos (by omega), Int.toNat_natCast, same_f _ (by omega)]
      simp only [Option.bind_some]
      rw [List.drop_eq_getElem_cons hlt]
      simp only [plainN]
      by_cases c : 3 ≤ sameL (l[i] :: l.drop (i + 1))
      · rw [if_pos c, if_pos (by omega)]; rfl
      · rw [if_neg c, if_neg (by omega), wrap_succ (by omega), piece_l0 l m (i + 1) k (by omega) (by omega) (by omega)]
        congr 3
        omega
theorem piece_f (l : List Int) {k : Nat} (hk : 300 ≤ k) : piece.f k l = some (((pieceL l).1 : Int), (pieceL l).2) := by
  unfold piece.f pieceL
  rw [same_f l (by omega)]
  simp only [Option.bind_some]
  by_cases c : 3 ≤ sameL l
  · rw [if_pos c, if_pos (by omega)]
  · rw [if_neg c, if_neg (by omega)]
    have h := piece_l0 l 128 0 k (by omega) (by omega) (Nat.zero_le _)
    simpa using h
attribute [local go_sem] Oper.semAt_some
abbrev Pc := Option Addr × Nat × List Int × Bool
def encs4 (x : Pc) : Array Value := #[.slice x.1 x.2.2.1.length x.2.1, .bool x.2.2.2]
def flat4 (xs : List Pc) : List Int := (xs.map fun x => encP x.2.2.1 x.2.2.2).flatten
def lenAt (W : World) (B : Nat) : Nat := match W.cell? ⟨B, 0, none⟩ with
  | some (.slice _ n _) => n
  | _ => 0
/-- what the caller may know of a piece that comes -/
def Gpc (w0 : World) (l0 : List Int) (pre : List Pc) (x : Pc) : Prop :=
  x.2.2.1.length ≤ x.2.1 ∧ Kd.C (Kd.int .u8) w0 x.1 x.2.2.1.length x.2.2.1 ∧ 1 ≤ x.2.2.1.length ∧ x.2.2.1.length ≤ 130 ∧ (x.2.2.2 = false → x.2.2.1.length ≤ 128) ∧ (x.2.2.2 = true → 3 ≤ x.2.2.1.length) ∧ flat4 (pre ++ [x]) <+: packL l0
theorem flat4_snoc (pre : List Pc) (x : Pc) : flat4 (pre ++ [x]) = flat4 pre ++ encP x.2.2.1 x.2.2.2 := by simp [flat4]
set_option maxRecDepth 100000 in
set_option maxHeartbeats 4000000 in
theorem pieces1_in (l Bn : Nat) (w0 : World) (A0 : Option Addr) (c0 : Nat) (l0 : List Int) (hr0 : Kd.C (Kd.int .u8) w0 A0 l0.length l0) (hc0 : l0.length ≤ c0) (J : List Pc → World → Prop) (W : World) (hB0 : Below w0.heap.size w0 W)
    (hJ : AbidesFrom W.heap.size J) (hJB : ∀ s X v, J s X → J s (X.setCell ⟨Bn, 0, none⟩ v)) (hBn : w0.heap.size ≤ Bn)
    (hY : ∀ pre x W1, J pre W1 → Gpc w0 l0 pre x → YieldAt Fence.wide 3 Try.prog l (encs4 x) W1 fun e W' => e = .returned (.bool true) ∧ J (pre ++ [x]) W' ∧ (Below w0.heap.size W1 W' ∧ W'.heap[Bn]? = W1.heap[Bn]?))
    (hb : Boxed W Bn 22 (.slice A0 l0.length c0)) (h0 : J [] W) :
    CallsIn Fence.wide 4 Try.prog 19 #[.func (.yield l) #[] #[], .pointer (some ⟨Bn, 0, none⟩)] W fun e W' => (∃ v, e = .returned v) ∧ ∃ xs, flat4 xs = packL l0 ∧ J xs W' := by
  refine callsIn_of_wp Try.func19 rfl trivial ?_ rfl
  simp only [Try.ntmps19, List.size_toArray, List.length_cons, List.length_nil, Nat.reduceAdd, Nat.reduceSub, Array.replicate_succ, Array.replicate_zero, List.push_toArray, List.append_toArray, List.nil_append, List.cons_append]
  gi_wp2
  gi_loopw [3, 4] (fun v3 v4 wr => ∃ (pre : List Pc) (A : Option Addr) (c : Nat) (rest : List Int), Boxed wr Bn 22 (.slice A rest.length c) ∧ rest.length ≤ c ∧ Kd.C (Kd.int .u8) w0 A rest.length rest ∧ Below w0.heap.size w0 wr ∧ flat4 pre ++ packL rest = packL l0 ∧ J pre wr)
    (fun v3 v4 wr => lenAt wr Bn)
  case atStart =>
    exact ⟨[], A0, c0, l0, hb, hc0, hr0, hB0, by simp [flat4], h0⟩
  case round =>
    obtain ⟨pre, A, c, rest, hbx, hc, hr, hB, hf, hJs⟩ := hrel
    have hcell := hbx.cell
    have hfr := hbx.frozen
    by_cases hne : rest = []
    · subst hne
      have hz : decide ((0 : Int) < (([] : List Int).length : Int)) = false := rfl
      gi_wp2
      go_end0
      exact ⟨⟨_, rfl⟩, pre, by simpa [packL_nil] using hf, hJs⟩
    · have hpos : 0 < rest.length := List.length_pos_iff.mpr hne
      have hz : decide ((0 : Int) < (rest.length : Int)) = true := decide_eq_true (by omega)
      obtain ⟨p1, p2, p3, p4, p5⟩ := pieceL_le rest hne
      have hpf := piece_f rest (k := 300) (Nat.le_refl _)
      obtain ⟨pn, hpn⟩ : ∃ pn, pn = (pieceL rest).1 := ⟨_, rfl⟩
      obtain ⟨pb, hpb⟩ : ∃ pb, pb = (pieceL rest).2 := ⟨_, rfl⟩
      rw [← hpn] at p1 p2 p3 p4 p5 hpf
      rw [← hpb] at p4 p5 hpf
      have HPN := Aside0.mk hpn
      have HPB := Aside0.mk hpb
      clear hpn hpb
      obtain ⟨i0, hi0, _, hsz0, _⟩ := info_parts info5
      obtain ⟨ht1, ht2, ht3⟩ := print_take_of (P := Try.prog) (Value.int .u8) 0 22 5 .i64 Try.underlying22 hi0 hsz0 A c rest (pn : Int) (by omega) (by omega) hc
      obtain ⟨A', hd1, hd2, hd3⟩ := print_drop_of (P := Try.prog) (Value.int .u8) 0 22 5 .i64 Try.underlying22 hi0 hsz0 A c rest (pn : Int) (by omega) (by omega) hc
      simp only [Int.toNat_natCast] at ht1 ht2 ht3 hd1 hd2 hd3
      have hrt := Kd.C_of_reads (h1 := fun _ => rfl) (ht2 _ (Kd.reads_of_C hr))
      have hrd := Kd.C_of_reads (h1 := fun _ => rfl) (hd2 _ (Kd.reads_of_C hr))
      have hgrow : ∀ w1 : World, Below wr.heap.size wr w1 → wr.grownBy w1 none := fun w1 h => ⟨h.os, h.tape, h.output, h.size, fun k hk _ => h.block k hk⟩
      have hlt : (rest.take pn).length = pn := by rw [List.length_take]; omega
      have hdl : (rest.drop pn).length = rest.length - pn := List.length_drop
      have hpk : packL rest = encP (rest.take pn) pb ++ packL (rest.drop pn) := by rw [HPN.out, HPB.out]; exact packL_cons rest hne
      have HPK := Aside0.mk hpk
      clear hpk
      have hG : Gpc w0 l0 pre (A, c, rest.take pn, pb) := by
        refine ⟨ht3, hrt, ?_, ?_, ?_, ?_, ?_⟩
        · show 1 ≤ (rest.take pn).length
          omega
        · show (rest.take pn).length ≤ 130
          omega
        · show pb = false → (rest.take pn).length ≤ 128
          rw [hlt]; exact p4
        · show pb = true → 3 ≤ (rest.take pn).length
          rw [hlt]; exact p5
        · rw [flat4_snoc, ← hf, HPK.out]
          exact ⟨packL (rest.drop pn), by simp⟩
      have HG := Aside0.mk hG
      clear hG
      have HDL := Aside0.mk hdl
      clear hdl
      gi_wp2_with (refine ⟨trivial, ?_⟩; gi_at_call 20; refine (callsIn_wide.2 (piece.calls 300 A c rest _ _ wr (Kd.C_below hr hB) hc hpf)).mono ?_; rintro e w1 ⟨rfl, hbw⟩; have hJ1 := hJ _ _ _ none hJs (hgrow _ hbw) (fun r e => by cases e); have hbx1 : Boxed w1 Bn 22 (.slice A rest.length c) := (hbw.block Bn hbx.lt).trans hbx; have hcell1 := hbx1.cell; have hfr1 := hbx1.frozen; obtain ⟨fn, tmps, assign, body, hy, hR⟩ := hY pre _ w1 hJ1 HG.out; simp only [encs4, hlt] at hy)
      refine hR.mono ?_
      rintro e W3 ⟨rfl, hJ3, hk3, hk4⟩
      have hbx3 : Boxed W3 Bn 22 (.slice A rest.length c) := hk4.trans hbx1
      have hcell3 := hbx3.cell
      have hfr3 := hbx3.frozen
      gi_wp2
      have hbx4 := hbx3.set (.slice A' (rest.length - pn) (c - pn))
      refine ⟨⟨pre ++ [(A, c, rest.take pn, pb)], A', c - pn, rest.drop pn, by rw [HDL.out]; exact hbx4, hd3, hrd, ((hB.trans (hbw.mono hB.size)).trans hk3).setCell (p := ⟨Bn, 0, none⟩) hBn _, ?_, hJB _ _ _ hJ3⟩, ?_⟩
      · rw [flat4_snoc, List.append_assoc, ← hf]
        congr 1
        exact HPK.out.symm
      · unfold lenAt
        rw [hbx4.cell, hcell]
        show rest.length - pn < rest.length
        omega
set_option maxHeartbeats 1000000 in
theorem pieces_in (A : Option Addr) (m c : Nat) (w : World) :
    CallsIn Fence.wide 4 Try.prog 15 #[.slice A m c] w fun e w' => e = .returned (.func (.func 19) #[] #[.pointer (some ⟨w.heap.size, 0, none⟩)]) ∧ w' = w.alloc (.cells #[.slice A m c] 22) := by
  refine callsIn_of_wp Try.func15 rfl trivial ?_ rfl
  simp only [Try.ntmps15, List.size_toArray, List.length_cons, List.length_nil, Nat.reduceAdd, Nat.reduceSub, Array.replicate_succ, Array.replicate_zero, List.push_toArray, List.append_toArray, List.nil_append, List.cons_append]
  gi_wp2
  go_ret
  exact ⟨rfl, rfl⟩
theorem C_cells {W : World} {A : Option Addr} {l : List Int} (h : Kd.C (Kd.int .u8) W A l.length l) (hp : 0 < l.length) : ∃ ad, A = some ad ∧ ∀ j u, (l.map (Value.int .u8))[j]? = some u → W.cell? (ad.add j) = some u := by
  obtain ⟨h1, h2, h3⟩ := Kd.reads_of_C (d := (0 : Int)) h
  obtain ⟨ad, e, hc⟩ := h3 hp
  refine ⟨ad, e, fun j u hu => ?_⟩
  rw [List.getElem?_map] at hu
  obtain ⟨q, hq, rfl⟩ := Option.map_eq_some_iff.mp hu
  obtain ⟨hj, rfl⟩ := List.getElem?_eq_some_iff.mp hq
  rw [hc j hj, List.getD_eq_getElem?_getD, List.getElem?_eq_getElem hj]; rfl
theorem C_cells' {W : World} {ad : Addr} {l : List Int} (h : Kd.C (Kd.int .u8) W (some ad) l.length l) (hp : 0 < l.length) : ∀ j u, (l.map (Value.int .u8))[j]? = some u → W.cell? (ad.add j) = some u := by
  obtain ⟨ad', e, hc⟩ := C_cells h hp
  cases e; exact hc
/-- what a step that writes one's own row keeps -/
theorem row_step {W w1 : World} {n₀ : Nat} {e : TypeId} {size : Nat} {v : Value} {k : Nat} {xs : List Value} (hrow : W.ownsRow n₀ e size v k xs) (hg : W.grownBy w1 v.ownBlock) :
    (∀ B t u, t ≠ e → Boxed W B t u → Boxed w1 B t u ∧ w1.heap[B]? = W.heap[B]?) ∧ KeepsOthers W w1 ∧ (n₀ ≤ W.heap.size → Below n₀ W w1) := by
  refine ⟨fun B t u hte hb => ?_, KeepsOthers.of_grownBy hg fun j o ej hj => ?_, fun hn => (Below.refl n₀ W).grown hg hn fun j ej => ?_⟩
  · have h1 : Boxed w1 B t u := hb.kept hg (hb.not_row hte hrow)
    exact ⟨h1, h1.trans hb.symm⟩
  · rcases hrow.2 with ⟨rfl, _⟩ | ⟨g, cap, cur, rfl, _, hgb, _⟩
    · simp [Value.ownBlock] at ej
    · obtain rfl : g = j := by simpa [Value.ownBlock] using ej
      rw [hgb] at hj; cases hj; rfl
  · rcases hrow.2 with ⟨rfl, _⟩ | ⟨g, cap, cur, rfl, hb, _, _⟩
    · simp [Value.ownBlock] at ej
    · obtain rfl : g = j := by simpa [Value.ownBlock] using ej
      exact hb
theorem cell_two_new (w : World) (x y : Value) (t : TypeId) : ∀ j u, [x, y][j]? = some u → (w.alloc (.cells #[x, y] t)).cell? ((⟨w.heap.size, 0, none⟩ : Addr).add j) = some u := by
  intro j u hj
  match j, hj with
  | 0, hj => simp at hj; subst hj; simp [Addr.add]
  | 1, hj => simp at hj; subst hj; simp [Addr.add]
  | j + 2, hj => simp at hj
theorem someBox_own (B : Nat) : Own (fun (_ : List Pc) W => ∃ u, Boxed W B 22 u) := fun s X Y row hs hg hrow => by
  obtain ⟨u, hu⟩ := hs
  exact ⟨u, hu.kept hg (fun e' => by obtain ⟨o, ho, hc⟩ := hrow B e'.symm; rw [show X.heap[B]? = _ from hu] at ho; cases ho; cases hc)⟩
def Pack.f (l0 : List Int) : Option (List Int × Int) := if l0.length > 65536 then some ([], 3) else some (packL l0, 0)
theorem run_append_ev {P : Program} {a : Act} {oi : Oper} {s x : Operand} {t : TypeId} {v u v1 : Value} {w w1 : World} (ho : oi.op = .call { callee := .builtin .append, args := #[s, x], argTypes := #[t, t] }) (hs : a.eval s = v) (hx : a.eval x = u)
    (hr : (Builtin.append_ #[t, t] oi.type #[v, u]).run P w = .ok v1 w1) : (execOp a.eval oi).run P w = .ok (.value v1) w1 := by
  unfold execOp
  simp only [ho, resolve, invoke, builtin, Sem.run_bind, Sem.run_pure, Result.andThen_ok, List.map_toArray, List.map_cons, List.map_nil, hs, hx, hr]
set_option maxRecDepth 100000 in
set_option maxHeartbeats 8000000 in
theorem Pack.calls (A0 : Option Addr) (c0 : Nat) (l0 : List Int) (r1 : List Int) (r2 : Int) (w : World) (hr0 : Kd.C (Kd.int .u8) w A0 l0.length l0) (hc0 : l0.length ≤ c0) (h : Pack.f l0 = some (r1, r2)) :
    Calls Try.prog 7 #[.slice A0 l0.length c0] w fun e w' => ∃ v0_ : Value, e = .returned (.tuple #[v0_, .int .i64 r2]) ∧ Kd.R (Kd.int .u8) 5 w' w.heap.size (fun _ => True) v0_ r1 ∧ Below w.heap.size w w' := by
  refine (callsIn_wide (n := 5)).1 ?_
  refine callsIn_of_wp_marks Try.func7 rfl trivial ?_ rfl
  simp only [Try.ntmps7, List.size_toArray, List.length_cons, List.length_nil, Nat.reduceAdd, Nat.reduceSub, Array.replicate_succ, Array.replicate_zero, List.push_toArray, List.append_toArray, List.nil_append, List.cons_append]
  unfold Pack.f at h
  by_cases hl : l0.length > 65536
  · rw [if_pos hl] at h
    obtain ⟨rfl, rfl⟩ : [] = r1 ∧ (3 : Int) = r2 := by simpa using h
    have hd : decide ((65536 : Int) < (l0.length : Int)) = true := decide_eq_true (by omega)
    gi_wp2
    exact ⟨_, results_tmp2 rfl _ _ _, _, rfl, Kd.R_nil _ _ _ _ _, Below.refl _ _⟩
  · rw [if_neg hl] at h
    obtain ⟨rfl, rfl⟩ : packL l0 = r1 ∧ (0 : Int) = r2 := by simpa using h
    have hd : decide ((65536 : Int) < (l0.length : Int)) = false := decide_eq_false (by omega)
    gi_wp2_with (refine ⟨trivial, ?_⟩; gi_at_call 15; refine (pieces_in _ _ _ _).mono ?_; rintro e w' ⟨rfl, rfl⟩)
    clear h
    obtain ⟨i0, hi, hz0, hz1, hz2⟩ := info_parts info5
    obtain ⟨W0, hW0⟩ : ∃ W0, (w.alloc (Obj.cells #[Value.slice none 0 0] 22)).alloc (Obj.cells #[Value.slice A0 l0.length c0] 22) = W0 := ⟨_, rfl⟩
    have hs0 : W0.heap.size = w.heap.size + 2 := by rw [← hW0]; simp
    have hbo : Boxed W0 w.heap.size 22 (.slice none 0 0) := by rw [← hW0]; exact (Boxed.new w 22 _).alloc _
    have hbn : Boxed W0 (w.heap.size + 1) 22 (.slice A0 l0.length c0) := by
      rw [← hW0]
      have := Boxed.new (w.alloc (Obj.cells #[Value.slice none 0 0] 22)) 22 (.slice A0 l0.length c0)
      rwa [World.size_alloc] at this
    have hB0 : Below w.heap.size w W0 := by rw [← hW0]; exact ((Below.refl _ w).alloc (Nat.le_refl _) _).alloc (by simp) _
    rw [hW0]
    clear hW0
    have hpl := packL_len _ l0 (Nat.le_refl _)
    refine Rf.wpIn_rangeFunc_box rfl (by decide) (gf := 19) (lb := #[.pointer (some ⟨w.heap.size + 1, 0, none⟩)]) rfl trivial (enters_of Try.func19 (by kernel_rfl) rfl) (encs := encs4) (Kp := fun A B => Below w.heap.size A B ∧ B.heap[w.heap.size + 1]? = A.heap[w.heap.size + 1]?) (S := fun xs => flat4 xs = packL l0) (G := Gpc w l0) (Bn := w.heap.size + 1) (by omega)
      (fun l J W hW hJ hJB hY h0 => pieces1_in l (w.heap.size + 1) w A0 c0 l0 hr0 hc0 J W (hB0.trans (hW.mono (by omega))) hJ hJB (by omega) hY ((hW.block _ (by omega)).trans hbn) h0)
      (fun h k => ⟨h.1.trans k.1, k.2.trans h.2⟩) (fun W l o o' hl h hc hw => ⟨belowK_b (w := W0) (by omega) W l o o' hl h hc hw, World.putObj_heap_other (by omega)⟩) (fun x => rfl)
      (fun pre W => (∃ v, Boxed W w.heap.size 22 v ∧ W.ownsRow w.heap.size 5 1 v (flat4 pre).length ((flat4 pre).map (Value.int .u8)) ∧ True) ∧ (∃ u, Boxed W (w.heap.size + 1) 22 u) ∧ Below w.heap.size w W)
      (OwnFrom.and (Own.from (holdsRow_own w.heap.size w.heap.size 22 5 1 (fun pre => (flat4 pre).length) (fun pre => (flat4 pre).map (Value.int .u8)) (fun _ _ => True)) _) (OwnFrom.and (Own.from (someBox_own _) _) (ownFrom_below (Nat.le_refl _) (by omega))))
      (fun s X v hs => by
        obtain ⟨⟨u, hu, hr, _⟩, ⟨u', hu'⟩, hb⟩ := hs
        exact ⟨⟨u, hu.other (by omega) v, hr.kept (grownBy_setCell' X _ v) (.inr (hu'.not_row (by decide) hr).symm), trivial⟩, ⟨v, hu'.set v⟩, hb.setCell (p := ⟨w.heap.size + 1, 0, none⟩) (by show w.heap.size ≤ w.heap.size + 1; omega) v⟩)
      ⟨⟨_, hbo, World.ownsRow_nil _ _ _ _, trivial⟩, ⟨_, hbn⟩, hB0⟩
      (fun x => { tmps := #[.slice A0 l0.length c0, undef, .slice none 0 0, .int .i64 0, .pointer (some ⟨w.heap.size, 0, none⟩), .slice x.1 x.2.2.1.length x.2.1, .bool x.2.2.2, .slice A0 l0.length c0, .int .i64 l0.length, .bool false, .slice A0 l0.length c0, .func (.func 19) #[] #[.pointer (some ⟨w.heap.size + 1, 0, none⟩)], .slice x.1 x.2.2.1.length x.2.1, .bool x.2.2.2, undef, undef, undef, undef, undef, undef, undef, undef, undef, undef, undef, undef, undef, undef, undef, undef, undef, undef, undef, undef, undef], defers := [] })
      ?assign ?body ?done
    case assign =>
      intro l x W K hK
      simp only [encs4]
      gi_wp2
      exact hK
    case done =>
      rintro D ys W hD hS ⟨⟨v, hv, hrow, _⟩, _, hB⟩ hK
      have hc := hv.cell
      gi_wp2
      refine ⟨by simp, .inl ⟨_, _, rfl, run_takeDeferred hK, ?_⟩⟩
      refine ⟨_, results_tmp2 rfl _ _ _, v, rfl, ?_, hB.trans (belowK_b (w := w) (Nat.le_refl _) W D _ _ (by omega) hK rfl rfl)⟩
      refine Kd.R_of_own ?_ (fun _ _ => trivial)
      rw [← hS]
      exact ownsRow_putObj hrow _ hK rfl
    case body =>
      rintro l pre ⟨A, c, p, is⟩ W ⟨⟨v, hv, hrow, _⟩, ⟨u, hu⟩, hB⟩ ⟨g1, g2, g3, g4, g5, g6, g7⟩
      have hc := hv.cell
      dsimp only at g1 g2 g3 g4 g5 g6
      rw [flat4_snoc] at g7
      change flat4 pre ++ encP p is <+: packL l0 at g7
      have hfl : (flat4 pre).length + (encP p is).length ≤ 131072 := by
        have := g7.length_le
        rw [List.length_append] at this
        omega
      have hsz := hB.size
      obtain ⟨ad, rfl, hcs⟩ := C_cells g2 (by omega)
      cases is with
      | false =>
        have g5' := g5 rfl
        have hel : (encP p false).length = 1 + p.length := by simp [encP]; omega
        gi_wp2_with (first
          | (gi_at_builtin; refine wpListIn_append_own _ rfl (.tmp 25) (.tmp 30) 22 rfl w.heap.size 5 i0 (.int .u8 0) 1 1 Try.underlying22 hi hz0 hz1 hz2 rfl (by decide) _ _ _ rfl (hrow.alloc _) ⟨W.heap.size, 0, none⟩ 1 1 [.int .u8 ((p.length : Int) - 1)] rfl rfl (cell_one_new _ _ _) (by simp [Value.oneCell']) (by unfold maxLen; omega) (by omega) (by simp; omega) ?_; intro v1 w1 hown1 hgrow1 _; obtain ⟨g', cap', rfl⟩ := ownsRow_succ hown1; obtain ⟨s1, s2, s3⟩ := row_step (hrow.alloc _) hgrow1; have hB1 := (Below.alloc (Below.refl w.heap.size W) hsz _).trans (s3 (by simp; omega)); have hsz1 := hB1.size; obtain ⟨b1, b1'⟩ := s1 _ _ _ (by decide) (hv.alloc _); obtain ⟨d1, d1'⟩ := s1 _ _ _ (by decide) (hu.alloc _))
          | (gi_at_builtin; refine wpListIn_append_own _ rfl (.tmp 31) (.tmp 32) 22 rfl w.heap.size 5 i0 (.int .u8 0) 1 1 Try.underlying22 hi hz0 hz1 hz2 rfl (by decide) _ _ _ rfl hown1 ad p.length c (p.map (Value.int .u8)) rfl (by simp) (C_cells' (Kd.C_below g2 (hB.trans hB1)) (by omega)) (by simp [Value.oneCell']) (by unfold maxLen; omega) (by omega) (by omega) ?_; intro v2 w2 hown2 hgrow2 _; obtain ⟨t1, t2, t3⟩ := row_step hown1 hgrow2; have hown2' := hown2; rw [show (flat4 pre).length + 1 + p.length = ((flat4 pre).length + p.length) + 1 from by omega] at hown2'; obtain ⟨g'', cap'', rfl⟩ := ownsRow_succ hown2'; have hB2 := hB1.trans (t3 (by omega)); obtain ⟨b2, b2'⟩ := t1 _ _ _ (by decide) b1; obtain ⟨d2, d2'⟩ := t1 _ _ _ (by decide) d1; have hc2 := b2.cell; have hf2 := b2.frozen))
        have hkept := hown2.kept (grownBy_setCell' w2 w.heap.size (Value.slice (some { block := g'', off := 0 }) ((flat4 pre).length + p.length + 1) cap'')) (.inr (b2.not_row (by decide) hown2).symm)
        have hBf := hB2.setCell (p := ⟨w.heap.size, 0, none⟩) (Nat.le_refl _) (Value.slice (some { block := g'', off := 0 }) ((flat4 pre).length + p.length + 1) cap'')
        refine ⟨KeepsOthers.from ((((KeepsOthers.alloc W _).trans s2).trans t2).trans (KeepsOthers.setCell _ _ _)) _, ⟨hBf, (Below.heap_setCell _ _ _ _ (by show w.heap.size + 1 ≠ w.heap.size; omega)).trans (d2'.trans (d1'.trans (Below.heap_alloc _ _ _ hu.lt)))⟩, ⟨⟨_, b2.set _, ?_⟩, ⟨_, d2.other (by omega) _⟩, hB.trans hBf⟩⟩
        have hfin : flat4 (pre ++ [((some ad, c, p, false) : Pc)]) = flat4 pre ++ (((p.length : Int) - 1) :: p) := by rw [flat4_snoc]; rfl
        have e1 : (flat4 pre ++ (((p.length : Int) - 1) :: p)).length = (flat4 pre).length + 1 + p.length := by simp; omega
        have e2 : (flat4 pre ++ (((p.length : Int) - 1) :: p)).map (Value.int .u8) = (flat4 pre).map (Value.int .u8) ++ [.int .u8 ((p.length : Int) - 1)] ++ p.map (Value.int .u8) := by simp
        rw [hfin, e1, e2]
        exact hkept
      | true =>
        have g6' := g6 rfl
        have hel : (encP p true).length = 2 := by simp [encP]
        have hw64 : IntKind.i64.wrap ((p.length : Int) + 125) = (p.length : Int) + 125 := by simp [IntKind.wrap, IntKind.bits, IntKind.signed]; omega
        have hw8 : IntKind.u8.wrap ((p.length : Int) + 125) = (p.length : Int) + 125 := by rw [IntKind.wrap_u8]; omega
        have hmx : Try.prog.follows .mixedOrders = true := by kernel_rfl
        have hp0 : W.cell? ad = some (.int .u8 (rd p 0)) := by
          have := C_cells' (Kd.C_below g2 hB) (by omega) 0 (.int .u8 (rd p 0)) (by rw [List.getElem?_map, List.getElem?_eq_getElem (by omega)]; simp [rd, List.getElem?_eq_getElem (show 0 < p.length by omega)])
          simpa [Addr.add] using this
        obtain ⟨v1, w1, hrun, hown1, hgrow1, _⟩ := run_append_own (P := Try.prog) (W.drew.alloc (.cells #[.int .u8 ((p.length : Int) + 125), .int .u8 (rd p 0)] 5)) w.heap.size 22 22 5 i0 (.int .u8 0) 1 1 Try.underlying22 hi hz0 hz1 hz2 rfl (by decide) v _ _ (hrow.drew.alloc _) ⟨W.heap.size, 0, none⟩ 2 2 [.int .u8 ((p.length : Int) + 125), .int .u8 (rd p 0)] rfl (cell_two_new _ _ _ _) (by simp [Value.oneCell']) (by unfold maxLen; omega) (by omega) (by simp; omega)
        replace hrun : (Builtin.append_ #[22, 22] 22 #[v, .slice (some ⟨W.heap.size, 0, none⟩) 2 2]).run Try.prog (W.alloc (.cells #[.int .u8 ((p.length : Int) + 125), .int .u8 (rd p 0)] 5)).drew = .ok v1 w1 := hrun
        obtain ⟨g', cap', rfl⟩ := ownsRow_succ hown1
        obtain ⟨s1, s2, s3⟩ := row_step (hrow.drew.alloc _) hgrow1
        have hB1 := (Below.alloc (Below.drew (Below.refl w.heap.size W)) hsz (.cells #[.int .u8 ((p.length : Int) + 125), .int .u8 (rd p 0)] 5)).trans (s3 (by simp; omega))
        obtain ⟨b1, b1'⟩ := s1 _ _ _ (by decide) (Boxed.alloc (W := W.drew) hv _)
        obtain ⟨d1, d1'⟩ := s1 _ _ _ (by decide) (Boxed.alloc (W := W.drew) hu _)
        have hc2 := b1.cell
        have hf2 := b1.frozen
        have hcA : (W.alloc (.cells #[.int .u8 ((p.length : Int) + 125), .int .u8 (rd p 0)] 5)).cell? ⟨w.heap.size, 0, none⟩ = some v := (hv.alloc _).cell
        have hkept := hown1.kept (grownBy_setCell' w1 w.heap.size (Value.slice (some { block := g', off := 0 }) ((flat4 pre).length + 1 + 1) cap')) (.inr (b1.not_row (by decide) hown1).symm)
        have hBf := hB1.setCell (p := ⟨w.heap.size, 0, none⟩) (Nat.le_refl _) (Value.slice (some { block := g', off := 0 }) ((flat4 pre).length + 1 + 1) cap')
        have FIN : Aside0 (∀ Wf, Wf = w1.setCell ⟨w.heap.size, 0, none⟩ (Value.slice (some { block := g', off := 0 }) ((flat4 pre).length + 1 + 1) cap') → KeepsFrom (w.heap.size + 2) W Wf ∧ (Below w.heap.size W Wf ∧ Wf.heap[w.heap.size + 1]? = W.heap[w.heap.size + 1]?) ∧ (∃ v, Boxed Wf w.heap.size 22 v ∧ Wf.ownsRow w.heap.size 5 1 v (flat4 (pre ++ [((some ad, c, p, true) : Pc)])).length (List.map (Value.int .u8) (flat4 (pre ++ [((some ad, c, p, true) : Pc)])))) ∧ (∃ u, Boxed Wf (w.heap.size + 1) 22 u) ∧ Below w.heap.size w Wf) := by
          refine ⟨fun Wf hWf => ?_⟩
          subst hWf
          refine ⟨KeepsOthers.from ((((KeepsOthers.drew W).trans (KeepsOthers.alloc W.drew _)).trans s2).trans (KeepsOthers.setCell _ _ _)) _, ⟨hBf, (Below.heap_setCell _ _ _ _ (by show w.heap.size + 1 ≠ w.heap.size; omega)).trans (d1'.trans (Below.heap_alloc W.drew _ _ hu.lt))⟩, ⟨_, b1.set _, ?_⟩, ⟨_, d1.other (by omega) _⟩, hB.trans hBf⟩
          have hfin : flat4 (pre ++ [((some ad, c, p, true) : Pc)]) = flat4 pre ++ [(p.length : Int) + 125, rd p 0] := by rw [flat4_snoc]; rfl
          have e1 : (flat4 pre ++ [(p.length : Int) + 125, rd p 0]).length = (flat4 pre).length + 2 := by simp
          have e2 : (flat4 pre ++ [(p.length : Int) + 125, rd p 0]).map (Value.int .u8) = (flat4 pre).map (Value.int .u8) ++ [.int .u8 ((p.length : Int) + 125), .int .u8 (rd p 0)] := by simp
          rw [hfin, e1, e2]
          exact hkept
        have hlt0 : ad.block < W.heap.size := by
          by_cases hlt : ad.block < W.heap.size
          · exact hlt
          · simp [World.cell?, Array.getElem?_eq_none (show W.heap.size ≤ ad.block by omega)] at hp0
        clear hkept hBf b1 b1' d1 d1' hB1 s1 s2 s3 hown1 hgrow1 hrow hv hu hB g1 g2 g4 g5 g6 g7 hcs hfl hsz hel hpl hbo hbn hB0 hr0 hc0 hl hi hz0 hz1 hz2 g6'
        gi_wp2
        have hpos := eq_true (show 0 < p.length by omega)
        refine Rb.startIn_ (n := 11) (S := fun w1_ => w1_.cell? ⟨w.heap.size, 0, none⟩ = some v ∧ w1_.cell? ad = some (.int .u8 (rd p 0))) (ds := [9, 10]) #[false, false, false, false, false, false, false, false, false, false, false] hmx rfl rfl (Rb.simple_of (by kernel_rfl)) (by rintro ⟨a_, w_, h_⟩; exact h_) ⟨hc, hp0⟩ (fun hHeld => ?_)
        refine pure_ (i := 1) (N := some 16) (v := ?_) (a' := ?_) #[false, true, false, false, false, false, false, false, false, false, false] rfl rfl (by kernel_rfl) (fun _ _ _ h => h) (Or.inl ⟨by rfl, ?_⟩) ?_ ?_
        rotate_left
        · intro w2_
          go_simp
          with_reducible rfl
        rotate_left
        · simp only [Act.put, List.setIfInBounds_toArray, List.set_cons_zero, List.set_cons_succ]
          rfl
        refine pure_ (i := 2) (N := some 17) (v := ?_) (a' := ?_) #[false, true, true, false, false, false, false, false, false, false, false] rfl rfl (by kernel_rfl) (fun _ _ _ h => h) (Or.inl ⟨by rfl, ?_⟩) ?_ ?_
        rotate_left
        · intro w2_
          go_simp
          with_reducible rfl
        rotate_left
        · simp only [Act.put, List.setIfInBounds_toArray, List.set_cons_zero, List.set_cons_succ]
          rfl
        refine pure_ (i := 3) (N := some 18) (v := ?_) (a' := ?_) #[false, true, true, true, false, false, false, false, false, false, false] rfl rfl (by kernel_rfl) (fun _ _ _ h => h) (Or.inl ⟨by rfl, ?_⟩) ?_ ?_
        rotate_left
        · intro w2_
          go_simp
          with_reducible rfl
        rotate_left
        · simp only [Act.put, List.setIfInBounds_toArray, List.set_cons_zero, List.set_cons_succ]
          rfl
        refine pure_ (i := 4) (N := some 19) (v := ?_) (a' := ?_) #[false, true, true, true, true, false, false, false, false, false, false] rfl rfl (by kernel_rfl) (fun _ _ _ h => h) (Or.inl ⟨by rfl, ?_⟩) ?_ ?_
        rotate_left
        · intro w2_
          go_simp
          with_reducible rfl
        rotate_left
        · simp only [Act.put, List.setIfInBounds_toArray, List.set_cons_zero, List.set_cons_succ]
          rfl
        refine pure_ (i := 5) (N := some 20) (v := ?_) (a' := ?_) #[false, true, true, true, true, true, false, false, false, false, false] rfl rfl (by kernel_rfl) (fun _ _ _ h => h) (Or.inl ⟨by rfl, ?_⟩) ?_ ?_
        rotate_left
        · intro w2_
          go_simp
          with_reducible rfl
        rotate_left
        · simp only [Act.put, List.setIfInBounds_toArray, List.set_cons_zero, List.set_cons_succ]
          rfl
        refine pure_ (i := 6) (N := some 21) (v := ?_) (a' := ?_) #[false, true, true, true, true, true, true, false, false, false, false] rfl rfl (by kernel_rfl) (fun _ _ _ h => h) (Or.inl ⟨by rfl, ?_⟩) ?_ ?_
        rotate_left
        · intro w2_
          go_simp
          with_reducible rfl
        rotate_left
        · simp only [Act.put, List.setIfInBounds_toArray, List.set_cons_zero, List.set_cons_succ]
          rfl
        refine take_ (i := 7) (N := some 22) (v := ?_) (a' := ?_) #[false, true, true, true, true, true, true, true, false, false, false] rfl rfl (by kernel_rfl) (fun _ _ _ h => h) (Or.inl ⟨by rfl, ?_⟩) hHeld ?_ ?_
        rotate_left
        · rintro w2_ ⟨s0, s1⟩
          go_simp
          with_reducible rfl
        rotate_left
        · simp only [Act.put, List.setIfInBounds_toArray, List.set_cons_zero, List.set_cons_succ]
          rfl
        refine take_ (i := 0) (N := some 15) (v := ?_) (a' := ?_) #[true, true, true, true, true, true, true, true, false, false, false] rfl rfl (by kernel_rfl) (fun _ _ _ h => h) (Or.inl ⟨by rfl, ?_⟩) hHeld ?_ ?_
        rotate_left
        · rintro w2_ ⟨s0, s1⟩
          go_simp
          with_reducible rfl
        rotate_left
        · simp only [Act.put, List.setIfInBounds_toArray, List.set_cons_zero, List.set_cons_succ]
          rfl
        refine one_ (i := 8) (N := some 23) #[true, true, true, true, true, true, true, true, true, false, false] rfl rfl (by kernel_rfl) (by decide) (fun K hK => ?_)
        refine value_ (v := .slice (some ⟨W.heap.size, 0, none⟩) 2 2) (w1 := (W.alloc (.cells #[.int .u8 ((p.length : Int) + 125), .int .u8 (rd p 0)] 5)).drew) (by rfl) rfl ?_ ?_
        · go_simp
          first | done | rfl
        refine hK.out _ _ ⟨hcA, (World.cell?_of_block (Below.heap_alloc W _ _ (by have := hlt0; exact this))).trans hp0⟩ (fun hHeld => ?_)
        clear hK K
        refine norm_ (a' := ?_) ?_ ?_
        rotate_left
        · show Act.put _ (some 23) _ = _
          simp only [Act.put, List.setIfInBounds_toArray, List.set_cons_zero, List.set_cons_succ]
          rfl
        refine last_ (i := 9) (N := some 24) #[true, true, true, true, true, true, true, true, true, true, false] rfl rfl (by kernel_rfl) (by decide) (fun K hK => ?_)
        refine value_ (v := .slice (some ⟨g', 0, none⟩) ((flat4 pre).length + 2) cap') (w1 := w1) (by rfl) rfl ?_ ?_
        · exact run_append_ev rfl rfl rfl hrun
        refine hK.out _ _ ?_
        clear hK K
        refine norm_ (a' := ?_) ?_ ?_
        rotate_left
        · show Act.put _ (some 24) _ = _
          simp only [Act.put, List.setIfInBounds_toArray, List.set_cons_zero, List.set_cons_succ]
          rfl
        refine last_ (i := 10) (N := none) #[true, true, true, true, true, true, true, true, true, true, true] rfl rfl (by kernel_rfl) (by decide) (fun K hK => ?_)
        refine skip_ (w1 := ?_) (by rfl) rfl ?_ ?_
        rotate_left
        · go_simp
          rfl
        refine hK.out _ _ ?_
        clear hK K
        refine done_ (by kernel_rfl) ?_
        obtain ⟨f1, f2, ⟨v', f3, f4⟩, f5, f6⟩ := FIN.out _ rfl
        rw [← hs0] at f1
        exact And.intro f1 (And.intro f2 (And.intro ⟨v', f3, f4, trivial⟩ (And.intro f5 f6)))
end

end Go.Proofs.Ytdgdpeibagcnpaa.M
