-- Written by a program of this session (wip/patch_print.py over the kit's print); Lean checks it.
import Derived.Test.YtdgdpeibagcnpaaMx0
import Derived.Test.YtdgdpeibagcnpaaMx1
import Derived.Test.YtdgdpeibagcnpaaMx2
namespace Go.Proofs.Ytdgdpeibagcnpaa.M
open Go.RowKit Go.Proofs.YtdgdpeibagcnpaaW.PrintWords Go.Proofs.YtdgdpeibagcnpaaW.PrintLast Go.Proofs.YtdgdpeibagcnpaaW.PrintMore
attribute [local go_sem] max2_int min2_int max_two min_two max_three min_three max_four min_four   -- for this text's walks alone
set_option linter.unusedVariables false
set_option linter.unusedSimpArgs false

/-! ### RlePacks: function 3 -/
def RlePacks.j0 : Nat → List Int → Int → List Int → Int → Int → Bool → Option (Bool)
  | 0, _, _, _, _, _, _ => none
  | k + 1, x0, x1, x5, x6, x7, x23 => if x23 = true then (if (Int.tmod x1 128) > 0 then (if x6 = 0 then ((ref46_Pack.f k x0).bind fun t156 => ((ref01_Same.f k x5 t156).bind fun t159 => (if t159 = true then ((Most.f x1).bind fun t160 => (some (t160 == (wrap64 ((wrap64 (x1 + (wrap64 (Int.tdiv x1 128)))) + 1))))) else (some false)))) else (some false)) else (if x6 = 0 then ((ref46_Pack.f k x0).bind fun t161 => ((ref01_Same.f k x5 t161).bind fun t164 => (if t164 = true then ((Most.f x1).bind fun t165 => (some (t165 == (wrap64 (x1 + (wrap64 (Int.tdiv x1 128))))))) else (some false)))) else (some false))) else (if x6 = 0 then ((ref46_Pack.f k x0).bind fun t166 => ((ref01_Same.f k x5 t166).bind fun t169 => (if t169 = true then ((Most.f x1).bind fun t170 => (some (t170 == x7))) else (some false)))) else (some false))
def RlePacks.f (k : Nat) (l0 : List Int) (a1 : Int) : Option (Bool) := (awake.f k).bind fun t151 => (if t151 = true then (if (l0.length : Int) > 1000 then (some true) else ((Pack.f l0).bind fun bt152 => (if a1 ≥ 0 then (RlePacks.j0 k l0 a1 bt152.1 bt152.2 0 (decide (a1 ≤ 65536))) else (RlePacks.j0 k l0 a1 bt152.1 bt152.2 0 false)))) else (some false))
theorem RlePacks.mono_l : ∀ k, (∀ y0 y1 y2 y3 y4 y5, LeO (RlePacks.j0 k y0 y1 y2 y3 y4 y5) (RlePacks.j0 (k + 1) y0 y1 y2 y3 y4 y5))
  | 0 => fun _ _ _ _ _ _ r h => by simp [RlePacks.j0] at h
  | k + 1 => by
    have ih0 := RlePacks.mono_l k
    · intro y0 y1 y2 y3 y4 y5
      unfold RlePacks.j0
      repeat' first
      | (with_reducible exact ih0 _ _ _ _ _ _)
      | (with_reducible exact awake.mono _)
      | (with_reducible exact ref01_Same.mono _ _ _)
      | (with_reducible exact ref46_Pack.mono _ _)
      | (with_reducible exact LeO.refl _)
      | (with_reducible exact LeO.none _)
      | (with_reducible refine LeO.ite ?_ ?_)
      | (with_reducible refine LeO.bind ?_ (fun _ => ?_))
      | exact ih0 _ _ _ _ _ _
      | exact awake.mono _
      | exact ref01_Same.mono _ _ _
      | exact ref46_Pack.mono _ _
      | exact LeO.none _
      | refine LeO.ite ?_ ?_
      | refine LeO.bind ?_ (fun _ => ?_)
theorem RlePacks.mono : ∀ a0 a1 k, LeO (RlePacks.f k a0 a1) (RlePacks.f (k + 1) a0 a1) := by
  intro a0 a1 k
  have ih0 := RlePacks.mono_l k
  unfold RlePacks.f
  repeat' first
      | (with_reducible exact ih0 _ _ _ _ _ _)
      | (with_reducible exact awake.mono _)
      | (with_reducible exact ref01_Same.mono _ _ _)
      | (with_reducible exact ref46_Pack.mono _ _)
      | (with_reducible exact LeO.refl _)
      | (with_reducible exact LeO.none _)
      | (with_reducible refine LeO.ite ?_ ?_)
      | (with_reducible refine LeO.bind ?_ (fun _ => ?_))
      | exact ih0 _ _ _ _ _ _
      | exact awake.mono _
      | exact ref01_Same.mono _ _ _
      | exact ref46_Pack.mono _ _
      | exact LeO.none _
      | refine LeO.ite ?_ ?_
      | refine LeO.bind ?_ (fun _ => ?_)
set_option maxHeartbeats 8000000 in
set_option maxRecDepth 100000 in
theorem RlePacks.calls (k : Nat) (A0 : Option Addr) (c0 : Nat) (l0 : List Int) (a1 : Int) (r : Bool) (w : World) (hr0 : Kd.C (Kd.int .u8) w A0 l0.length l0) (hc0 : l0.length ≤ c0) (h : RlePacks.f k l0 a1 = some r) :
    Calls Try.prog 3 #[.slice A0 l0.length c0, .int .i64 a1] w fun e w' => e = .returned (.bool r) ∧ Below w.heap.size w w' := by
  have HR0 := Aside0.mk hr0
  have HC0 := Aside0.mk hc0
  clear hr0 hc0
  have HB := Aside0.mk (Below.refl w.heap.size w)
  have H : ((awake.f k).bind fun t151 => (if t151 = true then (if (l0.length : Int) > 1000 then (some true) else ((Pack.f l0).bind fun bt152 => (if a1 ≥ 0 then (RlePacks.j0 k l0 a1 bt152.1 bt152.2 0 (decide (a1 ≤ 65536))) else (RlePacks.j0 k l0 a1 bt152.1 bt152.2 0 false)))) else (some false))) = some r := h
  clear h
  replace H := Option.bind_eq_some_iff.mp H
  obtain ⟨t151, A30, H⟩ := H
  replace H : (if t151 = true then (if (l0.length : Int) > 1000 then (some true) else ((Pack.f l0).bind fun bt152 => (if a1 ≥ 0 then (RlePacks.j0 k l0 a1 bt152.1 bt152.2 0 (decide (a1 ≤ 65536))) else (RlePacks.j0 k l0 a1 bt152.1 bt152.2 0 false)))) else (some false)) = some r := H
  have A3 := Aside0.mk A30
  clear A30
  by_cases c4 : t151 = true
  · subst c4
    have H1 : (if (l0.length : Int) > 1000 then (some true) else ((Pack.f l0).bind fun bt152 => (if a1 ≥ 0 then (RlePacks.j0 k l0 a1 bt152.1 bt152.2 0 (decide (a1 ≤ 65536))) else (RlePacks.j0 k l0 a1 bt152.1 bt152.2 0 false)))) = some r := by rw [if_pos rfl] at H; exact H
    clear H
    have H := H1
    clear H1
    by_cases c5 : (l0.length : Int) > 1000
    · rw [if_pos c5] at H
      have c5b0 : decide (1000 < (l0.length : Int)) = true := decide_eq_true c5
      have c5b1 : decide (1000 < l0.length) = true := decide_eq_true (by omega)
      clear c5
      obtain rfl := Option.some.inj H
      go_enter Try.func3, Try.ntmps3
      go_wp2_with (first | ((with_reducible refine gate_callee (f := 6) rfl ?_); refine goesL_ (some 8) rfl rfl Try.func6 (by kernel_rfl) rfl #[] rfl (by (try simp only [List.map_toArray, List.map_cons, List.map_nil]); first | done | rfl | (simp only [List.length_drop, List.length_take]; rfl)) ?_; (with_reducible refine (awake.calls k  true _ A3.out).mono ?_); rintro e w6 ⟨rfl, hb⟩; refine ⟨_, rfl, ?_⟩; have n0_ := Aside0.mk (below_step (by repeat (first | (with_reducible first | exact HB.out | apply below_alloc | apply pw_below_drewN | apply below_drew1) | exact HB.out)) hb); clear HB; have HB := n0_; clear n0_; (try clear hb); (try clear hb2); (try clear hk); (try clear hi)))
      go_ret
      exact ⟨by first | rfl | (simp [errW_none, errW_some] <;> rfl) | (simp [*, errW_none, errW_some] <;> rfl), by repeat (first | (with_reducible first | exact HB.out | apply below_alloc | apply pw_below_drewN | apply below_drew1) | exact HB.out)⟩
    · rw [if_neg c5] at H
      have c5b0 : decide (1000 < (l0.length : Int)) = false := decide_eq_false c5
      have c5b1 : decide (1000 < l0.length) = false := decide_eq_false (by omega)
      clear c5
      replace H := Option.bind_eq_some_iff.mp H
      obtain ⟨⟨t152, t153⟩, A70, H⟩ := H
      replace H : (if a1 ≥ 0 then (RlePacks.j0 k l0 a1 t152 t153 0 (decide (a1 ≤ 65536))) else (RlePacks.j0 k l0 a1 t152 t153 0 false)) = some r := H
      have A7 := Aside0.mk A70
      clear A70
      have HC8 := Aside0.mk H
      clear H
      go_enter Try.func3, Try.ntmps3
      go_upto_region 7 with (first | ((with_reducible refine gate_callee (f := 6) rfl ?_); refine goesL_ (some 8) rfl rfl Try.func6 (by kernel_rfl) rfl #[] rfl (by (try simp only [List.map_toArray, List.map_cons, List.map_nil]); first | done | rfl | (simp only [List.length_drop, List.length_take]; rfl)) ?_; (with_reducible refine (awake.calls k  true _ A3.out).mono ?_); rintro e w9 ⟨rfl, hb⟩; refine ⟨_, rfl, ?_⟩; have n0_ := Aside0.mk (below_step (by repeat (first | (with_reducible first | exact HB.out | apply below_alloc | apply pw_below_drewN | apply below_drew1) | exact HB.out)) hb); clear HB; have HB := n0_; clear n0_; (try clear hb); (try clear hb2); (try clear hk); (try clear hi)) | ((with_reducible refine gate_callee (f := 7) rfl ?_); refine goesL_ (some 15) rfl rfl Try.func7 (by kernel_rfl) rfl #[.slice A0 l0.length c0] rfl (by (try simp only [List.map_toArray, List.map_cons, List.map_nil]); first | done | rfl | (simp only [List.length_drop, List.length_take]; rfl)) ?_; (with_reducible refine (Pack.calls _ _ l0 t152 t153 _ ?side1 ?side2 A7.out).mono ?_); (case side1 => repeat (first | exact (Kd.C_below HR0.out HB.out) | (with_reducible refine Kd.C_alloc ?_ _) | (with_reducible refine Kd.C_drewN ?_ _) | (with_reducible refine Kd.C_drew ?_))); (case side2 => exact HC0.out); rintro e w10 ⟨v154, rfl, ho0, hb⟩; refine ⟨_, rfl, ?_⟩; have n0_ := Aside0.mk (Kd.R_lower ho0 (below_size (by repeat (first | (with_reducible first | exact HB.out | apply below_alloc | apply pw_below_drewN | apply below_drew1) | exact HB.out)))); have n1_ := Aside0.mk (below_step (by repeat (first | (with_reducible first | exact HB.out | apply below_alloc | apply pw_below_drewN | apply below_drew1) | exact HB.out)) hb); clear HB; have HO155 := n0_; have HB := n1_; clear n0_ n1_; (try clear hb); (try clear hb2); (try clear hk); (try clear hi); (try clear ho0)))
      (try simp only [Act.put, List.setIfInBounds_toArray, List.set_cons_zero, List.set_cons_succ])
      go_cut [23] (fun v23 wc => ∃ (kq : Nat) (x23_7 : Bool), v23 = .bool x23_7 ∧ Aside0 (RlePacks.j0 kq l0 a1 t152 t153 0 x23_7 = some r) ∧ Aside0 (kq ≤ k) ∧ Aside0 (Kd.R (Kd.int .u8) 5 wc w.heap.size (fun _ => True) v154 t152) ∧ Aside0 (Below w.heap.size w wc))
      case first =>
        have H := HC8.out
        clear HC8
        by_cases c11 : a1 ≥ 0
        · rw [if_pos c11] at H
          have c11b0 : decide (0 ≤ a1) = true := decide_eq_true c11
          clear c11
          (first | rw [c11b0] | (simp only [i64_w, i32_w]; rw [c11b0]) | skip)
          have H' := Aside0.mk H
          clear H
          go_wp2
          go_meet
          case rel => exact ⟨_, (decide (a1 ≤ 65536)), (by first | rfl | (simp; done) | (simp [*]; done)), H', ⟨by first | omega | exact Nat.le_refl _⟩, ⟨by (with_reducible repeat (first | apply Kd.R_alloc | apply Kd.R_drewN | apply Kd.R_drew)); exact HO155.out⟩, ⟨by repeat (first | (with_reducible first | exact HB.out | apply below_alloc | apply pw_below_drewN | apply below_drew1) | exact HB.out)⟩⟩
        · rw [if_neg c11] at H
          have c11b0 : decide (0 ≤ a1) = false := decide_eq_false c11
          clear c11
          (first | rw [c11b0] | (simp only [i64_w, i32_w]; rw [c11b0]) | skip)
          have H' := Aside0.mk H
          clear H
          go_wp2
          go_meet
          case rel => exact ⟨_, (false), (by first | rfl | (simp; done) | (simp [*]; done)), H', ⟨by first | omega | exact Nat.le_refl _⟩, ⟨by (with_reducible repeat (first | apply Kd.R_alloc | apply Kd.R_drewN | apply Kd.R_drew)); exact HO155.out⟩, ⟨by repeat (first | (with_reducible first | exact HB.out | apply below_alloc | apply pw_below_drewN | apply below_drew1) | exact HB.out)⟩⟩
      case rest =>
        clear HC8
        try clear c1
        try clear p2
        try clear c3
        try clear c4
        try clear c5
        try clear c5b0
        try clear c5b1
        try clear c6
        try clear c7
        try clear c11
        try clear c11b0
        obtain ⟨kq, x23_7, rfl, HA, HJ7, HO_5, HB⟩ := hcut
        cases kq with
        | zero => exact absurd HA.out (by simp [RlePacks.j0])
        | succ kj7 =>
          have H := HA.out
          clear HA
          simp only [RlePacks.j0] at H
          by_cases c12 : x23_7 = true
          · subst c12
            have H1 : (if (Int.tmod a1 128) > 0 then (if t153 = 0 then ((ref46_Pack.f kj7 l0).bind fun t156 => ((ref01_Same.f kj7 t152 t156).bind fun t159 => (if t159 = true then ((Most.f a1).bind fun t160 => (some (t160 == (wrap64 ((wrap64 (a1 + (wrap64 (Int.tdiv a1 128)))) + 1))))) else (some false)))) else (some false)) else (if t153 = 0 then ((ref46_Pack.f kj7 l0).bind fun t161 => ((ref01_Same.f kj7 t152 t161).bind fun t164 => (if t164 = true then ((Most.f a1).bind fun t165 => (some (t165 == (wrap64 (a1 + (wrap64 (Int.tdiv a1 128))))))) else (some false)))) else (some false))) = some r := by rw [if_pos rfl] at H; exact H
            clear H
            have H := H1
            clear H1
            by_cases c13 : (Int.tmod a1 128) > 0
            · rw [if_pos c13] at H
              have c13b0 : decide (0 < (Int.tmod a1 128)) = true := decide_eq_true c13
              clear c13
              by_cases c14 : t153 = 0
              · rw [if_pos c14] at H
                have c14b0 : (t153 == 0) = true := beq_iff_eq.mpr c14
                have c14b1 : (t153 != 0) = false := bne_eq_false_iff_eq.mpr c14
                clear c14
                replace H := Option.bind_eq_some_iff.mp H
                obtain ⟨t156, A150, H⟩ := H
                replace H : ((ref01_Same.f kj7 t152 t156).bind fun t159 => (if t159 = true then ((Most.f a1).bind fun t160 => (some (t160 == (wrap64 ((wrap64 (a1 + (wrap64 (Int.tdiv a1 128)))) + 1))))) else (some false))) = some r := H
                have A15 := Aside0.mk A150
                clear A150
                replace H := Option.bind_eq_some_iff.mp H
                obtain ⟨t159, A160, H⟩ := H
                replace H : (if t159 = true then ((Most.f a1).bind fun t160 => (some (t160 == (wrap64 ((wrap64 (a1 + (wrap64 (Int.tdiv a1 128)))) + 1))))) else (some false)) = some r := H
                have A16 := Aside0.mk A160
                clear A160
                by_cases c17 : t159 = true
                · subst c17
                  have H1 : ((Most.f a1).bind fun t160 => (some (t160 == (wrap64 ((wrap64 (a1 + (wrap64 (Int.tdiv a1 128)))) + 1))))) = some r := by rw [if_pos rfl] at H; exact H
                  clear H
                  have H := H1
                  clear H1
                  replace H := Option.bind_eq_some_iff.mp H
                  obtain ⟨t160, A180, H⟩ := H
                  replace H : (some (t160 == (wrap64 ((wrap64 (a1 + (wrap64 (Int.tdiv a1 128)))) + 1)))) = some r := H
                  have A18 := Aside0.mk A180
                  clear A180
                  obtain rfl := Option.some.inj H
                  go_wp2_with (first | (go_at_call 9; (with_reducible refine (ref46_Pack.calls kj7 _ _ l0 t156 _ ?side1 ?side2 A15.out).mono ?_); (case side1 => repeat (first | exact (Kd.C_below HR0.out HB.out) | (with_reducible refine Kd.C_alloc ?_ _) | (with_reducible refine Kd.C_drewN ?_ _) | (with_reducible refine Kd.C_drew ?_))); (case side2 => exact HC0.out); rintro e w19 ⟨v157, rfl, ho0, hb⟩; have n0_ := Aside0.mk (Kd.R_elder' (by (with_reducible repeat (first | apply Kd.R_alloc | apply Kd.R_drewN | apply Kd.R_drew)); exact HO_5.out) (Kd.R_base ho0) hb); have n1_ := Aside0.mk (Kd.R_lower (Kd.R_new' ho0 (Kd.R_lt (by (with_reducible repeat (first | apply Kd.R_alloc | apply Kd.R_drewN | apply Kd.R_drew)); exact HO_5.out))) (below_size (by repeat (first | (with_reducible first | exact HB.out | apply below_alloc | apply pw_below_drewN | apply below_drew1) | exact HB.out)))); have n2_ := Aside0.mk (below_step (by repeat (first | (with_reducible first | exact HB.out | apply below_alloc | apply pw_below_drewN | apply below_drew1) | exact HB.out)) hb); clear HO_5; clear HB; have HO_5 := n0_; have HO158 := n1_; have HB := n2_; clear n0_ n1_ n2_; (try clear hb); (try clear hb2); (try clear hk); (try clear hi); (try clear ho0); obtain ⟨Ao20, co20, eo20⟩ := Kd.R_slice HO_5.out; subst eo20; obtain ⟨Ao21, co21, eo21⟩ := Kd.R_slice HO158.out; subst eo21) | (go_at_call 8; (with_reducible refine (ref01_Same.calls kj7 _ _ t152 _ _ t156 true _ ?side1 ?side2 ?side3 ?side4 A16.out).mono ?_); (case side1 => repeat (first | exact (Kd.R_reads' HO_5.out).2.2 | (with_reducible refine Kd.C_alloc ?_ _) | (with_reducible refine Kd.C_drewN ?_ _) | (with_reducible refine Kd.C_drew ?_))); (case side2 => exact (Kd.R_reads' HO_5.out).2.1); (case side3 => repeat (first | exact (Kd.R_reads' HO158.out).2.2 | (with_reducible refine Kd.C_alloc ?_ _) | (with_reducible refine Kd.C_drewN ?_ _) | (with_reducible refine Kd.C_drew ?_))); (case side4 => exact (Kd.R_reads' HO158.out).2.1); rintro e w' ⟨rfl, ⟨nd, rfl⟩⟩) | (go_at_call 10; (with_reducible refine (Most.calls a1 t160 _ A18.out).mono ?_); rintro e w' ⟨rfl, ⟨nd, rfl⟩⟩))
                  go_ret
                  exact ⟨by first | rfl | (simp [errW_none, errW_some] <;> rfl) | (simp [*, errW_none, errW_some] <;> rfl), by repeat (first | (with_reducible first | exact HB.out | apply below_alloc | apply pw_below_drewN | apply below_drew1) | exact HB.out)⟩
                · replace c17 := Bool.eq_false_iff.mpr c17
                  subst c17
                  have H1 : (some false) = some r := by rw [if_neg (show ¬ (false = true) by decide)] at H; exact H
                  clear H
                  have H := H1
                  clear H1
                  obtain rfl := Option.some.inj H
                  go_wp2_with (first | (go_at_call 9; (with_reducible refine (ref46_Pack.calls kj7 _ _ l0 t156 _ ?side1 ?side2 A15.out).mono ?_); (case side1 => repeat (first | exact (Kd.C_below HR0.out HB.out) | (with_reducible refine Kd.C_alloc ?_ _) | (with_reducible refine Kd.C_drewN ?_ _) | (with_reducible refine Kd.C_drew ?_))); (case side2 => exact HC0.out); rintro e w22 ⟨v157, rfl, ho0, hb⟩; have n0_ := Aside0.mk (Kd.R_elder' (by (with_reducible repeat (first | apply Kd.R_alloc | apply Kd.R_drewN | apply Kd.R_drew)); exact HO_5.out) (Kd.R_base ho0) hb); have n1_ := Aside0.mk (Kd.R_lower (Kd.R_new' ho0 (Kd.R_lt (by (with_reducible repeat (first | apply Kd.R_alloc | apply Kd.R_drewN | apply Kd.R_drew)); exact HO_5.out))) (below_size (by repeat (first | (with_reducible first | exact HB.out | apply below_alloc | apply pw_below_drewN | apply below_drew1) | exact HB.out)))); have n2_ := Aside0.mk (below_step (by repeat (first | (with_reducible first | exact HB.out | apply below_alloc | apply pw_below_drewN | apply below_drew1) | exact HB.out)) hb); clear HO_5; clear HB; have HO_5 := n0_; have HO158 := n1_; have HB := n2_; clear n0_ n1_ n2_; (try clear hb); (try clear hb2); (try clear hk); (try clear hi); (try clear ho0); obtain ⟨Ao23, co23, eo23⟩ := Kd.R_slice HO_5.out; subst eo23; obtain ⟨Ao24, co24, eo24⟩ := Kd.R_slice HO158.out; subst eo24) | (go_at_call 8; (with_reducible refine (ref01_Same.calls kj7 _ _ t152 _ _ t156 false _ ?side1 ?side2 ?side3 ?side4 A16.out).mono ?_); (case side1 => repeat (first | exact (Kd.R_reads' HO_5.out).2.2 | (with_reducible refine Kd.C_alloc ?_ _) | (with_reducible refine Kd.C_drewN ?_ _) | (with_reducible refine Kd.C_drew ?_))); (case side2 => exact (Kd.R_reads' HO_5.out).2.1); (case side3 => repeat (first | exact (Kd.R_reads' HO158.out).2.2 | (with_reducible refine Kd.C_alloc ?_ _) | (with_reducible refine Kd.C_drewN ?_ _) | (with_reducible refine Kd.C_drew ?_))); (case side4 => exact (Kd.R_reads' HO158.out).2.1); rintro e w' ⟨rfl, ⟨nd, rfl⟩⟩))
                  go_ret
                  exact ⟨by first | rfl | (simp [errW_none, errW_some] <;> rfl) | (simp [*, errW_none, errW_some] <;> rfl), by repeat (first | (with_reducible first | exact HB.out | apply below_alloc | apply pw_below_drewN | apply below_drew1) | exact HB.out)⟩
              · rw [if_neg c14] at H
                have c14b0 : (t153 == 0) = false := beq_eq_false_iff_ne.mpr c14
                have c14b1 : (t153 != 0) = true := bne_iff_ne.mpr c14
                obtain rfl := Option.some.inj H
                go_wp2
                go_ret
                exact ⟨by first | rfl | (simp [errW_none, errW_some] <;> rfl) | (simp [*, errW_none, errW_some] <;> rfl), by repeat (first | (with_reducible first | exact HB.out | apply below_alloc | apply pw_below_drewN | apply below_drew1) | exact HB.out)⟩
            · rw [if_neg c13] at H
              have c13b0 : decide (0 < (Int.tmod a1 128)) = false := decide_eq_false c13
              clear c13
              by_cases c25 : t153 = 0
              · rw [if_pos c25] at H
                have c25b0 : (t153 == 0) = true := beq_iff_eq.mpr c25
                have c25b1 : (t153 != 0) = false := bne_eq_false_iff_eq.mpr c25
                clear c25
                replace H := Option.bind_eq_some_iff.mp H
                obtain ⟨t161, A260, H⟩ := H
                replace H : ((ref01_Same.f kj7 t152 t161).bind fun t164 => (if t164 = true then ((Most.f a1).bind fun t165 => (some (t165 == (wrap64 (a1 + (wrap64 (Int.tdiv a1 128))))))) else (some false))) = some r := H
                have A26 := Aside0.mk A260
                clear A260
                replace H := Option.bind_eq_some_iff.mp H
                obtain ⟨t164, A270, H⟩ := H
                replace H : (if t164 = true then ((Most.f a1).bind fun t165 => (some (t165 == (wrap64 (a1 + (wrap64 (Int.tdiv a1 128))))))) else (some false)) = some r := H
                have A27 := Aside0.mk A270
                clear A270
                by_cases c28 : t164 = true
                · subst c28
                  have H1 : ((Most.f a1).bind fun t165 => (some (t165 == (wrap64 (a1 + (wrap64 (Int.tdiv a1 128))))))) = some r := by rw [if_pos rfl] at H; exact H
                  clear H
                  have H := H1
                  clear H1
                  replace H := Option.bind_eq_some_iff.mp H
                  obtain ⟨t165, A290, H⟩ := H
                  replace H : (some (t165 == (wrap64 (a1 + (wrap64 (Int.tdiv a1 128)))))) = some r := H
                  have A29 := Aside0.mk A290
                  clear A290
                  obtain rfl := Option.some.inj H
                  go_wp2_with (first | (go_at_call 9; (with_reducible refine (ref46_Pack.calls kj7 _ _ l0 t161 _ ?side1 ?side2 A26.out).mono ?_); (case side1 => repeat (first | exact (Kd.C_below HR0.out HB.out) | (with_reducible refine Kd.C_alloc ?_ _) | (with_reducible refine Kd.C_drewN ?_ _) | (with_reducible refine Kd.C_drew ?_))); (case side2 => exact HC0.out); rintro e w30 ⟨v162, rfl, ho0, hb⟩; have n0_ := Aside0.mk (Kd.R_elder' (by (with_reducible repeat (first | apply Kd.R_alloc | apply Kd.R_drewN | apply Kd.R_drew)); exact HO_5.out) (Kd.R_base ho0) hb); have n1_ := Aside0.mk (Kd.R_lower (Kd.R_new' ho0 (Kd.R_lt (by (with_reducible repeat (first | apply Kd.R_alloc | apply Kd.R_drewN | apply Kd.R_drew)); exact HO_5.out))) (below_size (by repeat (first | (with_reducible first | exact HB.out | apply below_alloc | apply pw_below_drewN | apply below_drew1) | exact HB.out)))); have n2_ := Aside0.mk (below_step (by repeat (first | (with_reducible first | exact HB.out | apply below_alloc | apply pw_below_drewN | apply below_drew1) | exact HB.out)) hb); clear HO_5; clear HB; have HO_5 := n0_; have HO163 := n1_; have HB := n2_; clear n0_ n1_ n2_; (try clear hb); (try clear hb2); (try clear hk); (try clear hi); (try clear ho0); obtain ⟨Ao31, co31, eo31⟩ := Kd.R_slice HO_5.out; subst eo31; obtain ⟨Ao32, co32, eo32⟩ := Kd.R_slice HO163.out; subst eo32) | (go_at_call 8; (with_reducible refine (ref01_Same.calls kj7 _ _ t152 _ _ t161 true _ ?side1 ?side2 ?side3 ?side4 A27.out).mono ?_); (case side1 => repeat (first | exact (Kd.R_reads' HO_5.out).2.2 | (with_reducible refine Kd.C_alloc ?_ _) | (with_reducible refine Kd.C_drewN ?_ _) | (with_reducible refine Kd.C_drew ?_))); (case side2 => exact (Kd.R_reads' HO_5.out).2.1); (case side3 => repeat (first | exact (Kd.R_reads' HO163.out).2.2 | (with_reducible refine Kd.C_alloc ?_ _) | (with_reducible refine Kd.C_drewN ?_ _) | (with_reducible refine Kd.C_drew ?_))); (case side4 => exact (Kd.R_reads' HO163.out).2.1); rintro e w' ⟨rfl, ⟨nd, rfl⟩⟩) | (go_at_call 10; (with_reducible refine (Most.calls a1 t165 _ A29.out).mono ?_); rintro e w' ⟨rfl, ⟨nd, rfl⟩⟩))
                  go_ret
                  exact ⟨by first | rfl | (simp [errW_none, errW_some] <;> rfl) | (simp [*, errW_none, errW_some] <;> rfl), by repeat (first | (with_reducible first | exact HB.out | apply below_alloc | apply pw_below_drewN | apply below_drew1) | exact HB.out)⟩
                · replace c28 := Bool.eq_false_iff.mpr c28
                  subst c28
                  have H1 : (some false) = some r := by rw [if_neg (show ¬ (false = true) by decide)] at H; exact H
                  clear H
                  have H := H1
                  clear H1
                  obtain rfl := Option.some.inj H
                  go_wp2_with (first | (go_at_call 9; (with_reducible refine (ref46_Pack.calls kj7 _ _ l0 t161 _ ?side1 ?side2 A26.out).mono ?_); (case side1 => repeat (first | exact (Kd.C_below HR0.out HB.out) | (with_reducible refine Kd.C_alloc ?_ _) | (with_reducible refine Kd.C_drewN ?_ _) | (with_reducible refine Kd.C_drew ?_))); (case side2 => exact HC0.out); rintro e w33 ⟨v162, rfl, ho0, hb⟩; have n0_ := Aside0.mk (Kd.R_elder' (by (with_reducible repeat (first | apply Kd.R_alloc | apply Kd.R_drewN | apply Kd.R_drew)); exact HO_5.out) (Kd.R_base ho0) hb); have n1_ := Aside0.mk (Kd.R_lower (Kd.R_new' ho0 (Kd.R_lt (by (with_reducible repeat (first | apply Kd.R_alloc | apply Kd.R_drewN | apply Kd.R_drew)); exact HO_5.out))) (below_size (by repeat (first | (with_reducible first | exact HB.out | apply below_alloc | apply pw_below_drewN | apply below_drew1) | exact HB.out)))); have n2_ := Aside0.mk (below_step (by repeat (first | (with_reducible first | exact HB.out | apply below_alloc | apply pw_below_drewN | apply below_drew1) | exact HB.out)) hb); clear HO_5; clear HB; have HO_5 := n0_; have HO163 := n1_; have HB := n2_; clear n0_ n1_ n2_; (try clear hb); (try clear hb2); (try clear hk); (try clear hi); (try clear ho0); obtain ⟨Ao34, co34, eo34⟩ := Kd.R_slice HO_5.out; subst eo34; obtain ⟨Ao35, co35, eo35⟩ := Kd.R_slice HO163.out; subst eo35) | (go_at_call 8; (with_reducible refine (ref01_Same.calls kj7 _ _ t152 _ _ t161 false _ ?side1 ?side2 ?side3 ?side4 A27.out).mono ?_); (case side1 => repeat (first | exact (Kd.R_reads' HO_5.out).2.2 | (with_reducible refine Kd.C_alloc ?_ _) | (with_reducible refine Kd.C_drewN ?_ _) | (with_reducible refine Kd.C_drew ?_))); (case side2 => exact (Kd.R_reads' HO_5.out).2.1); (case side3 => repeat (first | exact (Kd.R_reads' HO163.out).2.2 | (with_reducible refine Kd.C_alloc ?_ _) | (with_reducible refine Kd.C_drewN ?_ _) | (with_reducible refine Kd.C_drew ?_))); (case side4 => exact (Kd.R_reads' HO163.out).2.1); rintro e w' ⟨rfl, ⟨nd, rfl⟩⟩))
                  go_ret
                  exact ⟨by first | rfl | (simp [errW_none, errW_some] <;> rfl) | (simp [*, errW_none, errW_some] <;> rfl), by repeat (first | (with_reducible first | exact HB.out | apply below_alloc | apply pw_below_drewN | apply below_drew1) | exact HB.out)⟩
              · rw [if_neg c25] at H
                have c25b0 : (t153 == 0) = false := beq_eq_false_iff_ne.mpr c25
                have c25b1 : (t153 != 0) = true := bne_iff_ne.mpr c25
                obtain rfl := Option.some.inj H
                go_wp2
                go_ret
                exact ⟨by first | rfl | (simp [errW_none, errW_some] <;> rfl) | (simp [*, errW_none, errW_some] <;> rfl), by repeat (first | (with_reducible first | exact HB.out | apply below_alloc | apply pw_below_drewN | apply below_drew1) | exact HB.out)⟩
          · replace c12 := Bool.eq_false_iff.mpr c12
            subst c12
            have H1 : (if t153 = 0 then ((ref46_Pack.f kj7 l0).bind fun t166 => ((ref01_Same.f kj7 t152 t166).bind fun t169 => (if t169 = true then ((Most.f a1).bind fun t170 => (some (t170 == 0))) else (some false)))) else (some false)) = some r := by rw [if_neg (show ¬ (false = true) by decide)] at H; exact H
            clear H
            have H := H1
            clear H1
            by_cases c36 : t153 = 0
            · rw [if_pos c36] at H
              have c36b0 : (t153 == 0) = true := beq_iff_eq.mpr c36
              have c36b1 : (t153 != 0) = false := bne_eq_false_iff_eq.mpr c36
              clear c36
              replace H := Option.bind_eq_some_iff.mp H
              obtain ⟨t166, A370, H⟩ := H
              replace H : ((ref01_Same.f kj7 t152 t166).bind fun t169 => (if t169 = true then ((Most.f a1).bind fun t170 => (some (t170 == 0))) else (some false))) = some r := H
              have A37 := Aside0.mk A370
              clear A370
              replace H := Option.bind_eq_some_iff.mp H
              obtain ⟨t169, A380, H⟩ := H
              replace H : (if t169 = true then ((Most.f a1).bind fun t170 => (some (t170 == 0))) else (some false)) = some r := H
              have A38 := Aside0.mk A380
              clear A380
              by_cases c39 : t169 = true
              · subst c39
                have H1 : ((Most.f a1).bind fun t170 => (some (t170 == 0))) = some r := by rw [if_pos rfl] at H; exact H
                clear H
                have H := H1
                clear H1
                replace H := Option.bind_eq_some_iff.mp H
                obtain ⟨t170, A400, H⟩ := H
                replace H : (some (t170 == 0)) = some r := H
                have A40 := Aside0.mk A400
                clear A400
                obtain rfl := Option.some.inj H
                go_wp2_with (first | (go_at_call 9; (with_reducible refine (ref46_Pack.calls kj7 _ _ l0 t166 _ ?side1 ?side2 A37.out).mono ?_); (case side1 => repeat (first | exact (Kd.C_below HR0.out HB.out) | (with_reducible refine Kd.C_alloc ?_ _) | (with_reducible refine Kd.C_drewN ?_ _) | (with_reducible refine Kd.C_drew ?_))); (case side2 => exact HC0.out); rintro e w41 ⟨v167, rfl, ho0, hb⟩; have n0_ := Aside0.mk (Kd.R_elder' (by (with_reducible repeat (first | apply Kd.R_alloc | apply Kd.R_drewN | apply Kd.R_drew)); exact HO_5.out) (Kd.R_base ho0) hb); have n1_ := Aside0.mk (Kd.R_lower (Kd.R_new' ho0 (Kd.R_lt (by (with_reducible repeat (first | apply Kd.R_alloc | apply Kd.R_drewN | apply Kd.R_drew)); exact HO_5.out))) (below_size (by repeat (first | (with_reducible first | exact HB.out | apply below_alloc | apply pw_below_drewN | apply below_drew1) | exact HB.out)))); have n2_ := Aside0.mk (below_step (by repeat (first | (with_reducible first | exact HB.out | apply below_alloc | apply pw_below_drewN | apply below_drew1) | exact HB.out)) hb); clear HO_5; clear HB; have HO_5 := n0_; have HO168 := n1_; have HB := n2_; clear n0_ n1_ n2_; (try clear hb); (try clear hb2); (try clear hk); (try clear hi); (try clear ho0); obtain ⟨Ao42, co42, eo42⟩ := Kd.R_slice HO_5.out; subst eo42; obtain ⟨Ao43, co43, eo43⟩ := Kd.R_slice HO168.out; subst eo43) | (go_at_call 8; (with_reducible refine (ref01_Same.calls kj7 _ _ t152 _ _ t166 true _ ?side1 ?side2 ?side3 ?side4 A38.out).mono ?_); (case side1 => repeat (first | exact (Kd.R_reads' HO_5.out).2.2 | (with_reducible refine Kd.C_alloc ?_ _) | (with_reducible refine Kd.C_drewN ?_ _) | (with_reducible refine Kd.C_drew ?_))); (case side2 => exact (Kd.R_reads' HO_5.out).2.1); (case side3 => repeat (first | exact (Kd.R_reads' HO168.out).2.2 | (with_reducible refine Kd.C_alloc ?_ _) | (with_reducible refine Kd.C_drewN ?_ _) | (with_reducible refine Kd.C_drew ?_))); (case side4 => exact (Kd.R_reads' HO168.out).2.1); rintro e w' ⟨rfl, ⟨nd, rfl⟩⟩) | (go_at_call 10; (with_reducible refine (Most.calls a1 t170 _ A40.out).mono ?_); rintro e w' ⟨rfl, ⟨nd, rfl⟩⟩))
                go_ret
                exact ⟨by first | rfl | (simp [errW_none, errW_some] <;> rfl) | (simp [*, errW_none, errW_some] <;> rfl), by repeat (first | (with_reducible first | exact HB.out | apply below_alloc | apply pw_below_drewN | apply below_drew1) | exact HB.out)⟩
              · replace c39 := Bool.eq_false_iff.mpr c39
                subst c39
                have H1 : (some false) = some r := by rw [if_neg (show ¬ (false = true) by decide)] at H; exact H
                clear H
                have H := H1
                clear H1
                obtain rfl := Option.some.inj H
                go_wp2_with (first | (go_at_call 9; (with_reducible refine (ref46_Pack.calls kj7 _ _ l0 t166 _ ?side1 ?side2 A37.out).mono ?_); (case side1 => repeat (first | exact (Kd.C_below HR0.out HB.out) | (with_reducible refine Kd.C_alloc ?_ _) | (with_reducible refine Kd.C_drewN ?_ _) | (with_reducible refine Kd.C_drew ?_))); (case side2 => exact HC0.out); rintro e w44 ⟨v167, rfl, ho0, hb⟩; have n0_ := Aside0.mk (Kd.R_elder' (by (with_reducible repeat (first | apply Kd.R_alloc | apply Kd.R_drewN | apply Kd.R_drew)); exact HO_5.out) (Kd.R_base ho0) hb); have n1_ := Aside0.mk (Kd.R_lower (Kd.R_new' ho0 (Kd.R_lt (by (with_reducible repeat (first | apply Kd.R_alloc | apply Kd.R_drewN | apply Kd.R_drew)); exact HO_5.out))) (below_size (by repeat (first | (with_reducible first | exact HB.out | apply below_alloc | apply pw_below_drewN | apply below_drew1) | exact HB.out)))); have n2_ := Aside0.mk (below_step (by repeat (first | (with_reducible first | exact HB.out | apply below_alloc | apply pw_below_drewN | apply below_drew1) | exact HB.out)) hb); clear HO_5; clear HB; have HO_5 := n0_; have HO168 := n1_; have HB := n2_; clear n0_ n1_ n2_; (try clear hb); (try clear hb2); (try clear hk); (try clear hi); (try clear ho0); obtain ⟨Ao45, co45, eo45⟩ := Kd.R_slice HO_5.out; subst eo45; obtain ⟨Ao46, co46, eo46⟩ := Kd.R_slice HO168.out; subst eo46) | (go_at_call 8; (with_reducible refine (ref01_Same.calls kj7 _ _ t152 _ _ t166 false _ ?side1 ?side2 ?side3 ?side4 A38.out).mono ?_); (case side1 => repeat (first | exact (Kd.R_reads' HO_5.out).2.2 | (with_reducible refine Kd.C_alloc ?_ _) | (with_reducible refine Kd.C_drewN ?_ _) | (with_reducible refine Kd.C_drew ?_))); (case side2 => exact (Kd.R_reads' HO_5.out).2.1); (case side3 => repeat (first | exact (Kd.R_reads' HO168.out).2.2 | (with_reducible refine Kd.C_alloc ?_ _) | (with_reducible refine Kd.C_drewN ?_ _) | (with_reducible refine Kd.C_drew ?_))); (case side4 => exact (Kd.R_reads' HO168.out).2.1); rintro e w' ⟨rfl, ⟨nd, rfl⟩⟩))
                go_ret
                exact ⟨by first | rfl | (simp [errW_none, errW_some] <;> rfl) | (simp [*, errW_none, errW_some] <;> rfl), by repeat (first | (with_reducible first | exact HB.out | apply below_alloc | apply pw_below_drewN | apply below_drew1) | exact HB.out)⟩
            · rw [if_neg c36] at H
              have c36b0 : (t153 == 0) = false := beq_eq_false_iff_ne.mpr c36
              have c36b1 : (t153 != 0) = true := bne_iff_ne.mpr c36
              obtain rfl := Option.some.inj H
              go_wp2
              go_ret
              exact ⟨by first | rfl | (simp [errW_none, errW_some] <;> rfl) | (simp [*, errW_none, errW_some] <;> rfl), by repeat (first | (with_reducible first | exact HB.out | apply below_alloc | apply pw_below_drewN | apply below_drew1) | exact HB.out)⟩
  · replace c4 := Bool.eq_false_iff.mpr c4
    subst c4
    have H1 : (some false) = some r := by rw [if_neg (show ¬ (false = true) by decide)] at H; exact H
    clear H
    have H := H1
    clear H1
    obtain rfl := Option.some.inj H
    go_enter Try.func3, Try.ntmps3
    go_wp2_with (first | ((with_reducible refine gate_callee (f := 6) rfl ?_); refine goesL_ (some 8) rfl rfl Try.func6 (by kernel_rfl) rfl #[] rfl (by (try simp only [List.map_toArray, List.map_cons, List.map_nil]); first | done | rfl | (simp only [List.length_drop, List.length_take]; rfl)) ?_; (with_reducible refine (awake.calls k  false _ A3.out).mono ?_); rintro e w47 ⟨rfl, hb⟩; refine ⟨_, rfl, ?_⟩; have n0_ := Aside0.mk (below_step (by repeat (first | (with_reducible first | exact HB.out | apply below_alloc | apply pw_below_drewN | apply below_drew1) | exact HB.out)) hb); clear HB; have HB := n0_; clear n0_; (try clear hb); (try clear hb2); (try clear hk); (try clear hi)))
    go_ret
    exact ⟨by first | rfl | (simp [errW_none, errW_some] <;> rfl) | (simp [*, errW_none, errW_some] <;> rfl), by repeat (first | (with_reducible first | exact HB.out | apply below_alloc | apply pw_below_drewN | apply below_drew1) | exact HB.out)⟩

/-- THE ONE PURE STATEMENT of RlePacks: yours. -/
def RlePacks.Pure : Prop := ∀ (l0 : List Int) (a1 : Int), l0.length ≤ maxLen → l0.length * 1 ≤ 140737488351232 → (∀ x ∈ l0, (Lit.int .u8 x).wf = true) → (Lit.int .i64 a1).wf = true → ∃ k, RlePacks.f k l0 a1 = some true
theorem RlePacks.walk (P : RlePacks.Pure) (a0 : Option Addr) (len0 cap0 : Nat) (z0 : List Int) (a1 : Int) (w : World) (w0 : (a0 = none ∧ len0 = 0 ∧ cap0 = 0 ∧ z0 = []) ∨ ∃ x, a0 = some x ∧ len0 ≤ cap0 ∧ cap0 ≤ maxLen ∧ z0.length = cap0 ∧ (∀ i, i < z0.length → w.cell? (x.add i) = some (.int .u8 (z0.getD i 0))) ∧ ∀ n ∈ z0, (Lit.int .u8 n).wf = true) (y0 : len0 * 1 ≤ 140737488351232) (w1 : (Lit.int .i64 a1).wf = true) :
    Calls Try.prog 3 #[.slice a0 len0 cap0, .int .i64 a1] w fun e w' => e = .returned (.bool true) ∧ Below w.heap.size w w' := by
  obtain ⟨l0, rfl, hr0, hm0, hw0, hc0⟩ := ReadsInt.ofRowC w0
  obtain ⟨k, h⟩ := P l0 a1 hm0 y0 hw0 w1
  refine (RlePacks.calls k _ _ l0 a1 true w (Kd.C_of_reads (d := (0 : Int)) (h1 := fun _ => rfl) hr0) hc0 h).mono ?_
  rintro e w' ⟨rfl, hd⟩
  exact ⟨rfl, hd⟩

/-! ### bits_Mul32: function 24 -/
def bits_Mul32.f (a0 : Int) (a1 : Int) : Option (Int × Int) := some (((IntKind.u64.wrap ((IntKind.u64.wrap (a0)) * (IntKind.u64.wrap (a1)))) / 4294967296) % 4294967296, (IntKind.u64.wrap ((IntKind.u64.wrap (a0)) * (IntKind.u64.wrap (a1)))) % 4294967296)
set_option maxHeartbeats 8000000 in
set_option maxRecDepth 100000 in
theorem bits_Mul32.calls (a0 : Int) (a1 : Int) (r1 : Int) (r2 : Int) (w : World) (h : bits_Mul32.f a0 a1 = some (r1, r2)) :
    Calls Try.prog 24 #[.int .u32 a0, .int .u32 a1] w fun e w' => e = .returned (.tuple #[.int .u32 r1, .int .u32 r2]) ∧ Drawn0 w w' := by
  have H : (some (((IntKind.u64.wrap ((IntKind.u64.wrap (a0)) * (IntKind.u64.wrap (a1)))) / 4294967296) % 4294967296, (IntKind.u64.wrap ((IntKind.u64.wrap (a0)) * (IntKind.u64.wrap (a1)))) % 4294967296)) = some (r1, r2) := h
  clear h
  simp only [Option.some.injEq, Prod.mk.injEq] at H
  obtain ⟨rfl, rfl⟩ := H
  go_enter Try.func24, Try.ntmps24
  go_wp2
  go_ret2
  exact ⟨by first | rfl | (simp; done) | (simp [*]; done), by repeat (first | exact Drawn0.refl _ | apply Drawn0.step)⟩

/-! ### bits_Mul64: function 25 -/
def bits_Mul64.f (a0 : Int) (a1 : Int) : Option (Int × Int) := some (IntKind.u64.wrap ((IntKind.u64.wrap ((IntKind.u64.wrap ((a0 / 4294967296) * (a1 / 4294967296))) + ((IntKind.u64.wrap ((IntKind.u64.wrap ((a0 / 4294967296) * (Go.bits .and .u64 a1 4294967295))) + ((IntKind.u64.wrap ((Go.bits .and .u64 a0 4294967295) * (Go.bits .and .u64 a1 4294967295))) / 4294967296))) / 4294967296))) + ((IntKind.u64.wrap ((Go.bits .and .u64 (IntKind.u64.wrap ((IntKind.u64.wrap ((a0 / 4294967296) * (Go.bits .and .u64 a1 4294967295))) + ((IntKind.u64.wrap ((Go.bits .and .u64 a0 4294967295) * (Go.bits .and .u64 a1 4294967295))) / 4294967296))) 4294967295) + (IntKind.u64.wrap ((Go.bits .and .u64 a0 4294967295) * (a1 / 4294967296))))) / 4294967296)), IntKind.u64.wrap (a0 * a1))
set_option maxHeartbeats 8000000 in
set_option maxRecDepth 100000 in
theorem bits_Mul64.calls (a0 : Int) (a1 : Int) (r1 : Int) (r2 : Int) (w : World) (h : bits_Mul64.f a0 a1 = some (r1, r2)) :
    Calls Try.prog 25 #[.int .u64 a0, .int .u64 a1] w fun e w' => e = .returned (.tuple #[.int .u64 r1, .int .u64 r2]) ∧ Drawn0 w w' := by
  have H : (some (IntKind.u64.wrap ((IntKind.u64.wrap ((IntKind.u64.wrap ((a0 / 4294967296) * (a1 / 4294967296))) + ((IntKind.u64.wrap ((IntKind.u64.wrap ((a0 / 4294967296) * (Go.bits .and .u64 a1 4294967295))) + ((IntKind.u64.wrap ((Go.bits .and .u64 a0 4294967295) * (Go.bits .and .u64 a1 4294967295))) / 4294967296))) / 4294967296))) + ((IntKind.u64.wrap ((Go.bits .and .u64 (IntKind.u64.wrap ((IntKind.u64.wrap ((a0 / 4294967296) * (Go.bits .and .u64 a1 4294967295))) + ((IntKind.u64.wrap ((Go.bits .and .u64 a0 4294967295) * (Go.bits .and .u64 a1 4294967295))) / 4294967296))) 4294967295) + (IntKind.u64.wrap ((Go.bits .and .u64 a0 4294967295) * (a1 / 4294967296))))) / 4294967296)), IntKind.u64.wrap (a0 * a1))) = some (r1, r2) := h
  clear h
  simp only [Option.some.injEq, Prod.mk.injEq] at H
  obtain ⟨rfl, rfl⟩ := H
  go_enter Try.func25, Try.ntmps25
  go_wp2
  go_ret2
  exact ⟨by first | rfl | (simp; done) | (simp [*]; done), by repeat (first | exact Drawn0.refl _ | apply Drawn0.step)⟩

/-! ### bits_Mul: function 21 -/
def bits_Mul.f (a0 : Int) (a1 : Int) : Option (Int × Int) := (bits_Mul64.f a0 a1).bind fun bt171 => (some (bt171.1, bt171.2))
set_option maxHeartbeats 8000000 in
set_option maxRecDepth 100000 in
theorem bits_Mul.calls (a0 : Int) (a1 : Int) (r1 : Int) (r2 : Int) (w : World) (h : bits_Mul.f a0 a1 = some (r1, r2)) :
    Calls Try.prog 21 #[.int .u64 a0, .int .u64 a1] w fun e w' => e = .returned (.tuple #[.int .u64 r1, .int .u64 r2]) ∧ Drawn0 w w' := by
  have H : ((bits_Mul64.f a0 a1).bind fun bt171 => (some (bt171.1, bt171.2))) = some (r1, r2) := h
  clear h
  replace H := Option.bind_eq_some_iff.mp H
  obtain ⟨⟨t171, t172⟩, A30, H⟩ := H
  replace H : (some (t171, t172)) = some (r1, r2) := H
  have A3 := Aside0.mk A30
  clear A30
  simp only [Option.some.injEq, Prod.mk.injEq] at H
  obtain ⟨rfl, rfl⟩ := H
  go_enter Try.func21, Try.ntmps21
  go_wp2_with (first | ((with_reducible refine gate_callee (f := 25) rfl ?_); refine goesL_ (some 25) rfl rfl Try.func25 (by kernel_rfl) rfl #[.int .u64 a0, .int .u64 a1] rfl (by (try simp only [List.map_toArray, List.map_cons, List.map_nil]); first | done | rfl | (simp only [List.length_drop, List.length_take]; rfl)) ?_; (with_reducible refine (bits_Mul64.calls a0 a1 t171 t172 _ A3.out).mono ?_); rintro e w' ⟨rfl, ⟨nd, rfl⟩⟩; refine ⟨_, rfl, ?_⟩))
  go_ret2
  exact ⟨by first | rfl | (simp; done) | (simp [*]; done), by repeat (first | exact Drawn0.refl _ | apply Drawn0.step)⟩

-- NOT PRINTED: function 22 (bytealg_MakeNoZero)

/-! ### bytes_Repeat: function 17 -/
def bytes_Repeat.f (l0 : List Int) (a1 : Int) : Option (List Int) := if l0.length = 1 ∧ 1 ≤ a1 ∧ a1 ≤ 8000 then some (List.replicate a1.toNat (rd l0 0)) else none
/-- A row of the call's own that is cut short behind its elements: read alone. -/
def Rep (W : World) (base : Nat) (v : Value) (xs : List Int) : Prop := ∃ g, v = .slice (some ⟨g, 0, none⟩) xs.length xs.length ∧ base ≤ g ∧ g < W.heap.size ∧ Kd.C (Kd.int .u8) W (some ⟨g, 0, none⟩) xs.length xs
theorem Rep_base {W : World} {base : Nat} {v : Value} {xs : List Int} (h : Rep W base v xs) : ∀ k, v.ownBlock = some k → base ≤ k := by
  obtain ⟨g, rfl, h1, _, _⟩ := h
  intro k hk
  injection hk with hk
  subst hk
  exact h1
theorem Rep_lt {W : World} {base : Nat} {v : Value} {xs : List Int} (h : Rep W base v xs) : ∀ k, v.ownBlock = some k → k < W.heap.size := by
  obtain ⟨g, rfl, _, h1, _⟩ := h
  intro k hk
  injection hk with hk
  subst hk
  exact h1
theorem Rep_slice {W : World} {base : Nat} {v : Value} {xs : List Int} (h : Rep W base v xs) : ∃ A c, v = .slice A xs.length c := by
  obtain ⟨g, rfl, _, _, _⟩ := h
  exact ⟨_, _, rfl⟩
theorem Rep_reads {W : World} {base : Nat} {A : Option Addr} {n c : Nat} {xs : List Int} (h : Rep W base (.slice A n c) xs) : Kd.C (Kd.int .u8) W A xs.length xs := by
  obtain ⟨g, e, _, _, h1⟩ := h
  injection e with e1 e2 e3
  subst e1
  exact h1
theorem Rep_drewN {W : World} {base : Nat} {v : Value} {xs : List Int} (h : Rep W base v xs) (m : Nat) : Rep (W.drewN m) base v xs := by
  obtain ⟨g, e, h1, h2, h3⟩ := h
  exact ⟨g, e, h1, h2, Kd.C_drewN h3 m⟩
theorem splice_rep {α : Type} (L : List α) (m d : Nat) (V : α) (h : L.take m = List.replicate m V) (hm : m + d ≤ L.length) : (splice L m (List.replicate d V)).take (m + d) = List.replicate (m + d) V := by
  unfold splice
  rw [← List.append_assoc, h, List.replicate_append_replicate, List.take_append_of_le_length (by rw [List.length_replicate]; exact Nat.le_refl _), List.take_of_length_le (by rw [List.length_replicate]; exact Nat.le_refl _)]
theorem take_rep {α : Type} {L : List α} {m : Nat} {V : α} (h : L.take m = List.replicate m V) {i : Nat} (hi : i < m) : L[i]? = some V := by
  have h1 : (L.take m)[i]? = some V := by rw [h, List.getElem?_replicate, if_pos hi]
  rwa [List.getElem?_take, if_pos hi] at h1
theorem rep_get {α : Type} {d : Nat} {V v : α} {j : Nat} (h : (List.replicate d V)[j]? = some v) : j < d ∧ v = V := by
  rw [List.getElem?_replicate] at h
  split at h
  · exact ⟨by assumption, (Option.some.inj h).symm⟩
  · exact absurd h (by simp)
theorem row_cell {W : World} {g : Nat} {cur : List Value} {e : TypeId} (h : W.heap[g]? = some (.cells cur.toArray e (0, 0))) {j : Nat} {v : Value} (hv : cur[j]? = some v) : W.cell? ((⟨g, 0, none⟩ : Addr).add j) = some v := by
  have ha : (⟨g, 0, none⟩ : Addr).add j = ⟨g, j, none⟩ := by unfold Addr.add; split <;> simp_all
  rw [ha]
  simp [World.cell?, h, hv]
theorem row_reads {W : World} {g n : Nat} {cur : List Value} {e : TypeId} {x : Int} (h : W.heap[g]? = some (.cells cur.toArray e (0, 0))) (hc : cur.take n = List.replicate n (.int .u8 x)) (hn : n ≤ 8000) : Kd.C (Kd.int .u8) W (some ⟨g, 0, none⟩) n (List.replicate n x) := by
  refine ⟨List.length_replicate, by omega, fun _ => ⟨_, rfl, fun j p hj => ?_⟩⟩
  obtain ⟨hj1, rfl⟩ := rep_get hj
  refine ⟨[.int .u8 p], rfl, rfl, fun i u hu => ?_⟩
  obtain ⟨rfl, rfl⟩ : i = 0 ∧ u = .int .u8 p := by
    cases i with
    | zero => exact ⟨rfl, (Option.some.inj hu).symm⟩
    | succ i => exact absurd hu (by simp)
  have := row_cell h (take_rep hc hj1)
  simpa [Kd.int, Kd.scalar] using this
theorem one_cell {w W : World} {ad : Addr} {x : Int} (hx : w.cell? (ad.add 0) = some (.int .u8 x)) (hB : Below w.heap.size w W) {j : Nat} {v : Value} (hj : [Value.int .u8 x][j]? = some v) : W.cell? (ad.add j) = some v := by
  cases j with
  | zero =>
    obtain rfl := Option.some.inj hj
    exact (hB.cell (World.block_lt_of_cell? w _ hx)).trans hx
  | succ j => exact absurd hj (by simp)
theorem mask_u {x : Int} (h0 : 0 ≤ x) (h1 : x < 4294967296) : Go.bits .and .u64 x 4294967295 = x := by
  have h := bits_mask .u64 64 (by decide) (fun n h0 h1 => by rw [IntKind.wrap_u64]; omega) 32 (by decide) x h0 (by omega)
  have e : ((2 : Int) ^ 32 - 1) = 4294967295 := by decide
  have e2 : ((2 : Int) ^ 32) = 4294967296 := by decide
  simpa [e, e2, Int.emod_eq_of_lt h0 h1] using h
theorem wrap_u {x : Int} (h0 : 0 ≤ x) (h1 : x < 4294967296) : IntKind.u64.wrap x = x := by
  rw [IntKind.wrap_u64]
  omega
theorem mul_one_u {n : Nat} (h : n ≤ 8000) : bits_Mul.f 1 (n : Int) = some (0, (n : Int)) := by
  have e1 : (1 : Int) / 4294967296 = 0 := by decide
  have e2 : (n : Int) / 4294967296 = 0 := by omega
  have m1 : Go.bits .and .u64 1 4294967295 = 1 := mask_u (by decide) (by decide)
  have m2 : Go.bits .and .u64 (n : Int) 4294967295 = n := mask_u (by omega) (by omega)
  have m0 : Go.bits .and .u64 0 4294967295 = 0 := mask_u (by decide) (by decide)
  have w0 : IntKind.u64.wrap 0 = 0 := wrap_u (by decide) (by decide)
  have wn : IntKind.u64.wrap (n : Int) = n := wrap_u (by omega) (by omega)
  unfold bits_Mul.f bits_Mul64.f
  rw [Option.bind_some]
  simp only [e1, e2, m1, m2, m0, w0, wn, Int.zero_mul, Int.mul_zero, Int.one_mul, Int.zero_add, Int.add_zero, Int.zero_ediv]
set_option maxHeartbeats 8000000 in
set_option maxRecDepth 100000 in
theorem bytes_Repeat.calls (A0 : Option Addr) (c0 : Nat) (l0 : List Int) (a1 : Int) (r : List Int) (w : World) (hr0 : Kd.C (Kd.int .u8) w A0 l0.length l0) (hc0 : l0.length ≤ c0) (h : bytes_Repeat.f l0 a1 = some r) :
    Calls Try.prog 17 #[.slice A0 l0.length c0, .int .i64 a1] w fun e w' => ∃ v0_ : Value, e = .returned (v0_) ∧ Rep w' w.heap.size v0_ r ∧ Below w.heap.size w w' := by
  unfold bytes_Repeat.f at h
  by_cases hc : l0.length = 1 ∧ 1 ≤ a1 ∧ a1 ≤ 8000
  · rw [if_pos hc] at h
    obtain ⟨hl, h1, h2⟩ := hc
    obtain rfl := Option.some.inj h
    clear h
    obtain ⟨x, rfl⟩ : ∃ x, l0 = [x] := List.length_eq_one_iff.mp hl
    obtain ⟨n, rfl⟩ : ∃ n : Nat, a1 = (n : Int) := ⟨a1.toNat, by omega⟩
    obtain ⟨ad, rfl, hcell⟩ := hr0.2.2 (by simp)
    obtain ⟨cs1, hcs1, hK, hcc⟩ := hcell 0 x rfl
    have hK' : cs1 = [.int .u8 x] := hK
    subst hK'
    have hx : w.cell? (ad.add 0) = some (.int .u8 x) := by simpa using hcc 0 _ rfl
    clear hcc hK hcs1 hcell hr0 hl
    have hn1 : 1 ≤ n := by omega
    have hn2 : n ≤ 8000 := by omega
    clear h1 h2
    have hMul := bits_Mul.calls 1 (n : Int) 0 (n : Int) w (mul_one_u hn2)
    have f0 : ((n : Int) == 0) = false := beq_eq_false_iff_ne.2 (by omega)
    have f1 : decide ((n : Int) < 0) = false := decide_eq_false (by omega)
    have f2 : decide (8192 < (n : Int)) = false := decide_eq_false (by omega)
    have hM : ∀ nd, ∃ L0 : List Value, n ≤ L0.length ∧ (callFunc 22 #[.int .i64 (n : Int)]).run Try.prog (w.drewN nd) = .ok (.value (.slice (some ⟨w.heap.size, 0, none⟩) n L0.length)) (((w.drewN nd).alloc (.cells L0.toArray 5)).drewN 2) := by
      intro nd
      obtain ⟨cs, hrunM, hle, _⟩ := Lib.run_makeNoZero (P := Try.prog) (w.drewN nd) #[3] 22 5 Try.underlying22 n (by omega)
      refine ⟨cs.toList, by simpa using hle, ?_⟩
      rw [run_callFunc_extern Try.func22 (by kernel_rfl) (by kernel_rfl) (by kernel_rfl) (e := Extern.BytealgMakeNoZero.makeNoZero #[3] #[22]) (by kernel_rfl), hrunM]
      rw [Array.length_toList, Array.toArray_toList]
      rfl
    have hmx : Try.prog.follows .mixedOrders = true := by kernel_rfl
    have hi5 : (Try.prog.info? 5).map (·.size) = some 1 := by kernel_rfl
    go_enter Try.func17, Try.ntmps17
    go_wp2_with (first | (go_at_call 21; (with_reducible refine hMul.mono ?_); rintro e w' ⟨rfl, ⟨nd, rfl⟩⟩; obtain ⟨L0, hL0l, hcall⟩ := hM nd; clear hM; have i0 : (n : Int) ≤ (L0.length : Int) := (by omega)) | ((with_reducible refine gate_builtin (b := .copy) (xs := #[.tmp 58, .tmp 59]) rfl ?_); (refine wpList_copy_splice rfl (.tmp 58) (.tmp 59) 22 22 rfl 5 Try.underlying22 hi5 _ _ _ _ _ _ rfl rfl w.heap.size 0 L0 5 ?hg [.int .u8 x] ?hn ?hpos ?hfit ?h1 w.heap.size w ?hb (Nat.le_refl _) ?_); (case hg => simp [World.alloc, World.drewN]); (case hn => exact (Nat.min_eq_left hn1).symm); (case hpos => intro _; exact ⟨rfl, ad, rfl, fun j v hj => one_cell hx (by repeat (first | apply pw_below_drewN | apply below_alloc | exact Below.refl _ _)) hj⟩); (case hfit => simp; omega); (case h1 => simp [Value.oneCell']); (case hb => repeat (first | apply pw_below_drewN | apply below_alloc | exact Below.refl _ _)); intro w1 HG1 HB1))
    obtain ⟨cur1, hg1, hl1, ht1⟩ : ∃ cur : List Value, w1.heap[w.heap.size]? = some (.cells cur.toArray 5 (0, 0)) ∧ n ≤ cur.length ∧ cur.take 1 = List.replicate 1 (.int .u8 x) :=
      ⟨_, HG1, by rw [length_splice _ _ _ (by simp; omega)]; exact hL0l, splice_rep L0 0 1 _ rfl (by omega)⟩
    clear HG1 hMul hcall hx f0 f1 f2 i0
    go_loopg [10] n (fun g s10 wr => ∃ (m : Nat) (cur : List Value), 1 ≤ m ∧ m ≤ n ∧ n - m ≤ g ∧ s10 = .int .i64 m ∧ Aside0 (wr.heap[w.heap.size]? = some (.cells cur.toArray 5 (0, 0))) ∧ Aside0 (n ≤ cur.length ∧ cur.take m = List.replicate m (.int .u8 x)) ∧ Aside0 (Below w.heap.size w wr))
    case atStart => exact ⟨1, cur1, Nat.le_refl _, hn1, by omega, rfl, ⟨hg1⟩, ⟨hl1, ht1⟩, ⟨HB1⟩⟩
    case round =>
      obtain ⟨m, cur, h1, h2, h3, rfl, HG, HC, HB⟩ := hrel
      by_cases hlt : m < n
      · have q1 : decide ((m : Int) < (n : Int)) = true := decide_eq_true (by omega)
        have q2 : ¬ (n : Int) < (m : Int) := by omega
        have q3 : (0 : Int) ≤ (m : Int) := by omega
        have q4 : (m : Int) ≤ (n : Int) := by omega
        have q5 : ¬ n = m := by omega
        have q6 : ¬ n = 0 := by omega
        go_wp2
        refine start_ (n := 10) (S := fun _ => True) (ds := []) #[false, false, false, false, false, false, false, false, false, false] hmx rfl rfl trivial (fun hHeld => ?_)
        refine pure_ (i := 0) (N := some 67) (v := ?_) (a' := ?_) #[true, false, false, false, false, false, false, false, false, false] rfl rfl (by kernel_rfl) (fun _ _ _ h => h) (Or.inl ⟨by rfl, ?_⟩) ?_ ?_
        rotate_left
        · intro w2_
          go_simp
          with_reducible rfl
        rotate_left
        · simp only [Act.put, List.setIfInBounds_toArray, List.set_cons_zero, List.set_cons_succ]
          rfl
        refine pure_ (i := 1) (N := some 68) (v := ?_) (a' := ?_) #[true, true, false, false, false, false, false, false, false, false] rfl rfl (by kernel_rfl) (fun _ _ _ h => h) (Or.inl ⟨by rfl, ?_⟩) ?_ ?_
        rotate_left
        · intro w2_
          go_simp
          with_reducible rfl
        rotate_left
        · simp only [Act.put, List.setIfInBounds_toArray, List.set_cons_zero, List.set_cons_succ]
          rfl
        refine pure_ (i := 2) (N := some 69) (v := ?_) (a' := ?_) #[true, true, true, false, false, false, false, false, false, false] rfl rfl (by kernel_rfl) (fun _ _ _ h => h) (Or.inl ⟨by rfl, ?_⟩) ?_ ?_
        rotate_left
        · intro w2_
          go_simp
          with_reducible rfl
        rotate_left
        · simp only [Act.put, List.setIfInBounds_toArray, List.set_cons_zero, List.set_cons_succ]
          rfl
        refine pure_ (i := 3) (N := some 70) (v := ?_) (a' := ?_) #[true, true, true, true, false, false, false, false, false, false] rfl rfl (by kernel_rfl) (fun _ _ _ h => h) (Or.inl ⟨by rfl, ?_⟩) ?_ ?_
        rotate_left
        · intro w2_
          go_simp
          with_reducible rfl
        rotate_left
        · simp only [Act.put, List.setIfInBounds_toArray, List.set_cons_zero, List.set_cons_succ]
          rfl
        refine pure_ (i := 4) (N := some 71) (v := ?_) (a' := ?_) #[true, true, true, true, true, false, false, false, false, false] rfl rfl (by kernel_rfl) (fun _ _ _ h => h) (Or.inl ⟨by rfl, ?_⟩) ?_ ?_
        rotate_left
        · intro w2_
          go_simp
          with_reducible rfl
        rotate_left
        · simp only [Act.put, List.setIfInBounds_toArray, List.set_cons_zero, List.set_cons_succ]
          rfl
        refine pure_ (i := 5) (N := some 72) (v := ?_) (a' := ?_) #[true, true, true, true, true, true, false, false, false, false] rfl rfl (by kernel_rfl) (fun _ _ _ h => h) (Or.inl ⟨by rfl, ?_⟩) ?_ ?_
        rotate_left
        · intro w2_
          go_simp
          with_reducible rfl
        rotate_left
        · simp only [Act.put, List.setIfInBounds_toArray, List.set_cons_zero, List.set_cons_succ]
          rfl
        refine pure_ (i := 6) (N := some 73) (v := ?_) (a' := ?_) #[true, true, true, true, true, true, true, false, false, false] rfl rfl (by kernel_rfl) (fun _ _ _ h => h) (Or.inl ⟨by rfl, ?_⟩) ?_ ?_
        rotate_left
        · intro w2_
          go_simp
          with_reducible rfl
        rotate_left
        · simp only [Act.put, List.setIfInBounds_toArray, List.set_cons_zero, List.set_cons_succ]
          rfl
        refine one_ (i := 7) (N := some 74) #[true, true, true, true, true, true, true, true, false, false] rfl rfl (by kernel_rfl) (by decide) (fun K hK => ?_)
        refine step_copy_splice rfl (.tmp 70) (.tmp 73) 22 22 rfl 5 Try.underlying22 hi5 _ _ _ _ _ _ rfl rfl w.heap.size m cur 5 HG.out (List.replicate (Nat.min m (n - m)) (.int .u8 x)) List.length_replicate (fun _ => ⟨rfl, _, rfl, fun j v hj => ?_⟩) ?_ ?_ w.heap.size w (below_drew HB.out) (Nat.le_refl _) ?_
        · obtain ⟨hj1, rfl⟩ := rep_get hj
          have hcur := take_rep HC.out.2 (Nat.lt_of_lt_of_le hj1 (Nat.min_le_left _ _))
          exact row_cell (show wr.drew.heap[w.heap.size]? = some (.cells cur.toArray 5 (0, 0)) from HG.out) hcur
        · rw [List.length_replicate]
          exact Nat.le_trans (Nat.add_le_add_left (Nat.min_le_right m (n - m)) m) (by have := HC.out.1; omega)
        · intro u hu
          rw [(List.mem_replicate.1 hu).2]
          rfl
        intro w4 hg4 hb4
        refine hK.out _ _ trivial (fun hHeld => ?_)
        clear hK K
        refine norm_ (a' := ?_) ?_ ?_
        rotate_left
        · show Act.put _ (some 74) _ = _
          simp only [Act.put, List.setIfInBounds_toArray, List.set_cons_zero, List.set_cons_succ]
          rfl
        refine pure_ (i := 8) (N := some 75) (v := ?_) (a' := ?_) #[true, true, true, true, true, true, true, true, true, false] rfl rfl (by kernel_rfl) (fun _ _ _ h => h) (Or.inl ⟨by rfl, ?_⟩) ?_ ?_
        rotate_left
        · intro w2_
          go_simp
          with_reducible rfl
        rotate_left
        · simp only [Act.put, List.setIfInBounds_toArray, List.set_cons_zero, List.set_cons_succ]
          rfl
        refine pure_ (i := 9) (N := some 10) (v := ?_) (a' := ?_) #[true, true, true, true, true, true, true, true, true, true] rfl rfl (by kernel_rfl) (fun _ _ _ h => h) (Or.inl ⟨by rfl, ?_⟩) ?_ ?_
        rotate_left
        · intro w2_
          go_simp
          with_reducible rfl
        rotate_left
        · simp only [Act.put, List.setIfInBounds_toArray, List.set_cons_zero, List.set_cons_succ]
          rfl
        refine done_ (by kernel_rfl) ?_
        obtain ⟨d, hd⟩ : ∃ d, d = Nat.min m (n - m) := ⟨_, rfl⟩
        have hdm : d ≤ n - m ∧ 1 ≤ d := by rw [hd]; exact ⟨Nat.min_le_right _ _, Nat.le_min.2 ⟨h1, by omega⟩⟩
        rw [← hd] at hg4 ⊢
        have hw : IntKind.i64.wrap ((m : Int) + (d : Int)) = ((m + d : Nat) : Int) := by
          rw [IntKind.wrap_i64]
          omega
        rw [hw]
        go_wp2
        go_roundg (n - (m + d))
        case measure => omega
        case rel => exact ⟨m + d, splice cur m (List.replicate d (.int .u8 x)), by omega, by omega, Nat.le_refl _, rfl, ⟨hg4⟩, ⟨by rw [length_splice _ _ _ (by rw [List.length_replicate]; have := HC.out.1; omega)]; exact HC.out.1, splice_rep cur m d _ HC.out.2 (by have := HC.out.1; omega)⟩, ⟨hb4⟩⟩
      · have q1 : decide ((m : Int) < (n : Int)) = false := decide_eq_false (by omega)
        go_wp2
        go_ret
        have hmn : m = n := by omega
        subst hmn
        have hlen : (List.replicate ((m : Int)).toNat (rd [x] 0)).length = m := by rw [List.length_replicate]; omega
        have hx0 : rd [x] 0 = x := rfl
        rw [hx0] at hlen ⊢
        rw [Int.toNat_natCast] at hlen ⊢
        refine ⟨_, rfl, ⟨w.heap.size, by rw [hlen]; rfl, Nat.le_refl _, ?_, ?_⟩, HB.out⟩
        · have hh := HG.out
          exact (Array.getElem?_eq_some_iff.1 hh).1
        · rw [hlen]
          exact row_reads HG.out HC.out.2 hn2
  · rw [if_neg hc] at h
    exact absurd h (by simp)

end Go.Proofs.Ytdgdpeibagcnpaa.M
