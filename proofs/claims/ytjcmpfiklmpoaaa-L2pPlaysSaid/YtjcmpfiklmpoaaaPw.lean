/-
  L2pPlays: the law's walk (a template of the print, mended by wip/l2p_pw.py).
-/
import Derived.Test.YtjcmpfiklmpoaaaAw
import Derived.Test.YtjcmpfiklmpoaaaPp
namespace Go.Proofs.Ytjcmpfiklmpoaaa.M
open Go.RowKit Go.Proofs.YtjcmpfiklmpoaaaW.PrintWords Go.Proofs.YtjcmpfiklmpoaaaW.PrintLast Go.Proofs.YtjcmpfiklmpoaaaW.PrintMore
attribute [local go_sem] max2_int min2_int max_two min_two max_three min_three max_four min_four   -- for this text's walks alone
set_option linter.unusedVariables false
set_option linter.unusedSimpArgs false
theorem IsP.apart {w0 W : World} {g h : Nat} {s : P} {α : Type} {d : Kd α} {e : Nat} {base : Nat} {ok : Nat → Prop} {v : Value} {xs : List α} (H : IsP w0 W g h s) (ho : d.R e W base ok v xs) (ht : ∀ q, q ∈ e :: d.E → q ≠ 49) : d.R e W base (fun k => ok k ∧ k ≠ g) v xs := H.1.apart ho ht
/-! ### incunablelaw27_L2pPlays: function 3 -/
mutual
def incunablelaw27_L2pPlays.j0 : Nat → List (S32) → Int → Bool → Int → Int → Int → St → Option (Bool)
  | 0, _, _, _, _, _, _, _ => none
  | k + 1, x1, x6, x78, x132000, x132001, x132002, x135000 => if x78 = true then (some true) else ((pr_New.f x135000 x132000 x132001 x132002).bind fun bt135 => (if x6 = 0 then (incunablelaw27_L2pPlays.l0 k x1 (x1.length : Int) 0 x132000 x132001 x132002 bt135.2) else (some false)))
def incunablelaw27_L2pPlays.l0 : Nat → List (S32) → Int → Int → Int → Int → Int → P → Option (Bool)
  | 0, _, _, _, _, _, _, _ => none
  | k + 1, x88, x89, x90, x132000, x132001, x132002, x135000 => if x90 < x89 then (if 0 ≤ x90 then (if x90 < (x88.length : Int) then (if ((rd_T32 x88 x90).f0) = 1 then ((pm_Set.f x135000 ((rd_T32 x88 x90).f1) ((rd_T32 x88 x90).f2)).bind fun bt139 => ((pr_Set.f bt139.2 ((rd_T32 x88 x90).f1) ((rd_T32 x88 x90).f2)).bind fun bt141 => (if bt139.1 = bt141.1 then (incunablelaw27_L2pPlays.l0 k x88 x89 (wrap64 (x90 + 1)) x132000 x132001 x132002 bt141.2) else (some false)))) else (if ((rd_T32 x88 x90).f0) = 2 then ((pm_Drop.f x135000 ((rd_T32 x88 x90).f1)).bind fun bt143 => ((pr_Drop.f bt143.2 ((rd_T32 x88 x90).f1)).bind fun bt145 => (if ((bt143.1 == bt145.1) = true) then (incunablelaw27_L2pPlays.l0 k x88 x89 (wrap64 (x90 + 1)) x132000 x132001 x132002 bt145.2) else (some false)))) else (incunablelaw27_L2pPlays.l0 k x88 x89 (wrap64 (x90 + 1)) x132000 x132001 x132002 x135000))) else (none)) else (none)) else (incunablelaw27_L2pPlays.l1 k 0 (-1) x132000 x132001 x132002 x135000)
def incunablelaw27_L2pPlays.l1 : Nat → Int → Int → Int → Int → Int → P → Option (Bool)
  | 0, _, _, _, _, _, _ => none
  | k + 1, x11, x12, x132000, x132001, x132002, x135000 => if x12 ≤ x132000 then ((pm_Row.f x135000 x12).bind fun bt147 => ((pr_Row.f bt147.2.2 x12).bind fun bt150 => (if x12 < 0 then (incunablelaw27_L2pPlays.j3 k x11 x12 bt147.1 bt147.2.1 (-1) x132000 x132001 x132002 bt150.2) else (incunablelaw27_L2pPlays.j3 k x11 x12 bt147.1 bt147.2.1 bt150.1 x132000 x132001 x132002 bt150.2)))) else (incunablelaw27_L2pPlays.l2 k x11 (-1) x132000 x132001 x132002 x135000)
def incunablelaw27_L2pPlays.j3 : Nat → Int → Int → Int → Bool → Int → Int → Int → Int → P → Option (Bool)
  | 0, _, _, _, _, _, _, _, _, _ => none
  | k + 1, x11, x12, x13, x14, x15, x132000, x132001, x132002, x135000 => if (x14 != (decide (x15 ≥ 0))) = true then (incunablelaw27_L2pPlays.j4 k x11 x12 x14 true x132000 x132001 x132002 x135000) else (if x14 = true then (if x13 = x15 then (incunablelaw27_L2pPlays.j4 k x11 x12 x14 false x132000 x132001 x132002 x135000) else (incunablelaw27_L2pPlays.j4 k x11 x12 x14 true x132000 x132001 x132002 x135000)) else (incunablelaw27_L2pPlays.j4 k x11 x12 x14 (x13 != 0) x132000 x132001 x132002 x135000))
def incunablelaw27_L2pPlays.j4 : Nat → Int → Int → Bool → Bool → Int → Int → Int → P → Option (Bool)
  | 0, _, _, _, _, _, _, _, _ => none
  | k + 1, x11, x12, x14, x161, x132000, x132001, x132002, x135000 => if x161 = true then (some false) else (if x14 = true then (incunablelaw27_L2pPlays.l1 k (wrap64 (x11 + 1)) (wrap64 (x12 + 1)) x132000 x132001 x132002 x135000) else (incunablelaw27_L2pPlays.l1 k x11 (wrap64 (x12 + 1)) x132000 x132001 x132002 x135000))
def incunablelaw27_L2pPlays.l2 : Nat → Int → Int → Int → Int → Int → P → Option (Bool)
  | 0, _, _, _, _, _, _ => none
  | k + 1, x11, x16, x132000, x132001, x132002, x135000 => if x16 ≤ x132001 then ((pm_Rows.f k x135000 x16).bind fun bt154 => ((pr_Rows.f bt154.2 x16).bind fun bt158 => ((incunableref01_Ints.f k bt154.1 bt158.1).bind fun t162 => (if t162 = true then ((pm_Valid.f bt158.2 x16).bind fun bt163 => ((pr_Rows.f bt163.2 x16).bind fun bt165 => (if bt163.1 = (bt165.1.length : Int) then (incunablelaw27_L2pPlays.l2 k x11 (wrap64 (x16 + 1)) x132000 x132001 x132002 bt165.2) else (some false)))) else (some false))))) else ((pm_Len.f x135000).bind fun bt152 => (some (bt152.1 == x11)))
end
def incunablelaw27_L2pPlays.f (k : Nat) (a0_0 : Int) (a0_1 : Int) (a0_2 : Int) (l1 : List (S32)) : Option (Bool) := (incunablelaw27_awake.f k).bind fun t132 => (if t132 = true then ((l2p_New.f a0_0 a0_1 a0_2).bind fun t133 => (if a0_0 > 100 then (incunablelaw27_L2pPlays.j0 k l1 0 true a0_0 a0_1 a0_2 t133) else (if (wrap64 (a0_1 * a0_2)) > 200 then (incunablelaw27_L2pPlays.j0 k l1 0 true a0_0 a0_1 a0_2 t133) else (incunablelaw27_L2pPlays.j0 k l1 0 (decide ((l1.length : Int) > 60)) a0_0 a0_1 a0_2 t133)))) else (some false))
def incunablelaw27_L2pPlays.T17 : Bool × List (List Nat × List Nat) := (true, [([], []), ([], []), ([1], [1]), ([], []), ([3], [3]), ([0, 2, 4], [0, 2, 4]), ([], []), ([], []), ([7], [7]), ([], []), ([9], [9]), ([6, 8, 10, 5], [6, 8, 10]), ([5, 11], [5, 11]), ([12, 11, 0, 1, 2, 3, 4, 5, 6, 7, 8, 9, 10, 11, 12], [12])])
def incunablelaw27_L2pPlays.B17 : List Nat := [0, 0, 2, 0, 8, 31, 0, 0, 128, 0, 512, 2047, 4095, 8191]
theorem incunablelaw27_L2pPlays.tab17 : rtab .any (opsOf Try.f3 17) = incunablelaw27_L2pPlays.T17 := by kernel_rfl
theorem incunablelaw27_L2pPlays.bits17 : waitsOk incunablelaw27_L2pPlays.T17.2 incunablelaw27_L2pPlays.B17 = true := by kernel_rfl
def incunablelaw27_L2pPlays.T19 : Bool × List (List Nat × List Nat) := (true, [([], []), ([], []), ([1], [1]), ([0, 2], [0, 2]), ([], []), ([], []), ([5], [5]), ([4, 6, 3], [4, 6]), ([3, 7], [3, 7]), ([8, 7, 0, 1, 2, 3, 4, 5, 6, 7, 8], [8])])
def incunablelaw27_L2pPlays.B19 : List Nat := [0, 0, 2, 7, 0, 0, 32, 127, 255, 511]
theorem incunablelaw27_L2pPlays.tab19 : rtab .any (opsOf Try.f3 19) = incunablelaw27_L2pPlays.T19 := by kernel_rfl
theorem incunablelaw27_L2pPlays.bits19 : waitsOk incunablelaw27_L2pPlays.T19.2 incunablelaw27_L2pPlays.B19 = true := by kernel_rfl
set_option maxHeartbeats 8000000 in
set_option maxRecDepth 100000 in
theorem incunablelaw27_L2pPlays.calls (k : Nat) (a0_0 : Int) (a0_1 : Int) (a0_2 : Int) (A1 : Option Addr) (c1 : Nat) (l1 : List (S32)) (r : Bool) (w : World) (hr1 : Kd.C k32 w A1 l1.length l1) (hc1 : l1.length ≤ c1) (h : incunablelaw27_L2pPlays.f k a0_0 a0_1 a0_2 l1 = some r) :
    Calls Try.prog 3 #[.agg #[.int .i64 a0_0, .int .i64 a0_1, .int .i64 a0_2], .slice A1 l1.length c1] w fun e w' => e = .returned (.bool r) ∧ Below w.heap.size w w' := by
  have hu22 := Try.underlying22
  have hu32 := Try.underlying32
  have HR1 := Aside0.mk hr1
  have HC1 := Aside0.mk hc1
  clear hr1 hc1
  have HB := Aside0.mk (Below.refl w.heap.size w)
  have H : ((incunablelaw27_awake.f k).bind fun t132 => (if t132 = true then ((l2p_New.f a0_0 a0_1 a0_2).bind fun t133 => (if a0_0 > 100 then (incunablelaw27_L2pPlays.j0 k l1 0 true a0_0 a0_1 a0_2 t133) else (if (wrap64 (a0_1 * a0_2)) > 200 then (incunablelaw27_L2pPlays.j0 k l1 0 true a0_0 a0_1 a0_2 t133) else (incunablelaw27_L2pPlays.j0 k l1 0 (decide ((l1.length : Int) > 60)) a0_0 a0_1 a0_2 t133)))) else (some false))) = some r := h
  clear h
  replace H := Option.bind_eq_some_iff.mp H
  obtain ⟨t132, A30, H⟩ := H
  replace H : (if t132 = true then ((l2p_New.f a0_0 a0_1 a0_2).bind fun t133 => (if a0_0 > 100 then (incunablelaw27_L2pPlays.j0 k l1 0 true a0_0 a0_1 a0_2 t133) else (if (wrap64 (a0_1 * a0_2)) > 200 then (incunablelaw27_L2pPlays.j0 k l1 0 true a0_0 a0_1 a0_2 t133) else (incunablelaw27_L2pPlays.j0 k l1 0 (decide ((l1.length : Int) > 60)) a0_0 a0_1 a0_2 t133)))) else (some false)) = some r := H
  have A3 := Aside0.mk A30
  clear A30
  by_cases c4 : t132 = true
  · subst c4
    have H1 : ((l2p_New.f a0_0 a0_1 a0_2).bind fun t133 => (if a0_0 > 100 then (incunablelaw27_L2pPlays.j0 k l1 0 true a0_0 a0_1 a0_2 t133) else (if (wrap64 (a0_1 * a0_2)) > 200 then (incunablelaw27_L2pPlays.j0 k l1 0 true a0_0 a0_1 a0_2 t133) else (incunablelaw27_L2pPlays.j0 k l1 0 (decide ((l1.length : Int) > 60)) a0_0 a0_1 a0_2 t133)))) = some r := by rw [if_pos rfl] at H; exact H
    clear H
    have H := H1
    clear H1
    replace H := Option.bind_eq_some_iff.mp H
    obtain ⟨t133, A50, H⟩ := H
    replace H : (if a0_0 > 100 then (incunablelaw27_L2pPlays.j0 k l1 0 true a0_0 a0_1 a0_2 t133) else (if (wrap64 (a0_1 * a0_2)) > 200 then (incunablelaw27_L2pPlays.j0 k l1 0 true a0_0 a0_1 a0_2 t133) else (incunablelaw27_L2pPlays.j0 k l1 0 (decide ((l1.length : Int) > 60)) a0_0 a0_1 a0_2 t133))) = some r := H
    have A5 := Aside0.mk A50
    clear A50
    have hok : newOk a0_0 a0_1 a0_2 := by
      have h := A5.out
      unfold l2p_New.f at h
      split at h
      · assumption
      · cases h
    obtain ⟨⟨k0, k1⟩, ⟨k2, k3⟩, ⟨k4, k5⟩⟩ := hok
    have d0 : decide (a0_0 < 1) = false := decide_eq_false (by omega)
    have d1 : decide (65536 < a0_0) = false := decide_eq_false (by omega)
    have d2 : decide (a0_1 < 1) = false := decide_eq_false (by omega)
    have d3 : decide (256 < a0_1) = false := decide_eq_false (by omega)
    have d4 : decide (a0_2 < 1) = false := decide_eq_false (by omega)
    have d5 : decide (64 < a0_2) = false := decide_eq_false (by omega)
    clear k0 k1 k2 k3 k4 k5
    have HC6 := Aside0.mk H
    clear H
    go_enter Try.func3, Try.ntmps3
    go_upto_region 6 with (first | ((with_reducible refine gate_dst (N := 2) rfl ?_); (try (refine gate_guard (by rfl) ?_; dsimp only)); refine box_event ?hg (N := 2) ?hd (cs := #[.int .i64 a0_0, .int .i64 a0_1, .int .i64 a0_2]) (t := 22) ?hr ?_; (case hd => rfl); (case hg => rfl); (case hr => first | (go_simp; done) | (go_simp; rfl)); intro gb131 hg w7 hbox hb; have n0_ := Aside0.mk (below_step (by repeat (first | (with_reducible first | exact HB.out | apply below_alloc | apply pw_below_drewN | apply below_drew1) | exact HB.out)) hb); have n1_ := Aside0.mk (hbox); have n2_ := Aside0.mk ((by rw [hg]; exact (below_size (by repeat (first | (with_reducible first | exact HB.out | apply below_alloc | apply pw_below_drewN | apply below_drew1) | exact HB.out))) : w.heap.size ≤ gb131)); have n3_ := Aside0.mk ((by rw [hg]; exact (below_size (by repeat (first | (with_reducible first | exact HB.out | apply below_alloc | apply pw_below_drewN | apply below_drew1) | exact HB.out))) : w.heap.size ≤ gb131)); clear HB; have HB := n0_; have BK131 := n1_; have GW131 := n2_; have GE131 := n3_; clear n0_ n1_ n2_ n3_; clear hb hbox hg) | ((with_reducible refine gate_callee (f := 6) rfl ?_); refine goesL_ (some 17) rfl rfl Try.func6 (by kernel_rfl) rfl #[] rfl (by (try simp only [List.map_toArray, List.map_cons, List.map_nil]); first | done | rfl | (simp only [List.length_drop, List.length_take]; rfl)) ?_; (with_reducible refine (incunablelaw27_awake.calls k  true _ A3.out).mono ?_); rintro e w8 ⟨rfl, hb⟩; refine ⟨_, rfl, ?_⟩; have n0_ := Aside0.mk (blk_below (g := gb131) (o := .cells #[.int .i64 a0_0, .int .i64 a0_1, .int .i64 a0_2] 22 (0, 0)) (by (with_reducible repeat (first | refine blk_drewN ?_ _ | refine blk_drew ?_ | refine blk_alloc ?_ _)); exact BK131.out) hb); have n1_ := Aside0.mk (below_step (by repeat (first | (with_reducible first | exact HB.out | apply below_alloc | apply pw_below_drewN | apply below_drew1 | refine below_set ?_ GE131.out) | exact HB.out)) hb); clear BK131; clear HB; have BK131 := n0_; have HB := n1_; clear n0_ n1_; (try clear hb); (try clear hb2); (try clear hk); (try clear hi); have hcz9_0 : w8.cell? ⟨gb131, 0, none⟩ = some (.int .i64 a0_0) := (blk_cell BK131.out 0).trans rfl; have hcz9_1 : w8.cell? ⟨gb131, 1, none⟩ = some (.int .i64 a0_1) := (blk_cell BK131.out 1).trans rfl; have hcz9_2 : w8.cell? ⟨gb131, 2, none⟩ = some (.int .i64 a0_2) := (blk_cell BK131.out 2).trans rfl; have hfz9_0 := blk_frozen BK131.out 0; have hfz9_1 := blk_frozen BK131.out 1; have hfz9_2 := blk_frozen BK131.out 2) | ((with_reducible refine gate_callee (f := 7) rfl ?_); refine goesL_ (some 26) rfl rfl Try.func7 (by kernel_rfl) rfl #[.int .i64 a0_0, .int .i64 a0_1, .int .i64 a0_2] rfl (by (try simp only [List.map_toArray, List.map_cons, List.map_nil]); first | done | rfl | (simp only [List.length_drop, List.length_take]; rfl)) ?_; (with_reducible refine (l2p_New.calls a0_0 a0_1 a0_2 t133 w _ ?side1 A5.out).mono ?_); (case side1 => repeat (first | (with_reducible first | exact HB.out | apply below_alloc | apply pw_below_drewN | apply below_drew1 | refine below_set ?_ GE131.out) | exact HB.out)); rintro e w10 ⟨g134, rfl, hi, hb, hb2⟩; refine ⟨_, rfl, ?_⟩; have n0_ := Aside0.mk (blk_below (g := gb131) (o := .cells #[.int .i64 a0_0, .int .i64 a0_1, .int .i64 a0_2] 22 (0, 0)) (by (with_reducible repeat (first | refine blk_drewN ?_ _ | refine blk_drew ?_ | refine blk_alloc ?_ _)); exact BK131.out) hb2); have n1_ := Aside0.mk (hb); have n2_ := Aside0.mk (hi); have n3_ := Aside0.mk (IsS49.ne_blk hi (blk_below (g := gb131) (o := .cells #[.int .i64 a0_0, .int .i64 a0_1, .int .i64 a0_2] 22 (0, 0)) (by (with_reducible repeat (first | refine blk_drewN ?_ _ | refine blk_drew ?_ | refine blk_alloc ?_ _)); exact BK131.out) hb2) (by decide)); have n4_ := Aside0.mk (Ne.symm (IsS49.ne_blk hi (blk_below (g := gb131) (o := .cells #[.int .i64 a0_0, .int .i64 a0_1, .int .i64 a0_2] 22 (0, 0)) (by (with_reducible repeat (first | refine blk_drewN ?_ _ | refine blk_drew ?_ | refine blk_alloc ?_ _)); exact BK131.out) hb2) (by decide))); clear BK131; clear HB; have BK131 := n0_; have HB := n1_; have HI134 := n2_; have NB134_131 := n3_; have NB131_134 := n4_; clear n0_ n1_ n2_ n3_ n4_; (try clear hb); (try clear hb2); (try clear hk); (try clear hi); have hcq_0 : w10.cell? ⟨gb131, 0, none⟩ = some (.int .i64 a0_0) := (blk_cell BK131.out 0).trans rfl; have hcq_1 : w10.cell? ⟨gb131, 1, none⟩ = some (.int .i64 a0_1) := (blk_cell BK131.out 1).trans rfl; have hcq_2 : w10.cell? ⟨gb131, 2, none⟩ = some (.int .i64 a0_2) := (blk_cell BK131.out 2).trans rfl))
    (try simp only [Act.put, List.setIfInBounds_toArray, List.set_cons_zero, List.set_cons_succ])
    go_cut [78] (fun v78 wc => ∃ (kq : Nat) (x78_5 : Bool), v78 = .bool x78_5 ∧ Aside0 (incunablelaw27_L2pPlays.j0 kq l1 0 x78_5 a0_0 a0_1 a0_2 t133 = some r) ∧ Aside0 (kq ≤ k) ∧ Aside0 (wc.heap[gb131]? = some (.cells #[.int .i64 a0_0, .int .i64 a0_1, .int .i64 a0_2] 22 (0, 0))) ∧ Aside0 (IsS49 w wc g134 t133) ∧ Aside0 (Below w.heap.size w wc))
    case first =>
      have H := HC6.out
      clear HC6
      by_cases c11 : a0_0 > 100
      · rw [if_pos c11] at H
        have c11b0 : decide (100 < a0_0) = true := decide_eq_true c11
        clear c11
        (first | rw [c11b0] | (simp only [i64_w, i32_w]; rw [c11b0]) | skip)
        have H' := Aside0.mk H
        clear H
        have hnb12 := NB131_134.out
        have hnc12 := NB134_131.out
        have hcz13_0 : w10.cell? ⟨gb131, 0, none⟩ = some (.int .i64 a0_0) := (blk_cell BK131.out 0).trans rfl
        have hcz13_1 : w10.cell? ⟨gb131, 1, none⟩ = some (.int .i64 a0_1) := (blk_cell BK131.out 1).trans rfl
        have hcz13_2 : w10.cell? ⟨gb131, 2, none⟩ = some (.int .i64 a0_2) := (blk_cell BK131.out 2).trans rfl
        have hfz13_0 := blk_frozen BK131.out 0
        have hfz13_1 := blk_frozen BK131.out 1
        have hfz13_2 := blk_frozen BK131.out 2
        go_wp2
        go_meet
        case rel => exact ⟨_, (true), (by first | rfl | (simp; done) | (simp [*]; done)), H', ⟨by first | omega | exact Nat.le_refl _⟩, ⟨by (with_reducible repeat (first | refine blk_drewN ?_ _ | refine blk_drew ?_ | refine blk_alloc ?_ _)); exact BK131.out⟩, ⟨by repeat (first | (with_reducible first | exact HI134.out | apply IsS49.alloc | apply IsS49.drewN | apply IsS49.drew | apply IsS49.set_0 | refine IsS49.far ?_ NB134_131.out _) | exact HI134.out)⟩, ⟨by repeat (first | (with_reducible first | exact HB.out | apply below_alloc | apply pw_below_drewN | apply below_drew1 | refine below_set ?_ (IsS49.ge HI134.out) | refine below_set ?_ GE131.out) | exact HB.out)⟩⟩
      · rw [if_neg c11] at H
        have c11b0 : decide (100 < a0_0) = false := decide_eq_false c11
        clear c11
        (first | rw [c11b0] | (simp only [i64_w, i32_w]; rw [c11b0]) | skip)
        by_cases c14 : (wrap64 (a0_1 * a0_2)) > 200
        · rw [if_pos c14] at H
          have c14b0 : decide (200 < (wrap64 (a0_1 * a0_2))) = true := decide_eq_true c14
          clear c14
          have H' := Aside0.mk H
          clear H
          have hnb15 := NB131_134.out
          have hnc15 := NB134_131.out
          have hcz16_0 : w10.cell? ⟨gb131, 0, none⟩ = some (.int .i64 a0_0) := (blk_cell BK131.out 0).trans rfl
          have hcz16_1 : w10.cell? ⟨gb131, 1, none⟩ = some (.int .i64 a0_1) := (blk_cell BK131.out 1).trans rfl
          have hcz16_2 : w10.cell? ⟨gb131, 2, none⟩ = some (.int .i64 a0_2) := (blk_cell BK131.out 2).trans rfl
          have hfz16_0 := blk_frozen BK131.out 0
          have hfz16_1 := blk_frozen BK131.out 1
          have hfz16_2 := blk_frozen BK131.out 2
          go_wp2
          go_meet
          case rel => exact ⟨_, (true), (by first | rfl | (simp; done) | (simp [*]; done)), H', ⟨by first | omega | exact Nat.le_refl _⟩, ⟨by (with_reducible repeat (first | refine blk_drewN ?_ _ | refine blk_drew ?_ | refine blk_alloc ?_ _)); exact BK131.out⟩, ⟨by repeat (first | (with_reducible first | exact HI134.out | apply IsS49.alloc | apply IsS49.drewN | apply IsS49.drew | apply IsS49.set_0 | refine IsS49.far ?_ NB134_131.out _) | exact HI134.out)⟩, ⟨by repeat (first | (with_reducible first | exact HB.out | apply below_alloc | apply pw_below_drewN | apply below_drew1 | refine below_set ?_ (IsS49.ge HI134.out) | refine below_set ?_ GE131.out) | exact HB.out)⟩⟩
        · rw [if_neg c14] at H
          have c14b0 : decide (200 < (wrap64 (a0_1 * a0_2))) = false := decide_eq_false c14
          clear c14
          have H' := Aside0.mk H
          clear H
          have hnb17 := NB131_134.out
          have hnc17 := NB134_131.out
          have hcz18_0 : w10.cell? ⟨gb131, 0, none⟩ = some (.int .i64 a0_0) := (blk_cell BK131.out 0).trans rfl
          have hcz18_1 : w10.cell? ⟨gb131, 1, none⟩ = some (.int .i64 a0_1) := (blk_cell BK131.out 1).trans rfl
          have hcz18_2 : w10.cell? ⟨gb131, 2, none⟩ = some (.int .i64 a0_2) := (blk_cell BK131.out 2).trans rfl
          have hfz18_0 := blk_frozen BK131.out 0
          have hfz18_1 := blk_frozen BK131.out 1
          have hfz18_2 := blk_frozen BK131.out 2
          go_wp2
          go_meet
          case rel => exact ⟨_, (decide ((l1.length : Int) > 60)), (by first | rfl | (simp; done) | (simp [*]; done)), H', ⟨by first | omega | exact Nat.le_refl _⟩, ⟨by (with_reducible repeat (first | refine blk_drewN ?_ _ | refine blk_drew ?_ | refine blk_alloc ?_ _)); exact BK131.out⟩, ⟨by repeat (first | (with_reducible first | exact HI134.out | apply IsS49.alloc | apply IsS49.drewN | apply IsS49.drew | apply IsS49.set_0 | refine IsS49.far ?_ NB134_131.out _) | exact HI134.out)⟩, ⟨by repeat (first | (with_reducible first | exact HB.out | apply below_alloc | apply pw_below_drewN | apply below_drew1 | refine below_set ?_ (IsS49.ge HI134.out) | refine below_set ?_ GE131.out) | exact HB.out)⟩⟩
    case rest =>
      clear HC6
      try clear c1
      try clear p2
      try clear c3
      try clear c4
      try clear c6
      try clear p6
      try clear c7
      try clear c11
      try clear c11b0
      try clear c12
      try clear c14
      try clear c14b0
      try clear c15
      try clear c17
      try clear hcz13_0
      try clear hcz13_1
      try clear hcz13_2
      try clear hcz16_0
      try clear hcz16_1
      try clear hcz16_2
      try clear hcz18_0
      try clear hcz18_1
      try clear hcz18_2
      try clear hcz9_0
      try clear hcz9_1
      try clear hcz9_2
      try clear hfz13_0
      try clear hfz13_1
      try clear hfz13_2
      try clear hfz16_0
      try clear hfz16_1
      try clear hfz16_2
      try clear hfz18_0
      try clear hfz18_1
      try clear hfz18_2
      try clear hfz9_0
      try clear hfz9_1
      try clear hfz9_2
      obtain ⟨kq, x78_5, rfl, HA, HJ5, BK131, HI134, HB⟩ := hcut
      cases kq with
      | zero => exact absurd HA.out (by simp [incunablelaw27_L2pPlays.j0])
      | succ kj5 =>
        have H := HA.out
        clear HA
        simp only [incunablelaw27_L2pPlays.j0] at H
        by_cases c19 : x78_5 = true
        · subst c19
          have H1 : (some true) = some r := by rw [if_pos rfl] at H; exact H
          clear H
          have H := H1
          clear H1
          obtain rfl := Option.some.inj H
          go_wp2
          go_ret
          exact ⟨by first | rfl | (simp [errW_none, errW_some] <;> rfl) | (simp [*, errW_none, errW_some] <;> rfl), by repeat (first | (with_reducible first | exact HB.out | apply below_alloc | apply pw_below_drewN | apply below_drew1 | refine below_set ?_ (IsS49.ge HI134.out) | refine below_set ?_ GE131.out) | exact HB.out)⟩
        · replace c19 := Bool.eq_false_iff.mpr c19
          subst c19
          have H1 : ((pr_New.f t133 a0_0 a0_1 a0_2).bind fun bt135 => (if 0 = 0 then (incunablelaw27_L2pPlays.l0 kj5 l1 (l1.length : Int) 0 a0_0 a0_1 a0_2 bt135.2) else (some false))) = some r := by rw [if_neg (show ¬ (false = true) by decide)] at H; exact H
          clear H
          have H := H1
          clear H1
          replace H := Option.bind_eq_some_iff.mp H
          obtain ⟨⟨t135, t136⟩, A200, H⟩ := H
          replace H : (if 0 = 0 then (incunablelaw27_L2pPlays.l0 kj5 l1 (l1.length : Int) 0 a0_0 a0_1 a0_2 t136) else (some false)) = some r := H
          have A20 := Aside0.mk A200
          clear A200
          by_cases c21 : 0 = 0
          · rw [if_pos c21] at H
            have c21b0 : (0 == 0) = true := beq_iff_eq.mpr c21
            have c21b1 : (0 != 0) = false := bne_eq_false_iff_eq.mpr c21
            clear c21
            have H' := Aside0.mk H
            clear H
            have hnb22 := NB131_134.out
            have hnc22 := NB134_131.out
            have hcz23_0 : wc.cell? ⟨gb131, 0, none⟩ = some (.int .i64 a0_0) := (blk_cell BK131.out 0).trans rfl
            have hcz23_1 : wc.cell? ⟨gb131, 1, none⟩ = some (.int .i64 a0_1) := (blk_cell BK131.out 1).trans rfl
            have hcz23_2 : wc.cell? ⟨gb131, 2, none⟩ = some (.int .i64 a0_2) := (blk_cell BK131.out 2).trans rfl
            have hfz23_0 := blk_frozen BK131.out 0
            have hfz23_1 := blk_frozen BK131.out 1
            have hfz23_2 := blk_frozen BK131.out 2
            go_wp2_with (first | ((with_reducible refine gate_callee (f := 8) rfl ?_); refine goesL_ (some 85) rfl rfl Try.func8 (by kernel_rfl) rfl #[.int .i64 a0_0, .int .i64 a0_1, .int .i64 a0_2] rfl (by (try simp only [List.map_toArray, List.map_cons, List.map_nil]); first | done | rfl | (simp only [List.length_drop, List.length_take]; rfl)) ?_; (with_reducible refine (pr_New.calls g134 t133 a0_0 a0_1 a0_2 t135 t136 w _ ?side1 ?side2 A20.out).mono ?_); (case side1 => repeat (first | (with_reducible first | exact HI134.out | apply IsS49.alloc | apply IsS49.drewN | apply IsS49.drew | apply IsS49.set_0 | refine IsS49.far ?_ NB134_131.out _) | exact HI134.out)); (case side2 => repeat (first | (with_reducible first | exact HB.out | apply below_alloc | apply pw_below_drewN | apply below_drew1 | refine below_set ?_ (IsS49.ge HI134.out) | refine below_set ?_ GE131.out) | exact HB.out)); rintro e w24 ⟨hR, rfl, hi, hb, hk⟩; refine ⟨_, rfl, ?_⟩; have n0_ := Aside0.mk (blk_below (by (with_reducible repeat (first | refine blk_drewN ?_ _ | refine blk_drew ?_ | refine blk_alloc ?_ _)); exact BK131.out) hk); have n1_ := Aside0.mk (hb); have n2_ := Aside0.mk (hi); clear BK131; clear HB; clear HI134; have BK131 := n0_; have HB := n1_; have HI134 := n2_; clear n0_ n1_ n2_; (try clear hb); (try clear hb2); (try clear hk); (try clear hi)))
            go_loopg [90] kj5 (fun kq v90 w' => ∃ (x90_2 : Int) (x135000_2 : P), v90 = .int .i64 x90_2 ∧ Aside0 (incunablelaw27_L2pPlays.l0 kq l1 (l1.length : Int) x90_2 a0_0 a0_1 a0_2 x135000_2 = some r) ∧ Aside0 (kq ≤ kj5) ∧ Aside0 (w'.heap[gb131]? = some (.cells #[.int .i64 a0_0, .int .i64 a0_1, .int .i64 a0_2] 22 (0, 0))) ∧ Aside0 (IsP w w' g134 hR x135000_2) ∧ Aside0 (Below w.heap.size w w'))
            case atStart => exact ⟨(0), (t136), (by first | rfl | (simp; done) | (simp [*]; done)), H', ⟨Nat.le_refl _⟩, ⟨by (with_reducible repeat (first | refine blk_drewN ?_ _ | refine blk_drew ?_ | refine blk_alloc ?_ _)); exact BK131.out⟩, ⟨by repeat (first | (with_reducible first | exact HI134.out | apply IsP.alloc | apply IsP.drewN | apply IsP.drew | apply IsP.set_0 | refine IsP.far ?_ NB134_131.out _) | exact HI134.out)⟩, ⟨by repeat (first | (with_reducible first | exact HB.out | apply below_alloc | apply pw_below_drewN | apply below_drew1 | refine below_set ?_ (IsP.ge HI134.out) | refine below_set ?_ GE131.out) | exact HB.out)⟩⟩
            case round =>
              clear H'
              try clear c1
              try clear c2
              try clear p2
              try clear c3
              try clear c4
              try clear c6
              try clear p6
              try clear c7
              try clear c8
              try clear c11
              try clear c11b0
              try clear c12
              try clear c14
              try clear c14b0
              try clear c15
              try clear c17
              try clear c19
              try clear c21
              try clear c21b0
              try clear c21b1
              try clear c22
              try clear hcz13_0
              try clear hcz13_1
              try clear hcz13_2
              try clear hcz16_0
              try clear hcz16_1
              try clear hcz16_2
              try clear hcz18_0
              try clear hcz18_1
              try clear hcz18_2
              try clear hcz23_0
              try clear hcz23_1
              try clear hcz23_2
              try clear hcz9_0
              try clear hcz9_1
              try clear hcz9_2
              try clear hfz13_0
              try clear hfz13_1
              try clear hfz13_2
              try clear hfz16_0
              try clear hfz16_1
              try clear hfz16_2
              try clear hfz18_0
              try clear hfz18_1
              try clear hfz18_2
              try clear hfz23_0
              try clear hfz23_1
              try clear hfz23_2
              try clear hfz9_0
              try clear hfz9_1
              try clear hfz9_2
              try clear p2
              try clear p6
              obtain ⟨x90_2, x135000_2, rfl, HA, HK2, BK131, HI134, HB⟩ := hrel
              cases gk with
              | zero => exact absurd HA.out (by simp [incunablelaw27_L2pPlays.l0])
              | succ k2 =>
                have H := HA.out
                clear HA
                simp only [incunablelaw27_L2pPlays.l0] at H
                by_cases c25 : x90_2 < (l1.length : Int)
                · rw [if_pos c25] at H
                  have c25b0 : decide (x90_2 < (l1.length : Int)) = true := decide_eq_true c25
                  clear c25
                  by_cases c26 : 0 ≤ x90_2
                  · rw [if_pos c26] at H
                    have c26b0 : decide (0 ≤ x90_2) = true := decide_eq_true c26
                    clear c26
                    by_cases c27 : x90_2 < (l1.length : Int)
                    · rw [if_pos c27] at H
                      have c27b0 : decide (x90_2 < (l1.length : Int)) = true := decide_eq_true c27
                      clear c27
                      by_cases c28 : ((rd_T32 l1 x90_2).f0) = 1
                      · rw [if_pos c28] at H
                        have c28b0 : (((rd_T32 l1 x90_2).f0) == 1) = true := beq_iff_eq.mpr c28
                        have c28b1 : (((rd_T32 l1 x90_2).f0) != 1) = false := bne_eq_false_iff_eq.mpr c28
                        clear c28
                        replace H := Option.bind_eq_some_iff.mp H
                        obtain ⟨⟨t139, t140⟩, A290, H⟩ := H
                        replace H : ((pr_Set.f t140 ((rd_T32 l1 x90_2).f1) ((rd_T32 l1 x90_2).f2)).bind fun bt141 => (if t139 = bt141.1 then (incunablelaw27_L2pPlays.l0 k2 l1 (l1.length : Int) (wrap64 (x90_2 + 1)) a0_0 a0_1 a0_2 bt141.2) else (some false))) = some r := H
                        have A29 := Aside0.mk A290
                        clear A290
                        replace H := Option.bind_eq_some_iff.mp H
                        obtain ⟨⟨t141, t142⟩, A300, H⟩ := H
                        replace H : (if t139 = t141 then (incunablelaw27_L2pPlays.l0 k2 l1 (l1.length : Int) (wrap64 (x90_2 + 1)) a0_0 a0_1 a0_2 t142) else (some false)) = some r := H
                        have A30 := Aside0.mk A300
                        clear A300
                        by_cases c31 : t139 = t141
                        · rw [if_pos c31] at H
                          have c31b0 : (t139 == t141) = true := beq_iff_eq.mpr c31
                          have c31b1 : (t139 != t141) = false := bne_eq_false_iff_eq.mpr c31
                          clear c31
                          have H' := Aside0.mk H
                          clear H
                          have p137 : 0 ≤ (x90_2 : Int) := of_decide_eq_true (by first | (with_reducible assumption) | assumption)
                          have q137 : x90_2 < (l1.length : Int) := of_decide_eq_true (by first | (with_reducible assumption) | assumption)
                          obtain ⟨ad137, e137, hx137_0, hx137_1, hx137_2⟩ := at_T32 HR1.out x90_2 p137 q137
                          cases e137
                          replace hx137_0 := (HB.out.cell (World.block_lt_of_cell? w _ hx137_0)).trans hx137_0
                          replace hx137_1 := (HB.out.cell (World.block_lt_of_cell? w _ hx137_1)).trans hx137_1
                          replace hx137_2 := (HB.out.cell (World.block_lt_of_cell? w _ hx137_2)).trans hx137_2
                          replace p137 := eq_true p137
                          replace q137 := eq_true q137
                          try go_wp2_with (first | ((with_reducible refine gate_dst (N := 9) rfl ?_); (try (refine gate_guard (by rfl) ?_; dsimp only)); refine box_event ?hg (N := 9) ?hd (cs := #[.int .i64 0, .int .i64 0, .int .i64 0]) (t := 32) ?hr ?_; (case hd => rfl); (case hg => rfl); (case hr => first | (go_simp; done) | (go_simp; rfl)); intro gb138 hg w32 hbox hb; have n0_ := Aside0.mk (blk_below (g := gb131) (o := .cells #[.int .i64 a0_0, .int .i64 a0_1, .int .i64 a0_2] 22 (0, 0)) (by (with_reducible repeat (first | refine blk_drewN ?_ _ | refine blk_drew ?_ | refine blk_alloc ?_ _)); exact BK131.out) hb); have n1_ := Aside0.mk (IsP.below (by repeat (first | (with_reducible first | exact HI134.out | apply IsP.alloc | apply IsP.drewN | apply IsP.drew | apply IsP.set_0 | refine IsP.far ?_ NB134_131.out _) | exact HI134.out)) hb); have n2_ := Aside0.mk (below_step (by repeat (first | (with_reducible first | exact HB.out | apply below_alloc | apply pw_below_drewN | apply below_drew1 | refine below_set ?_ (IsP.ge HI134.out) | refine below_set ?_ GE131.out) | exact HB.out)) hb); have n3_ := Aside0.mk (hbox); have n4_ := Aside0.mk ((by rw [hg]; exact (below_size (by repeat (first | (with_reducible first | exact HB.out | apply below_alloc | apply pw_below_drewN | apply below_drew1 | refine below_set ?_ (IsP.ge HI134.out) | refine below_set ?_ GE131.out) | exact HB.out))) : w.heap.size ≤ gb138)); have n5_ := Aside0.mk ((by rw [hg]; exact (below_size (by repeat (first | (with_reducible first | exact HB.out | apply below_alloc | apply pw_below_drewN | apply below_drew1 | refine below_set ?_ (IsP.ge HI134.out) | refine below_set ?_ GE131.out) | exact HB.out))) : w.heap.size ≤ gb138)); have n6_ := Aside0.mk ((by rw [hg]; exact Nat.ne_of_lt (blk_lt (g := gb131) (o := .cells #[.int .i64 a0_0, .int .i64 a0_1, .int .i64 a0_2] 22 (0, 0)) (by (with_reducible repeat (first | refine blk_drewN ?_ _ | refine blk_drew ?_ | refine blk_alloc ?_ _)); exact BK131.out)) : gb131 ≠ gb138)); have n7_ := Aside0.mk ((by rw [hg]; exact Nat.ne_of_gt (blk_lt (g := gb131) (o := .cells #[.int .i64 a0_0, .int .i64 a0_1, .int .i64 a0_2] 22 (0, 0)) (by (with_reducible repeat (first | refine blk_drewN ?_ _ | refine blk_drew ?_ | refine blk_alloc ?_ _)); exact BK131.out)) : gb138 ≠ gb131)); have n8_ := Aside0.mk ((by rw [hg]; exact Nat.ne_of_lt (IsP.lt (show IsP w _ g134 hR x135000_2 from by repeat (first | (with_reducible first | exact HI134.out | apply IsP.alloc | apply IsP.drewN | apply IsP.drew | apply IsP.set_0 | refine IsP.far ?_ NB134_131.out _) | exact HI134.out))) : g134 ≠ gb138)); have n9_ := Aside0.mk ((by rw [hg]; exact Nat.ne_of_gt (IsP.lt (show IsP w _ g134 hR x135000_2 from by repeat (first | (with_reducible first | exact HI134.out | apply IsP.alloc | apply IsP.drewN | apply IsP.drew | apply IsP.set_0 | refine IsP.far ?_ NB134_131.out _) | exact HI134.out))) : gb138 ≠ g134)); clear BK131; clear HI134; clear HB; have BK131 := n0_; have HI134 := n1_; have HB := n2_; have BK138 := n3_; have GW138 := n4_; have GE138 := n5_; have NB131_138 := n6_; have NB138_131 := n7_; have NB134_138 := n8_; have NB138_134 := n9_; clear n0_ n1_ n2_ n3_ n4_ n5_ n6_ n7_ n8_ n9_; clear hb hbox hg; have hnb33 := NB138_131.out; have hnc33 := NB131_138.out; have hnb34 := NB138_134.out; have hnc34 := NB134_138.out; have hcz35_0 : w32.cell? ⟨gb138, 0, none⟩ = some (.int .i64 0) := (blk_cell BK138.out 0).trans rfl; have hcz35_1 : w32.cell? ⟨gb138, 1, none⟩ = some (.int .i64 0) := (blk_cell BK138.out 1).trans rfl; have hcz35_2 : w32.cell? ⟨gb138, 2, none⟩ = some (.int .i64 0) := (blk_cell BK138.out 2).trans rfl; have hfz35_0 := blk_frozen BK138.out 0; have hfz35_1 := blk_frozen BK138.out 1; have hfz35_2 := blk_frozen BK138.out 2) | ((with_reducible refine gate_store (t := 32) (p := 9) rfl ?_); refine store_event (t := 32) (p := 9) (v := ?vo_) (w1 := ((w32.setCell ⟨gb138, 0, none⟩ (.int .i64 ((rd_T32 l1 x90_2).f0))).setCell ⟨gb138, 1, none⟩ (.int .i64 ((rd_T32 l1 x90_2).f1))).setCell ⟨gb138, 2, none⟩ (.int .i64 ((rd_T32 l1 x90_2).f2))) ?hg ?ho ?hn ?hr ?_; (case ho => rfl); (case hg => rfl); (case hn => rfl); (case hr => first | (go_simp; done) | (go_simp; rfl)); intro w32s hw; have m0_ : Aside0 (w32s.heap[gb131]? = some (.cells #[.int .i64 a0_0, .int .i64 a0_1, .int .i64 a0_2] 22 (0, 0))) := ⟨by rw [hw]; exact blk_far (blk_far (blk_far BK131.out NB131_138.out _) NB131_138.out _) NB131_138.out _⟩; have m1_ : Aside0 (w32s.heap[gb138]? = some (.cells #[.int .i64 ((rd_T32 l1 x90_2).f0), .int .i64 ((rd_T32 l1 x90_2).f1), .int .i64 ((rd_T32 l1 x90_2).f2)] 32 (0, 0))) := ⟨by rw [hw]; exact blk_put (blk_put (blk_put BK138.out 0 _ rfl) 1 _ rfl) 2 _ rfl⟩; have m2_ : Aside0 (IsP w w32s g134 hR x135000_2) := ⟨by rw [hw]; exact IsP.far3 HI134.out BK138.out (by decide) (by decide) (by decide) _ _ _⟩; have m3_ : Aside0 (Below w.heap.size w w32s) := ⟨by rw [hw]; exact below_set (below_set (below_set HB.out GE138.out) GE138.out) GE138.out⟩; clear BK131; clear BK138; clear HI134; clear HB; have BK131 := m0_; have BK138 := m1_; have HI134 := m2_; have HB := m3_; clear m0_ m1_ m2_ m3_ hw; (try clear hcz35_0 hcz35_1 hcz35_2 hfz35_0 hfz35_1 hfz35_2); have hys138_0 : w32s.cell? ⟨gb138, 0, none⟩ = some (.int .i64 ((rd_T32 l1 x90_2).f0)) := (blk_cell BK138.out 0).trans rfl; have hzs138_0 := blk_frozen BK138.out 0; have hys138_1 : w32s.cell? ⟨gb138, 1, none⟩ = some (.int .i64 ((rd_T32 l1 x90_2).f1)) := (blk_cell BK138.out 1).trans rfl; have hzs138_1 := blk_frozen BK138.out 1; have hys138_2 : w32s.cell? ⟨gb138, 2, none⟩ = some (.int .i64 ((rd_T32 l1 x90_2).f2)) := (blk_cell BK138.out 2).trans rfl; have hzs138_2 := blk_frozen BK138.out 2))
                          have n0_ := Aside0.mk (blk_drew BK131.out)
                          have n1_ := Aside0.mk (blk_drew BK138.out)
                          have n2_ := Aside0.mk (IsP.drew HI134.out)
                          have n3_ := Aside0.mk (below_drew1 HB.out)
                          clear BK131
                          clear BK138
                          clear HI134
                          clear HB
                          have BK131 := n0_
                          have BK138 := n1_
                          have HI134 := n2_
                          have HB := n3_
                          clear n0_ n1_ n2_ n3_
                          refine start_ (n := 14) (S := fun w' => w'.cell? ⟨gb138, 0, none⟩ = some (.int .i64 ((rd_T32 l1 x90_2).f0)) ∧ w'.cell? ⟨gb138, 1, none⟩ = some (.int .i64 ((rd_T32 l1 x90_2).f1)) ∧ w'.cell? ⟨gb138, 2, none⟩ = some (.int .i64 ((rd_T32 l1 x90_2).f2))) (ds := []) #[false, false, false, false, false, false, false, false, false, false, false, false, false, false] (by kernel_rfl) rfl rfl ⟨(blk_cell BK138.out 0).trans rfl, (blk_cell BK138.out 1).trans rfl, (blk_cell BK138.out 2).trans rfl⟩ (fun hHeld => ?_); refine with_tabW incunablelaw27_L2pPlays.tab17 incunablelaw27_L2pPlays.bits17 (fun HT_ HW_ => ?_)
                          generalize w32s.drew = w37 at BK131 BK138 HI134 HB hHeld ⊢
                          refine pure_ (i := 0) (N := some 98) (v := ?_) (a' := ?_) #[true, false, false, false, false, false, false, false, false, false, false, false, false, false] rfl rfl (any_of HT_.out (by kernel_rfl)) (fun _ _ _ h => h) (Or.inl ⟨by rfl, ?_⟩) ?_ ?_
                          rotate_left
                          · intro w'
                            go_simp
                            with_reducible rfl
                          rotate_left
                          · simp only [Act.put, List.setIfInBounds_toArray, List.set_cons_zero, List.set_cons_succ, i64_w, i32_w]
                            rfl
                          refine pure_ (i := 1) (N := some 99) (v := ?_) (a' := ?_) #[true, true, false, false, false, false, false, false, false, false, false, false, false, false] rfl rfl (any_of HT_.out (by kernel_rfl)) (fun _ _ _ h => h) (Or.inl ⟨by rfl, ?_⟩) ?_ ?_
                          rotate_left
                          · intro w'
                            go_simp
                            with_reducible rfl
                          rotate_left
                          · simp only [Act.put, List.setIfInBounds_toArray, List.set_cons_zero, List.set_cons_succ, i64_w, i32_w]
                            rfl
                          refine pure_ (i := 3) (N := some 101) (v := ?_) (a' := ?_) #[true, true, false, true, false, false, false, false, false, false, false, false, false, false] rfl rfl (any_of HT_.out (by kernel_rfl)) (fun _ _ _ h => h) (Or.inl ⟨by rfl, ?_⟩) ?_ ?_
                          rotate_left
                          · intro w'
                            go_simp
                            with_reducible rfl
                          rotate_left
                          · simp only [Act.put, List.setIfInBounds_toArray, List.set_cons_zero, List.set_cons_succ, i64_w, i32_w]
                            rfl
                          refine pure_ (i := 6) (N := some 104) (v := ?_) (a' := ?_) #[true, true, false, true, false, false, true, false, false, false, false, false, false, false] rfl rfl (any_of HT_.out (by kernel_rfl)) (fun _ _ _ h => h) (Or.inl ⟨by rfl, ?_⟩) ?_ ?_
                          rotate_left
                          · intro w'
                            go_simp
                            with_reducible rfl
                          rotate_left
                          · simp only [Act.put, List.setIfInBounds_toArray, List.set_cons_zero, List.set_cons_succ, i64_w, i32_w]
                            rfl
                          refine pure_ (i := 7) (N := some 105) (v := ?_) (a' := ?_) #[true, true, false, true, false, false, true, true, false, false, false, false, false, false] rfl rfl (any_of HT_.out (by kernel_rfl)) (fun _ _ _ h => h) (Or.inl ⟨by rfl, ?_⟩) ?_ ?_
                          rotate_left
                          · intro w'
                            go_simp
                            with_reducible rfl
                          rotate_left
                          · simp only [Act.put, List.setIfInBounds_toArray, List.set_cons_zero, List.set_cons_succ, i64_w, i32_w]
                            rfl
                          refine pure_ (i := 9) (N := some 107) (v := ?_) (a' := ?_) #[true, true, false, true, false, false, true, true, false, true, false, false, false, false] rfl rfl (any_of HT_.out (by kernel_rfl)) (fun _ _ _ h => h) (Or.inl ⟨by rfl, ?_⟩) ?_ ?_
                          rotate_left
                          · intro w'
                            go_simp
                            with_reducible rfl
                          rotate_left
                          · simp only [Act.put, List.setIfInBounds_toArray, List.set_cons_zero, List.set_cons_succ, i64_w, i32_w]
                            rfl
                          refine take_ (i := 2) (N := some 100) (v := ?_) (a' := ?_) #[true, true, true, true, false, false, true, true, false, true, false, false, false, false] rfl rfl (take_ofW HT_.out HW_.out (by kernel_rfl)) (fun _ _ _ h => h) (Or.inl ⟨by rfl, ?_⟩) hHeld ?_ ?_
                          rotate_left
                          · rintro w' ⟨s0, s1, s2⟩
                            go_simp
                            with_reducible rfl
                          rotate_left
                          · simp only [Act.put, List.setIfInBounds_toArray, List.set_cons_zero, List.set_cons_succ, i64_w, i32_w]
                            rfl
                          refine take_ (i := 4) (N := some 102) (v := ?_) (a' := ?_) #[true, true, true, true, true, false, true, true, false, true, false, false, false, false] rfl rfl (take_ofW HT_.out HW_.out (by kernel_rfl)) (fun _ _ _ h => h) (Or.inl ⟨by rfl, ?_⟩) hHeld ?_ ?_
                          rotate_left
                          · rintro w' ⟨s0, s1, s2⟩
                            go_simp
                            with_reducible rfl
                          rotate_left
                          · simp only [Act.put, List.setIfInBounds_toArray, List.set_cons_zero, List.set_cons_succ, i64_w, i32_w]
                            rfl
                          refine take_ (i := 8) (N := some 106) (v := ?_) (a' := ?_) #[true, true, true, true, true, false, true, true, true, true, false, false, false, false] rfl rfl (take_ofW HT_.out HW_.out (by kernel_rfl)) (fun _ _ _ h => h) (Or.inl ⟨by rfl, ?_⟩) hHeld ?_ ?_
                          rotate_left
                          · rintro w' ⟨s0, s1, s2⟩
                            go_simp
                            with_reducible rfl
                          rotate_left
                          · simp only [Act.put, List.setIfInBounds_toArray, List.set_cons_zero, List.set_cons_succ, i64_w, i32_w]
                            rfl
                          refine take_ (i := 10) (N := some 108) (v := ?_) (a' := ?_) #[true, true, true, true, true, false, true, true, true, true, true, false, false, false] rfl rfl (take_ofW HT_.out HW_.out (by kernel_rfl)) (fun _ _ _ h => h) (Or.inl ⟨by rfl, ?_⟩) hHeld ?_ ?_
                          rotate_left
                          · rintro w' ⟨s0, s1, s2⟩
                            go_simp
                            with_reducible rfl
                          rotate_left
                          · simp only [Act.put, List.setIfInBounds_toArray, List.set_cons_zero, List.set_cons_succ, i64_w, i32_w]
                            rfl
                          refine one_ (i := 5) (N := some 103) #[true, true, true, true, true, true, true, true, true, true, true, false, false, false] rfl rfl (one_of HT_.out (by kernel_rfl)) (by decide) (fun K hK => ?_)
                          refine goes_ Try.func9 (by kernel_rfl) rfl #[.pointer (some ⟨g134, 0, none⟩), .int .i64 ((rd_T32 l1 x90_2).f1), .int .i64 ((rd_T32 l1 x90_2).f2)] (by rfl) rfl rfl (by (try simp only [List.map_toArray, List.map_cons, List.map_nil]); first | done | rfl | (simp only [List.length_drop, List.length_take]; rfl)) ?_
                          with_reducible refine (pm_Set.calls g134 hR x135000_2 ((rd_T32 l1 x90_2).f1) ((rd_T32 l1 x90_2).f2) t139 t140 w _ ?side1 ?side2 A29.out).mono ?_
                          (case side1 => repeat (first | (with_reducible first | exact HI134.out | apply IsP.alloc | apply IsP.drewN | apply IsP.drew | apply IsP.set_0 | refine IsP.far ?_ NB134_131.out _ | refine IsP.far ?_ NB134_138.out _) | exact HI134.out))
                          (case side2 => repeat (first | (with_reducible first | exact HB.out | apply below_alloc | apply pw_below_drewN | apply below_drew1 | refine below_set ?_ (IsP.ge HI134.out) | refine below_set ?_ GE131.out | refine below_set ?_ GE138.out) | exact HB.out))
                          rintro e w38 ⟨rfl, hi, hb, hk⟩
                          refine ⟨_, rfl, ?_⟩
                          have n0_ := Aside0.mk (KeepP.blk hk (by (with_reducible repeat (first | refine blk_drewN ?_ _ | refine blk_drew ?_ | refine blk_alloc ?_ _)); exact BK131.out) (by decide) (by decide) (by decide))
                          have n1_ := Aside0.mk (KeepP.blk hk (by (with_reducible repeat (first | refine blk_drewN ?_ _ | refine blk_drew ?_ | refine blk_alloc ?_ _)); exact BK138.out) (by decide) (by decide) (by decide))
                          have n2_ := Aside0.mk (hb)
                          have n3_ := Aside0.mk (hi)
                          clear BK131
                          clear BK138
                          clear HB
                          clear HI134
                          have BK131 := n0_
                          have BK138 := n1_
                          have HB := n2_
                          have HI134 := n3_
                          clear n0_ n1_ n2_ n3_
                          (try clear hb)
                          (try clear hb2)
                          (try clear hk)
                          (try clear hi)
                          refine hK.out _ _ ⟨(blk_cell BK138.out 0).trans rfl, (blk_cell BK138.out 1).trans rfl, (blk_cell BK138.out 2).trans rfl⟩ (fun hHeld => ?_)
                          clear hK K
                          refine norm_ (a' := ?_) ?_ ?_
                          rotate_left
                          · show Act.put _ (some 103) _ = _
                            simp only [Act.put, List.setIfInBounds_toArray, List.set_cons_zero, List.set_cons_succ, i64_w, i32_w]
                            rfl
                          refine one_ (i := 11) (N := some 109) #[true, true, true, true, true, true, true, true, true, true, true, true, false, false] rfl rfl (one_of HT_.out (by kernel_rfl)) (by decide) (fun K hK => ?_)
                          refine goes_ Try.func10 (by kernel_rfl) rfl #[.pointer (some ⟨hR, 0, none⟩), .int .i64 ((rd_T32 l1 x90_2).f1), .int .i64 ((rd_T32 l1 x90_2).f2)] (by rfl) rfl rfl (by (try simp only [List.map_toArray, List.map_cons, List.map_nil]); first | done | rfl | (simp only [List.length_drop, List.length_take]; rfl)) ?_
                          with_reducible refine (pr_Set.calls g134 hR t140 ((rd_T32 l1 x90_2).f1) ((rd_T32 l1 x90_2).f2) t141 t142 w _ ?side1 ?side2 A30.out).mono ?_
                          (case side1 => repeat (first | (with_reducible first | exact HI134.out | apply IsP.alloc | apply IsP.drewN | apply IsP.drew | apply IsP.set_0 | refine IsP.far ?_ NB134_131.out _ | refine IsP.far ?_ NB134_138.out _) | exact HI134.out))
                          (case side2 => repeat (first | (with_reducible first | exact HB.out | apply below_alloc | apply pw_below_drewN | apply below_drew1 | refine below_set ?_ (IsP.ge HI134.out) | refine below_set ?_ GE131.out | refine below_set ?_ GE138.out) | exact HB.out))
                          rintro e w39 ⟨rfl, hi, hb, hk⟩
                          refine ⟨_, rfl, ?_⟩
                          have n0_ := Aside0.mk (KeepP.blk hk (by (with_reducible repeat (first | refine blk_drewN ?_ _ | refine blk_drew ?_ | refine blk_alloc ?_ _)); exact BK131.out) (by decide) (by decide) (by decide))
                          have n1_ := Aside0.mk (KeepP.blk hk (by (with_reducible repeat (first | refine blk_drewN ?_ _ | refine blk_drew ?_ | refine blk_alloc ?_ _)); exact BK138.out) (by decide) (by decide) (by decide))
                          have n2_ := Aside0.mk (hb)
                          have n3_ := Aside0.mk (hi)
                          clear BK131
                          clear BK138
                          clear HB
                          clear HI134
                          have BK131 := n0_
                          have BK138 := n1_
                          have HB := n2_
                          have HI134 := n3_
                          clear n0_ n1_ n2_ n3_
                          (try clear hb)
                          (try clear hb2)
                          (try clear hk)
                          (try clear hi)
                          refine hK.out _ _ ⟨(blk_cell BK138.out 0).trans rfl, (blk_cell BK138.out 1).trans rfl, (blk_cell BK138.out 2).trans rfl⟩ (fun hHeld => ?_)
                          clear hK K
                          refine norm_ (a' := ?_) ?_ ?_
                          rotate_left
                          · show Act.put _ (some 109) _ = _
                            simp only [Act.put, List.setIfInBounds_toArray, List.set_cons_zero, List.set_cons_succ, i64_w, i32_w]
                            rfl
                          refine pure_ (i := 12) (N := some 110) (v := ?_) (a' := ?_) #[true, true, true, true, true, true, true, true, true, true, true, true, true, false] rfl rfl (any_of HT_.out (by kernel_rfl)) (fun _ _ _ h => h) (Or.inl ⟨by rfl, ?_⟩) ?_ ?_
                          rotate_left
                          · intro w'
                            go_simp
                            with_reducible rfl
                          rotate_left
                          · simp only [Act.put, List.setIfInBounds_toArray, List.set_cons_zero, List.set_cons_succ, i64_w, i32_w]
                            rfl
                          refine pure_ (i := 13) (N := some 10) (v := ?_) (a' := ?_) #[true, true, true, true, true, true, true, true, true, true, true, true, true, true] rfl rfl (any_of HT_.out (by kernel_rfl)) (fun _ _ _ h => h) (Or.inl ⟨by rfl, ?_⟩) ?_ ?_
                          rotate_left
                          · intro w'
                            go_simp
                            with_reducible rfl
                          rotate_left
                          · simp only [Act.put, List.setIfInBounds_toArray, List.set_cons_zero, List.set_cons_succ, i64_w, i32_w]
                            rfl
                          refine done_ (done_of HT_.out (by kernel_rfl)) ?_
                          try go_wp2
                          go_roundg k2
                          case measure => have := HJ5.out; have := HK2.out; omega
                          case rel => exact ⟨(wrap64 (x90_2 + 1)), (t142), (by first | rfl | (simp; done) | (simp [*]; done)), H', ⟨by have := HJ5.out; have := HK2.out; omega⟩, ⟨by (with_reducible repeat (first | refine blk_drewN ?_ _ | refine blk_drew ?_ | refine blk_alloc ?_ _)); exact BK131.out⟩, ⟨by repeat (first | (with_reducible first | exact HI134.out | apply IsP.alloc | apply IsP.drewN | apply IsP.drew | apply IsP.set_0 | refine IsP.far ?_ NB134_131.out _ | refine IsP.far ?_ NB134_138.out _) | exact HI134.out)⟩, ⟨by repeat (first | (with_reducible first | exact HB.out | apply below_alloc | apply pw_below_drewN | apply below_drew1 | refine below_set ?_ (IsP.ge HI134.out) | refine below_set ?_ GE131.out | refine below_set ?_ GE138.out) | exact HB.out)⟩⟩
                        · rw [if_neg c31] at H
                          have c31b0 : (t139 == t141) = false := beq_eq_false_iff_ne.mpr c31
                          have c31b1 : (t139 != t141) = true := bne_iff_ne.mpr c31
                          obtain rfl := Option.some.inj H
                          have p137 : 0 ≤ (x90_2 : Int) := of_decide_eq_true (by first | (with_reducible assumption) | assumption)
                          have q137 : x90_2 < (l1.length : Int) := of_decide_eq_true (by first | (with_reducible assumption) | assumption)
                          obtain ⟨ad137, e137, hx137_0, hx137_1, hx137_2⟩ := at_T32 HR1.out x90_2 p137 q137
                          cases e137
                          replace hx137_0 := (HB.out.cell (World.block_lt_of_cell? w _ hx137_0)).trans hx137_0
                          replace hx137_1 := (HB.out.cell (World.block_lt_of_cell? w _ hx137_1)).trans hx137_1
                          replace hx137_2 := (HB.out.cell (World.block_lt_of_cell? w _ hx137_2)).trans hx137_2
                          replace p137 := eq_true p137
                          replace q137 := eq_true q137
                          try go_wp2_with (first | ((with_reducible refine gate_dst (N := 9) rfl ?_); (try (refine gate_guard (by rfl) ?_; dsimp only)); refine box_event ?hg (N := 9) ?hd (cs := #[.int .i64 0, .int .i64 0, .int .i64 0]) (t := 32) ?hr ?_; (case hd => rfl); (case hg => rfl); (case hr => first | (go_simp; done) | (go_simp; rfl)); intro gb138 hg w40 hbox hb; have n0_ := Aside0.mk (blk_below (g := gb131) (o := .cells #[.int .i64 a0_0, .int .i64 a0_1, .int .i64 a0_2] 22 (0, 0)) (by (with_reducible repeat (first | refine blk_drewN ?_ _ | refine blk_drew ?_ | refine blk_alloc ?_ _)); exact BK131.out) hb); have n1_ := Aside0.mk (IsP.below (by repeat (first | (with_reducible first | exact HI134.out | apply IsP.alloc | apply IsP.drewN | apply IsP.drew | apply IsP.set_0 | refine IsP.far ?_ NB134_131.out _) | exact HI134.out)) hb); have n2_ := Aside0.mk (below_step (by repeat (first | (with_reducible first | exact HB.out | apply below_alloc | apply pw_below_drewN | apply below_drew1 | refine below_set ?_ (IsP.ge HI134.out) | refine below_set ?_ GE131.out) | exact HB.out)) hb); have n3_ := Aside0.mk (hbox); have n4_ := Aside0.mk ((by rw [hg]; exact (below_size (by repeat (first | (with_reducible first | exact HB.out | apply below_alloc | apply pw_below_drewN | apply below_drew1 | refine below_set ?_ (IsP.ge HI134.out) | refine below_set ?_ GE131.out) | exact HB.out))) : w.heap.size ≤ gb138)); have n5_ := Aside0.mk ((by rw [hg]; exact (below_size (by repeat (first | (with_reducible first | exact HB.out | apply below_alloc | apply pw_below_drewN | apply below_drew1 | refine below_set ?_ (IsP.ge HI134.out) | refine below_set ?_ GE131.out) | exact HB.out))) : w.heap.size ≤ gb138)); have n6_ := Aside0.mk ((by rw [hg]; exact Nat.ne_of_lt (blk_lt (g := gb131) (o := .cells #[.int .i64 a0_0, .int .i64 a0_1, .int .i64 a0_2] 22 (0, 0)) (by (with_reducible repeat (first | refine blk_drewN ?_ _ | refine blk_drew ?_ | refine blk_alloc ?_ _)); exact BK131.out)) : gb131 ≠ gb138)); have n7_ := Aside0.mk ((by rw [hg]; exact Nat.ne_of_gt (blk_lt (g := gb131) (o := .cells #[.int .i64 a0_0, .int .i64 a0_1, .int .i64 a0_2] 22 (0, 0)) (by (with_reducible repeat (first | refine blk_drewN ?_ _ | refine blk_drew ?_ | refine blk_alloc ?_ _)); exact BK131.out)) : gb138 ≠ gb131)); have n8_ := Aside0.mk ((by rw [hg]; exact Nat.ne_of_lt (IsP.lt (show IsP w _ g134 hR x135000_2 from by repeat (first | (with_reducible first | exact HI134.out | apply IsP.alloc | apply IsP.drewN | apply IsP.drew | apply IsP.set_0 | refine IsP.far ?_ NB134_131.out _) | exact HI134.out))) : g134 ≠ gb138)); have n9_ := Aside0.mk ((by rw [hg]; exact Nat.ne_of_gt (IsP.lt (show IsP w _ g134 hR x135000_2 from by repeat (first | (with_reducible first | exact HI134.out | apply IsP.alloc | apply IsP.drewN | apply IsP.drew | apply IsP.set_0 | refine IsP.far ?_ NB134_131.out _) | exact HI134.out))) : gb138 ≠ g134)); clear BK131; clear HI134; clear HB; have BK131 := n0_; have HI134 := n1_; have HB := n2_; have BK138 := n3_; have GW138 := n4_; have GE138 := n5_; have NB131_138 := n6_; have NB138_131 := n7_; have NB134_138 := n8_; have NB138_134 := n9_; clear n0_ n1_ n2_ n3_ n4_ n5_ n6_ n7_ n8_ n9_; clear hb hbox hg; have hnb41 := NB138_131.out; have hnc41 := NB131_138.out; have hnb42 := NB138_134.out; have hnc42 := NB134_138.out; have hcz43_0 : w40.cell? ⟨gb138, 0, none⟩ = some (.int .i64 0) := (blk_cell BK138.out 0).trans rfl; have hcz43_1 : w40.cell? ⟨gb138, 1, none⟩ = some (.int .i64 0) := (blk_cell BK138.out 1).trans rfl; have hcz43_2 : w40.cell? ⟨gb138, 2, none⟩ = some (.int .i64 0) := (blk_cell BK138.out 2).trans rfl; have hfz43_0 := blk_frozen BK138.out 0; have hfz43_1 := blk_frozen BK138.out 1; have hfz43_2 := blk_frozen BK138.out 2) | ((with_reducible refine gate_store (t := 32) (p := 9) rfl ?_); refine store_event (t := 32) (p := 9) (v := ?vo_) (w1 := ((w40.setCell ⟨gb138, 0, none⟩ (.int .i64 ((rd_T32 l1 x90_2).f0))).setCell ⟨gb138, 1, none⟩ (.int .i64 ((rd_T32 l1 x90_2).f1))).setCell ⟨gb138, 2, none⟩ (.int .i64 ((rd_T32 l1 x90_2).f2))) ?hg ?ho ?hn ?hr ?_; (case ho => rfl); (case hg => rfl); (case hn => rfl); (case hr => first | (go_simp; done) | (go_simp; rfl)); intro w40s hw; have m0_ : Aside0 (w40s.heap[gb131]? = some (.cells #[.int .i64 a0_0, .int .i64 a0_1, .int .i64 a0_2] 22 (0, 0))) := ⟨by rw [hw]; exact blk_far (blk_far (blk_far BK131.out NB131_138.out _) NB131_138.out _) NB131_138.out _⟩; have m1_ : Aside0 (w40s.heap[gb138]? = some (.cells #[.int .i64 ((rd_T32 l1 x90_2).f0), .int .i64 ((rd_T32 l1 x90_2).f1), .int .i64 ((rd_T32 l1 x90_2).f2)] 32 (0, 0))) := ⟨by rw [hw]; exact blk_put (blk_put (blk_put BK138.out 0 _ rfl) 1 _ rfl) 2 _ rfl⟩; have m2_ : Aside0 (IsP w w40s g134 hR x135000_2) := ⟨by rw [hw]; exact IsP.far3 HI134.out BK138.out (by decide) (by decide) (by decide) _ _ _⟩; have m3_ : Aside0 (Below w.heap.size w w40s) := ⟨by rw [hw]; exact below_set (below_set (below_set HB.out GE138.out) GE138.out) GE138.out⟩; clear BK131; clear BK138; clear HI134; clear HB; have BK131 := m0_; have BK138 := m1_; have HI134 := m2_; have HB := m3_; clear m0_ m1_ m2_ m3_ hw; (try clear hcz43_0 hcz43_1 hcz43_2 hfz43_0 hfz43_1 hfz43_2); have hys138_0 : w40s.cell? ⟨gb138, 0, none⟩ = some (.int .i64 ((rd_T32 l1 x90_2).f0)) := (blk_cell BK138.out 0).trans rfl; have hzs138_0 := blk_frozen BK138.out 0; have hys138_1 : w40s.cell? ⟨gb138, 1, none⟩ = some (.int .i64 ((rd_T32 l1 x90_2).f1)) := (blk_cell BK138.out 1).trans rfl; have hzs138_1 := blk_frozen BK138.out 1; have hys138_2 : w40s.cell? ⟨gb138, 2, none⟩ = some (.int .i64 ((rd_T32 l1 x90_2).f2)) := (blk_cell BK138.out 2).trans rfl; have hzs138_2 := blk_frozen BK138.out 2))
                          have n0_ := Aside0.mk (blk_drew BK131.out)
                          have n1_ := Aside0.mk (blk_drew BK138.out)
                          have n2_ := Aside0.mk (IsP.drew HI134.out)
                          have n3_ := Aside0.mk (below_drew1 HB.out)
                          clear BK131
                          clear BK138
                          clear HI134
                          clear HB
                          have BK131 := n0_
                          have BK138 := n1_
                          have HI134 := n2_
                          have HB := n3_
                          clear n0_ n1_ n2_ n3_
                          refine start_ (n := 14) (S := fun w' => w'.cell? ⟨gb138, 0, none⟩ = some (.int .i64 ((rd_T32 l1 x90_2).f0)) ∧ w'.cell? ⟨gb138, 1, none⟩ = some (.int .i64 ((rd_T32 l1 x90_2).f1)) ∧ w'.cell? ⟨gb138, 2, none⟩ = some (.int .i64 ((rd_T32 l1 x90_2).f2))) (ds := []) #[false, false, false, false, false, false, false, false, false, false, false, false, false, false] (by kernel_rfl) rfl rfl ⟨(blk_cell BK138.out 0).trans rfl, (blk_cell BK138.out 1).trans rfl, (blk_cell BK138.out 2).trans rfl⟩ (fun hHeld => ?_); refine with_tabW incunablelaw27_L2pPlays.tab17 incunablelaw27_L2pPlays.bits17 (fun HT_ HW_ => ?_)
                          generalize w40s.drew = w45 at BK131 BK138 HI134 HB hHeld ⊢
                          refine pure_ (i := 0) (N := some 98) (v := ?_) (a' := ?_) #[true, false, false, false, false, false, false, false, false, false, false, false, false, false] rfl rfl (any_of HT_.out (by kernel_rfl)) (fun _ _ _ h => h) (Or.inl ⟨by rfl, ?_⟩) ?_ ?_
                          rotate_left
                          · intro w'
                            go_simp
                            with_reducible rfl
                          rotate_left
                          · simp only [Act.put, List.setIfInBounds_toArray, List.set_cons_zero, List.set_cons_succ, i64_w, i32_w]
                            rfl
                          refine pure_ (i := 1) (N := some 99) (v := ?_) (a' := ?_) #[true, true, false, false, false, false, false, false, false, false, false, false, false, false] rfl rfl (any_of HT_.out (by kernel_rfl)) (fun _ _ _ h => h) (Or.inl ⟨by rfl, ?_⟩) ?_ ?_
                          rotate_left
                          · intro w'
                            go_simp
                            with_reducible rfl
                          rotate_left
                          · simp only [Act.put, List.setIfInBounds_toArray, List.set_cons_zero, List.set_cons_succ, i64_w, i32_w]
                            rfl
                          refine pure_ (i := 3) (N := some 101) (v := ?_) (a' := ?_) #[true, true, false, true, false, false, false, false, false, false, false, false, false, false] rfl rfl (any_of HT_.out (by kernel_rfl)) (fun _ _ _ h => h) (Or.inl ⟨by rfl, ?_⟩) ?_ ?_
                          rotate_left
                          · intro w'
                            go_simp
                            with_reducible rfl
                          rotate_left
                          · simp only [Act.put, List.setIfInBounds_toArray, List.set_cons_zero, List.set_cons_succ, i64_w, i32_w]
                            rfl
                          refine pure_ (i := 6) (N := some 104) (v := ?_) (a' := ?_) #[true, true, false, true, false, false, true, false, false, false, false, false, false, false] rfl rfl (any_of HT_.out (by kernel_rfl)) (fun _ _ _ h => h) (Or.inl ⟨by rfl, ?_⟩) ?_ ?_
                          rotate_left
                          · intro w'
                            go_simp
                            with_reducible rfl
                          rotate_left
                          · simp only [Act.put, List.setIfInBounds_toArray, List.set_cons_zero, List.set_cons_succ, i64_w, i32_w]
                            rfl
                          refine pure_ (i := 7) (N := some 105) (v := ?_) (a' := ?_) #[true, true, false, true, false, false, true, true, false, false, false, false, false, false] rfl rfl (any_of HT_.out (by kernel_rfl)) (fun _ _ _ h => h) (Or.inl ⟨by rfl, ?_⟩) ?_ ?_
                          rotate_left
                          · intro w'
                            go_simp
                            with_reducible rfl
                          rotate_left
                          · simp only [Act.put, List.setIfInBounds_toArray, List.set_cons_zero, List.set_cons_succ, i64_w, i32_w]
                            rfl
                          refine pure_ (i := 9) (N := some 107) (v := ?_) (a' := ?_) #[true, true, false, true, false, false, true, true, false, true, false, false, false, false] rfl rfl (any_of HT_.out (by kernel_rfl)) (fun _ _ _ h => h) (Or.inl ⟨by rfl, ?_⟩) ?_ ?_
                          rotate_left
                          · intro w'
                            go_simp
                            with_reducible rfl
                          rotate_left
                          · simp only [Act.put, List.setIfInBounds_toArray, List.set_cons_zero, List.set_cons_succ, i64_w, i32_w]
                            rfl
                          refine take_ (i := 2) (N := some 100) (v := ?_) (a' := ?_) #[true, true, true, true, false, false, true, true, false, true, false, false, false, false] rfl rfl (take_ofW HT_.out HW_.out (by kernel_rfl)) (fun _ _ _ h => h) (Or.inl ⟨by rfl, ?_⟩) hHeld ?_ ?_
                          rotate_left
                          · rintro w' ⟨s0, s1, s2⟩
                            go_simp
                            with_reducible rfl
                          rotate_left
                          · simp only [Act.put, List.setIfInBounds_toArray, List.set_cons_zero, List.set_cons_succ, i64_w, i32_w]
                            rfl
                          refine take_ (i := 4) (N := some 102) (v := ?_) (a' := ?_) #[true, true, true, true, true, false, true, true, false, true, false, false, false, false] rfl rfl (take_ofW HT_.out HW_.out (by kernel_rfl)) (fun _ _ _ h => h) (Or.inl ⟨by rfl, ?_⟩) hHeld ?_ ?_
                          rotate_left
                          · rintro w' ⟨s0, s1, s2⟩
                            go_simp
                            with_reducible rfl
                          rotate_left
                          · simp only [Act.put, List.setIfInBounds_toArray, List.set_cons_zero, List.set_cons_succ, i64_w, i32_w]
                            rfl
                          refine take_ (i := 8) (N := some 106) (v := ?_) (a' := ?_) #[true, true, true, true, true, false, true, true, true, true, false, false, false, false] rfl rfl (take_ofW HT_.out HW_.out (by kernel_rfl)) (fun _ _ _ h => h) (Or.inl ⟨by rfl, ?_⟩) hHeld ?_ ?_
                          rotate_left
                          · rintro w' ⟨s0, s1, s2⟩
                            go_simp
                            with_reducible rfl
                          rotate_left
                          · simp only [Act.put, List.setIfInBounds_toArray, List.set_cons_zero, List.set_cons_succ, i64_w, i32_w]
                            rfl
                          refine take_ (i := 10) (N := some 108) (v := ?_) (a' := ?_) #[true, true, true, true, true, false, true, true, true, true, true, false, false, false] rfl rfl (take_ofW HT_.out HW_.out (by kernel_rfl)) (fun _ _ _ h => h) (Or.inl ⟨by rfl, ?_⟩) hHeld ?_ ?_
                          rotate_left
                          · rintro w' ⟨s0, s1, s2⟩
                            go_simp
                            with_reducible rfl
                          rotate_left
                          · simp only [Act.put, List.setIfInBounds_toArray, List.set_cons_zero, List.set_cons_succ, i64_w, i32_w]
                            rfl
                          refine one_ (i := 5) (N := some 103) #[true, true, true, true, true, true, true, true, true, true, true, false, false, false] rfl rfl (one_of HT_.out (by kernel_rfl)) (by decide) (fun K hK => ?_)
                          refine goes_ Try.func9 (by kernel_rfl) rfl #[.pointer (some ⟨g134, 0, none⟩), .int .i64 ((rd_T32 l1 x90_2).f1), .int .i64 ((rd_T32 l1 x90_2).f2)] (by rfl) rfl rfl (by (try simp only [List.map_toArray, List.map_cons, List.map_nil]); first | done | rfl | (simp only [List.length_drop, List.length_take]; rfl)) ?_
                          with_reducible refine (pm_Set.calls g134 hR x135000_2 ((rd_T32 l1 x90_2).f1) ((rd_T32 l1 x90_2).f2) t139 t140 w _ ?side1 ?side2 A29.out).mono ?_
                          (case side1 => repeat (first | (with_reducible first | exact HI134.out | apply IsP.alloc | apply IsP.drewN | apply IsP.drew | apply IsP.set_0 | refine IsP.far ?_ NB134_131.out _ | refine IsP.far ?_ NB134_138.out _) | exact HI134.out))
                          (case side2 => repeat (first | (with_reducible first | exact HB.out | apply below_alloc | apply pw_below_drewN | apply below_drew1 | refine below_set ?_ (IsP.ge HI134.out) | refine below_set ?_ GE131.out | refine below_set ?_ GE138.out) | exact HB.out))
                          rintro e w46 ⟨rfl, hi, hb, hk⟩
                          refine ⟨_, rfl, ?_⟩
                          have n0_ := Aside0.mk (KeepP.blk hk (by (with_reducible repeat (first | refine blk_drewN ?_ _ | refine blk_drew ?_ | refine blk_alloc ?_ _)); exact BK131.out) (by decide) (by decide) (by decide))
                          have n1_ := Aside0.mk (KeepP.blk hk (by (with_reducible repeat (first | refine blk_drewN ?_ _ | refine blk_drew ?_ | refine blk_alloc ?_ _)); exact BK138.out) (by decide) (by decide) (by decide))
                          have n2_ := Aside0.mk (hb)
                          have n3_ := Aside0.mk (hi)
                          clear BK131
                          clear BK138
                          clear HB
                          clear HI134
                          have BK131 := n0_
                          have BK138 := n1_
                          have HB := n2_
                          have HI134 := n3_
                          clear n0_ n1_ n2_ n3_
                          (try clear hb)
                          (try clear hb2)
                          (try clear hk)
                          (try clear hi)
                          refine hK.out _ _ ⟨(blk_cell BK138.out 0).trans rfl, (blk_cell BK138.out 1).trans rfl, (blk_cell BK138.out 2).trans rfl⟩ (fun hHeld => ?_)
                          clear hK K
                          refine norm_ (a' := ?_) ?_ ?_
                          rotate_left
                          · show Act.put _ (some 103) _ = _
                            simp only [Act.put, List.setIfInBounds_toArray, List.set_cons_zero, List.set_cons_succ, i64_w, i32_w]
                            rfl
                          refine one_ (i := 11) (N := some 109) #[true, true, true, true, true, true, true, true, true, true, true, true, false, false] rfl rfl (one_of HT_.out (by kernel_rfl)) (by decide) (fun K hK => ?_)
                          refine goes_ Try.func10 (by kernel_rfl) rfl #[.pointer (some ⟨hR, 0, none⟩), .int .i64 ((rd_T32 l1 x90_2).f1), .int .i64 ((rd_T32 l1 x90_2).f2)] (by rfl) rfl rfl (by (try simp only [List.map_toArray, List.map_cons, List.map_nil]); first | done | rfl | (simp only [List.length_drop, List.length_take]; rfl)) ?_
                          with_reducible refine (pr_Set.calls g134 hR t140 ((rd_T32 l1 x90_2).f1) ((rd_T32 l1 x90_2).f2) t141 t142 w _ ?side1 ?side2 A30.out).mono ?_
                          (case side1 => repeat (first | (with_reducible first | exact HI134.out | apply IsP.alloc | apply IsP.drewN | apply IsP.drew | apply IsP.set_0 | refine IsP.far ?_ NB134_131.out _ | refine IsP.far ?_ NB134_138.out _) | exact HI134.out))
                          (case side2 => repeat (first | (with_reducible first | exact HB.out | apply below_alloc | apply pw_below_drewN | apply below_drew1 | refine below_set ?_ (IsP.ge HI134.out) | refine below_set ?_ GE131.out | refine below_set ?_ GE138.out) | exact HB.out))
                          rintro e w47 ⟨rfl, hi, hb, hk⟩
                          refine ⟨_, rfl, ?_⟩
                          have n0_ := Aside0.mk (KeepP.blk hk (by (with_reducible repeat (first | refine blk_drewN ?_ _ | refine blk_drew ?_ | refine blk_alloc ?_ _)); exact BK131.out) (by decide) (by decide) (by decide))
                          have n1_ := Aside0.mk (KeepP.blk hk (by (with_reducible repeat (first | refine blk_drewN ?_ _ | refine blk_drew ?_ | refine blk_alloc ?_ _)); exact BK138.out) (by decide) (by decide) (by decide))
                          have n2_ := Aside0.mk (hb)
                          have n3_ := Aside0.mk (hi)
                          clear BK131
                          clear BK138
                          clear HB
                          clear HI134
                          have BK131 := n0_
                          have BK138 := n1_
                          have HB := n2_
                          have HI134 := n3_
                          clear n0_ n1_ n2_ n3_
                          (try clear hb)
                          (try clear hb2)
                          (try clear hk)
                          (try clear hi)
                          refine hK.out _ _ ⟨(blk_cell BK138.out 0).trans rfl, (blk_cell BK138.out 1).trans rfl, (blk_cell BK138.out 2).trans rfl⟩ (fun hHeld => ?_)
                          clear hK K
                          refine norm_ (a' := ?_) ?_ ?_
                          rotate_left
                          · show Act.put _ (some 109) _ = _
                            simp only [Act.put, List.setIfInBounds_toArray, List.set_cons_zero, List.set_cons_succ, i64_w, i32_w]
                            rfl
                          refine pure_ (i := 12) (N := some 110) (v := ?_) (a' := ?_) #[true, true, true, true, true, true, true, true, true, true, true, true, true, false] rfl rfl (any_of HT_.out (by kernel_rfl)) (fun _ _ _ h => h) (Or.inl ⟨by rfl, ?_⟩) ?_ ?_
                          rotate_left
                          · intro w'
                            go_simp
                            with_reducible rfl
                          rotate_left
                          · simp only [Act.put, List.setIfInBounds_toArray, List.set_cons_zero, List.set_cons_succ, i64_w, i32_w]
                            rfl
                          refine pure_ (i := 13) (N := some 10) (v := ?_) (a' := ?_) #[true, true, true, true, true, true, true, true, true, true, true, true, true, true] rfl rfl (any_of HT_.out (by kernel_rfl)) (fun _ _ _ h => h) (Or.inl ⟨by rfl, ?_⟩) ?_ ?_
                          rotate_left
                          · intro w'
                            go_simp
                            with_reducible rfl
                          rotate_left
                          · simp only [Act.put, List.setIfInBounds_toArray, List.set_cons_zero, List.set_cons_succ, i64_w, i32_w]
                            rfl
                          refine done_ (done_of HT_.out (by kernel_rfl)) ?_
                          try go_wp2
                          go_ret
                          exact ⟨by first | rfl | (simp [errW_none, errW_some] <;> rfl) | (simp [*, errW_none, errW_some] <;> rfl), by repeat (first | (with_reducible first | exact HB.out | apply below_alloc | apply pw_below_drewN | apply below_drew1 | refine below_set ?_ (IsP.ge HI134.out) | refine below_set ?_ GE131.out | refine below_set ?_ GE138.out) | exact HB.out)⟩
                      · rw [if_neg c28] at H
                        have c28b0 : (((rd_T32 l1 x90_2).f0) == 1) = false := beq_eq_false_iff_ne.mpr c28
                        have c28b1 : (((rd_T32 l1 x90_2).f0) != 1) = true := bne_iff_ne.mpr c28
                        by_cases c48 : ((rd_T32 l1 x90_2).f0) = 2
                        · rw [if_pos c48] at H
                          have c48b0 : (((rd_T32 l1 x90_2).f0) == 2) = true := beq_iff_eq.mpr c48
                          have c48b1 : (((rd_T32 l1 x90_2).f0) != 2) = false := bne_eq_false_iff_eq.mpr c48
                          clear c48
                          replace H := Option.bind_eq_some_iff.mp H
                          obtain ⟨⟨t143, t144⟩, A490, H⟩ := H
                          replace H : ((pr_Drop.f t144 ((rd_T32 l1 x90_2).f1)).bind fun bt145 => (if ((t143 == bt145.1) = true) then (incunablelaw27_L2pPlays.l0 k2 l1 (l1.length : Int) (wrap64 (x90_2 + 1)) a0_0 a0_1 a0_2 bt145.2) else (some false))) = some r := H
                          have A49 := Aside0.mk A490
                          clear A490
                          replace H := Option.bind_eq_some_iff.mp H
                          obtain ⟨⟨t145, t146⟩, A500, H⟩ := H
                          replace H : (if ((t143 == t145) = true) then (incunablelaw27_L2pPlays.l0 k2 l1 (l1.length : Int) (wrap64 (x90_2 + 1)) a0_0 a0_1 a0_2 t146) else (some false)) = some r := H
                          have A50 := Aside0.mk A500
                          clear A500
                          by_cases c51 : ((t143 == t145) = true)
                          · rw [if_pos c51] at H
                            have c51b0 : (t143 == t145) = true := c51
                            (try (have c51b1 : decide (t143 = t145) = true := by simpa using c51))
                            (try (have c51b2 : (t143 == t145) = true := by simpa using c51))
                            clear c51
                            have H' := Aside0.mk H
                            clear H
                            have p137 : 0 ≤ (x90_2 : Int) := of_decide_eq_true (by first | (with_reducible assumption) | assumption)
                            have q137 : x90_2 < (l1.length : Int) := of_decide_eq_true (by first | (with_reducible assumption) | assumption)
                            obtain ⟨ad137, e137, hx137_0, hx137_1, hx137_2⟩ := at_T32 HR1.out x90_2 p137 q137
                            cases e137
                            replace hx137_0 := (HB.out.cell (World.block_lt_of_cell? w _ hx137_0)).trans hx137_0
                            replace hx137_1 := (HB.out.cell (World.block_lt_of_cell? w _ hx137_1)).trans hx137_1
                            replace hx137_2 := (HB.out.cell (World.block_lt_of_cell? w _ hx137_2)).trans hx137_2
                            replace p137 := eq_true p137
                            replace q137 := eq_true q137
                            try go_wp2_with (first | ((with_reducible refine gate_dst (N := 9) rfl ?_); (try (refine gate_guard (by rfl) ?_; dsimp only)); refine box_event ?hg (N := 9) ?hd (cs := #[.int .i64 0, .int .i64 0, .int .i64 0]) (t := 32) ?hr ?_; (case hd => rfl); (case hg => rfl); (case hr => first | (go_simp; done) | (go_simp; rfl)); intro gb138 hg w52 hbox hb; have n0_ := Aside0.mk (blk_below (g := gb131) (o := .cells #[.int .i64 a0_0, .int .i64 a0_1, .int .i64 a0_2] 22 (0, 0)) (by (with_reducible repeat (first | refine blk_drewN ?_ _ | refine blk_drew ?_ | refine blk_alloc ?_ _)); exact BK131.out) hb); have n1_ := Aside0.mk (IsP.below (by repeat (first | (with_reducible first | exact HI134.out | apply IsP.alloc | apply IsP.drewN | apply IsP.drew | apply IsP.set_0 | refine IsP.far ?_ NB134_131.out _) | exact HI134.out)) hb); have n2_ := Aside0.mk (below_step (by repeat (first | (with_reducible first | exact HB.out | apply below_alloc | apply pw_below_drewN | apply below_drew1 | refine below_set ?_ (IsP.ge HI134.out) | refine below_set ?_ GE131.out) | exact HB.out)) hb); have n3_ := Aside0.mk (hbox); have n4_ := Aside0.mk ((by rw [hg]; exact (below_size (by repeat (first | (with_reducible first | exact HB.out | apply below_alloc | apply pw_below_drewN | apply below_drew1 | refine below_set ?_ (IsP.ge HI134.out) | refine below_set ?_ GE131.out) | exact HB.out))) : w.heap.size ≤ gb138)); have n5_ := Aside0.mk ((by rw [hg]; exact (below_size (by repeat (first | (with_reducible first | exact HB.out | apply below_alloc | apply pw_below_drewN | apply below_drew1 | refine below_set ?_ (IsP.ge HI134.out) | refine below_set ?_ GE131.out) | exact HB.out))) : w.heap.size ≤ gb138)); have n6_ := Aside0.mk ((by rw [hg]; exact Nat.ne_of_lt (blk_lt (g := gb131) (o := .cells #[.int .i64 a0_0, .int .i64 a0_1, .int .i64 a0_2] 22 (0, 0)) (by (with_reducible repeat (first | refine blk_drewN ?_ _ | refine blk_drew ?_ | refine blk_alloc ?_ _)); exact BK131.out)) : gb131 ≠ gb138)); have n7_ := Aside0.mk ((by rw [hg]; exact Nat.ne_of_gt (blk_lt (g := gb131) (o := .cells #[.int .i64 a0_0, .int .i64 a0_1, .int .i64 a0_2] 22 (0, 0)) (by (with_reducible repeat (first | refine blk_drewN ?_ _ | refine blk_drew ?_ | refine blk_alloc ?_ _)); exact BK131.out)) : gb138 ≠ gb131)); have n8_ := Aside0.mk ((by rw [hg]; exact Nat.ne_of_lt (IsP.lt (show IsP w _ g134 hR x135000_2 from by repeat (first | (with_reducible first | exact HI134.out | apply IsP.alloc | apply IsP.drewN | apply IsP.drew | apply IsP.set_0 | refine IsP.far ?_ NB134_131.out _) | exact HI134.out))) : g134 ≠ gb138)); have n9_ := Aside0.mk ((by rw [hg]; exact Nat.ne_of_gt (IsP.lt (show IsP w _ g134 hR x135000_2 from by repeat (first | (with_reducible first | exact HI134.out | apply IsP.alloc | apply IsP.drewN | apply IsP.drew | apply IsP.set_0 | refine IsP.far ?_ NB134_131.out _) | exact HI134.out))) : gb138 ≠ g134)); clear BK131; clear HI134; clear HB; have BK131 := n0_; have HI134 := n1_; have HB := n2_; have BK138 := n3_; have GW138 := n4_; have GE138 := n5_; have NB131_138 := n6_; have NB138_131 := n7_; have NB134_138 := n8_; have NB138_134 := n9_; clear n0_ n1_ n2_ n3_ n4_ n5_ n6_ n7_ n8_ n9_; clear hb hbox hg; have hnb53 := NB138_131.out; have hnc53 := NB131_138.out; have hnb54 := NB138_134.out; have hnc54 := NB134_138.out; have hcz55_0 : w52.cell? ⟨gb138, 0, none⟩ = some (.int .i64 0) := (blk_cell BK138.out 0).trans rfl; have hcz55_1 : w52.cell? ⟨gb138, 1, none⟩ = some (.int .i64 0) := (blk_cell BK138.out 1).trans rfl; have hcz55_2 : w52.cell? ⟨gb138, 2, none⟩ = some (.int .i64 0) := (blk_cell BK138.out 2).trans rfl; have hfz55_0 := blk_frozen BK138.out 0; have hfz55_1 := blk_frozen BK138.out 1; have hfz55_2 := blk_frozen BK138.out 2) | ((with_reducible refine gate_store (t := 32) (p := 9) rfl ?_); refine store_event (t := 32) (p := 9) (v := ?vo_) (w1 := ((w52.setCell ⟨gb138, 0, none⟩ (.int .i64 ((rd_T32 l1 x90_2).f0))).setCell ⟨gb138, 1, none⟩ (.int .i64 ((rd_T32 l1 x90_2).f1))).setCell ⟨gb138, 2, none⟩ (.int .i64 ((rd_T32 l1 x90_2).f2))) ?hg ?ho ?hn ?hr ?_; (case ho => rfl); (case hg => rfl); (case hn => rfl); (case hr => first | (go_simp; done) | (go_simp; rfl)); intro w52s hw; have m0_ : Aside0 (w52s.heap[gb131]? = some (.cells #[.int .i64 a0_0, .int .i64 a0_1, .int .i64 a0_2] 22 (0, 0))) := ⟨by rw [hw]; exact blk_far (blk_far (blk_far BK131.out NB131_138.out _) NB131_138.out _) NB131_138.out _⟩; have m1_ : Aside0 (w52s.heap[gb138]? = some (.cells #[.int .i64 ((rd_T32 l1 x90_2).f0), .int .i64 ((rd_T32 l1 x90_2).f1), .int .i64 ((rd_T32 l1 x90_2).f2)] 32 (0, 0))) := ⟨by rw [hw]; exact blk_put (blk_put (blk_put BK138.out 0 _ rfl) 1 _ rfl) 2 _ rfl⟩; have m2_ : Aside0 (IsP w w52s g134 hR x135000_2) := ⟨by rw [hw]; exact IsP.far3 HI134.out BK138.out (by decide) (by decide) (by decide) _ _ _⟩; have m3_ : Aside0 (Below w.heap.size w w52s) := ⟨by rw [hw]; exact below_set (below_set (below_set HB.out GE138.out) GE138.out) GE138.out⟩; clear BK131; clear BK138; clear HI134; clear HB; have BK131 := m0_; have BK138 := m1_; have HI134 := m2_; have HB := m3_; clear m0_ m1_ m2_ m3_ hw; (try clear hcz55_0 hcz55_1 hcz55_2 hfz55_0 hfz55_1 hfz55_2); have hys138_0 : w52s.cell? ⟨gb138, 0, none⟩ = some (.int .i64 ((rd_T32 l1 x90_2).f0)) := (blk_cell BK138.out 0).trans rfl; have hzs138_0 := blk_frozen BK138.out 0; have hys138_1 : w52s.cell? ⟨gb138, 1, none⟩ = some (.int .i64 ((rd_T32 l1 x90_2).f1)) := (blk_cell BK138.out 1).trans rfl; have hzs138_1 := blk_frozen BK138.out 1; have hys138_2 : w52s.cell? ⟨gb138, 2, none⟩ = some (.int .i64 ((rd_T32 l1 x90_2).f2)) := (blk_cell BK138.out 2).trans rfl; have hzs138_2 := blk_frozen BK138.out 2))
                            have n0_ := Aside0.mk (blk_drew BK131.out)
                            have n1_ := Aside0.mk (blk_drew BK138.out)
                            have n2_ := Aside0.mk (IsP.drew HI134.out)
                            have n3_ := Aside0.mk (below_drew1 HB.out)
                            clear BK131
                            clear BK138
                            clear HI134
                            clear HB
                            have BK131 := n0_
                            have BK138 := n1_
                            have HI134 := n2_
                            have HB := n3_
                            clear n0_ n1_ n2_ n3_
                            refine start_ (n := 10) (S := fun w' => w'.cell? ⟨gb138, 0, none⟩ = some (.int .i64 ((rd_T32 l1 x90_2).f0)) ∧ w'.cell? ⟨gb138, 1, none⟩ = some (.int .i64 ((rd_T32 l1 x90_2).f1)) ∧ w'.cell? ⟨gb138, 2, none⟩ = some (.int .i64 ((rd_T32 l1 x90_2).f2))) (ds := []) #[false, false, false, false, false, false, false, false, false, false] (by kernel_rfl) rfl rfl ⟨(blk_cell BK138.out 0).trans rfl, (blk_cell BK138.out 1).trans rfl, (blk_cell BK138.out 2).trans rfl⟩ (fun hHeld => ?_); refine with_tabW incunablelaw27_L2pPlays.tab19 incunablelaw27_L2pPlays.bits19 (fun HT_ HW_ => ?_)
                            generalize w52s.drew = w57 at BK131 BK138 HI134 HB hHeld ⊢
                            refine pure_ (i := 0) (N := some 113) (v := ?_) (a' := ?_) #[true, false, false, false, false, false, false, false, false, false] rfl rfl (any_of HT_.out (by kernel_rfl)) (fun _ _ _ h => h) (Or.inl ⟨by rfl, ?_⟩) ?_ ?_
                            rotate_left
                            · intro w'
                              go_simp
                              with_reducible rfl
                            rotate_left
                            · simp only [Act.put, List.setIfInBounds_toArray, List.set_cons_zero, List.set_cons_succ, i64_w, i32_w]
                              rfl
                            refine pure_ (i := 1) (N := some 114) (v := ?_) (a' := ?_) #[true, true, false, false, false, false, false, false, false, false] rfl rfl (any_of HT_.out (by kernel_rfl)) (fun _ _ _ h => h) (Or.inl ⟨by rfl, ?_⟩) ?_ ?_
                            rotate_left
                            · intro w'
                              go_simp
                              with_reducible rfl
                            rotate_left
                            · simp only [Act.put, List.setIfInBounds_toArray, List.set_cons_zero, List.set_cons_succ, i64_w, i32_w]
                              rfl
                            refine pure_ (i := 4) (N := some 117) (v := ?_) (a' := ?_) #[true, true, false, false, true, false, false, false, false, false] rfl rfl (any_of HT_.out (by kernel_rfl)) (fun _ _ _ h => h) (Or.inl ⟨by rfl, ?_⟩) ?_ ?_
                            rotate_left
                            · intro w'
                              go_simp
                              with_reducible rfl
                            rotate_left
                            · simp only [Act.put, List.setIfInBounds_toArray, List.set_cons_zero, List.set_cons_succ, i64_w, i32_w]
                              rfl
                            refine pure_ (i := 5) (N := some 118) (v := ?_) (a' := ?_) #[true, true, false, false, true, true, false, false, false, false] rfl rfl (any_of HT_.out (by kernel_rfl)) (fun _ _ _ h => h) (Or.inl ⟨by rfl, ?_⟩) ?_ ?_
                            rotate_left
                            · intro w'
                              go_simp
                              with_reducible rfl
                            rotate_left
                            · simp only [Act.put, List.setIfInBounds_toArray, List.set_cons_zero, List.set_cons_succ, i64_w, i32_w]
                              rfl
                            refine take_ (i := 2) (N := some 115) (v := ?_) (a' := ?_) #[true, true, true, false, true, true, false, false, false, false] rfl rfl (take_ofW HT_.out HW_.out (by kernel_rfl)) (fun _ _ _ h => h) (Or.inl ⟨by rfl, ?_⟩) hHeld ?_ ?_
                            rotate_left
                            · rintro w' ⟨s0, s1, s2⟩
                              go_simp
                              with_reducible rfl
                            rotate_left
                            · simp only [Act.put, List.setIfInBounds_toArray, List.set_cons_zero, List.set_cons_succ, i64_w, i32_w]
                              rfl
                            refine take_ (i := 6) (N := some 119) (v := ?_) (a' := ?_) #[true, true, true, false, true, true, true, false, false, false] rfl rfl (take_ofW HT_.out HW_.out (by kernel_rfl)) (fun _ _ _ h => h) (Or.inl ⟨by rfl, ?_⟩) hHeld ?_ ?_
                            rotate_left
                            · rintro w' ⟨s0, s1, s2⟩
                              go_simp
                              with_reducible rfl
                            rotate_left
                            · simp only [Act.put, List.setIfInBounds_toArray, List.set_cons_zero, List.set_cons_succ, i64_w, i32_w]
                              rfl
                            refine one_ (i := 3) (N := some 116) #[true, true, true, true, true, true, true, false, false, false] rfl rfl (one_of HT_.out (by kernel_rfl)) (by decide) (fun K hK => ?_)
                            refine goes_ Try.func11 (by kernel_rfl) rfl #[.pointer (some ⟨g134, 0, none⟩), .int .i64 ((rd_T32 l1 x90_2).f1)] (by rfl) rfl rfl (by (try simp only [List.map_toArray, List.map_cons, List.map_nil]); first | done | rfl | (simp only [List.length_drop, List.length_take]; rfl)) ?_
                            with_reducible refine (pm_Drop.calls g134 hR x135000_2 ((rd_T32 l1 x90_2).f1) t143 t144 w _ ?side1 ?side2 A49.out).mono ?_
                            (case side1 => repeat (first | (with_reducible first | exact HI134.out | apply IsP.alloc | apply IsP.drewN | apply IsP.drew | apply IsP.set_0 | refine IsP.far ?_ NB134_131.out _ | refine IsP.far ?_ NB134_138.out _) | exact HI134.out))
                            (case side2 => repeat (first | (with_reducible first | exact HB.out | apply below_alloc | apply pw_below_drewN | apply below_drew1 | refine below_set ?_ (IsP.ge HI134.out) | refine below_set ?_ GE131.out | refine below_set ?_ GE138.out) | exact HB.out))
                            rintro e w58 ⟨rfl, hi, hb, hk⟩
                            refine ⟨_, rfl, ?_⟩
                            have n0_ := Aside0.mk (KeepP.blk hk (by (with_reducible repeat (first | refine blk_drewN ?_ _ | refine blk_drew ?_ | refine blk_alloc ?_ _)); exact BK131.out) (by decide) (by decide) (by decide))
                            have n1_ := Aside0.mk (KeepP.blk hk (by (with_reducible repeat (first | refine blk_drewN ?_ _ | refine blk_drew ?_ | refine blk_alloc ?_ _)); exact BK138.out) (by decide) (by decide) (by decide))
                            have n2_ := Aside0.mk (hb)
                            have n3_ := Aside0.mk (hi)
                            clear BK131
                            clear BK138
                            clear HB
                            clear HI134
                            have BK131 := n0_
                            have BK138 := n1_
                            have HB := n2_
                            have HI134 := n3_
                            clear n0_ n1_ n2_ n3_
                            (try clear hb)
                            (try clear hb2)
                            (try clear hk)
                            (try clear hi)
                            refine hK.out _ _ ⟨(blk_cell BK138.out 0).trans rfl, (blk_cell BK138.out 1).trans rfl, (blk_cell BK138.out 2).trans rfl⟩ (fun hHeld => ?_)
                            clear hK K
                            refine norm_ (a' := ?_) ?_ ?_
                            rotate_left
                            · show Act.put _ (some 116) _ = _
                              simp only [Act.put, List.setIfInBounds_toArray, List.set_cons_zero, List.set_cons_succ, i64_w, i32_w]
                              rfl
                            refine one_ (i := 7) (N := some 120) #[true, true, true, true, true, true, true, true, false, false] rfl rfl (one_of HT_.out (by kernel_rfl)) (by decide) (fun K hK => ?_)
                            refine goes_ Try.func12 (by kernel_rfl) rfl #[.pointer (some ⟨hR, 0, none⟩), .int .i64 ((rd_T32 l1 x90_2).f1)] (by rfl) rfl rfl (by (try simp only [List.map_toArray, List.map_cons, List.map_nil]); first | done | rfl | (simp only [List.length_drop, List.length_take]; rfl)) ?_
                            with_reducible refine (pr_Drop.calls g134 hR t144 ((rd_T32 l1 x90_2).f1) t145 t146 w _ ?side1 ?side2 A50.out).mono ?_
                            (case side1 => repeat (first | (with_reducible first | exact HI134.out | apply IsP.alloc | apply IsP.drewN | apply IsP.drew | apply IsP.set_0 | refine IsP.far ?_ NB134_131.out _ | refine IsP.far ?_ NB134_138.out _) | exact HI134.out))
                            (case side2 => repeat (first | (with_reducible first | exact HB.out | apply below_alloc | apply pw_below_drewN | apply below_drew1 | refine below_set ?_ (IsP.ge HI134.out) | refine below_set ?_ GE131.out | refine below_set ?_ GE138.out) | exact HB.out))
                            rintro e w59 ⟨rfl, hi, hb, hk⟩
                            refine ⟨_, rfl, ?_⟩
                            have n0_ := Aside0.mk (KeepP.blk hk (by (with_reducible repeat (first | refine blk_drewN ?_ _ | refine blk_drew ?_ | refine blk_alloc ?_ _)); exact BK131.out) (by decide) (by decide) (by decide))
                            have n1_ := Aside0.mk (KeepP.blk hk (by (with_reducible repeat (first | refine blk_drewN ?_ _ | refine blk_drew ?_ | refine blk_alloc ?_ _)); exact BK138.out) (by decide) (by decide) (by decide))
                            have n2_ := Aside0.mk (hb)
                            have n3_ := Aside0.mk (hi)
                            clear BK131
                            clear BK138
                            clear HB
                            clear HI134
                            have BK131 := n0_
                            have BK138 := n1_
                            have HB := n2_
                            have HI134 := n3_
                            clear n0_ n1_ n2_ n3_
                            (try clear hb)
                            (try clear hb2)
                            (try clear hk)
                            (try clear hi)
                            refine hK.out _ _ ⟨(blk_cell BK138.out 0).trans rfl, (blk_cell BK138.out 1).trans rfl, (blk_cell BK138.out 2).trans rfl⟩ (fun hHeld => ?_)
                            clear hK K
                            refine norm_ (a' := ?_) ?_ ?_
                            rotate_left
                            · show Act.put _ (some 120) _ = _
                              simp only [Act.put, List.setIfInBounds_toArray, List.set_cons_zero, List.set_cons_succ, i64_w, i32_w]
                              rfl
                            refine pure_ (i := 8) (N := some 121) (v := ?_) (a' := ?_) #[true, true, true, true, true, true, true, true, true, false] rfl rfl (any_of HT_.out (by kernel_rfl)) (fun _ _ _ h => h) (Or.inl ⟨by rfl, ?_⟩) ?_ ?_
                            rotate_left
                            · intro w'
                              go_simp
                              with_reducible rfl
                            rotate_left
                            · simp only [Act.put, List.setIfInBounds_toArray, List.set_cons_zero, List.set_cons_succ, i64_w, i32_w]
                              rfl
                            refine pure_ (i := 9) (N := some 10) (v := ?_) (a' := ?_) #[true, true, true, true, true, true, true, true, true, true] rfl rfl (any_of HT_.out (by kernel_rfl)) (fun _ _ _ h => h) (Or.inl ⟨by rfl, ?_⟩) ?_ ?_
                            rotate_left
                            · intro w'
                              go_simp
                              with_reducible rfl
                            rotate_left
                            · simp only [Act.put, List.setIfInBounds_toArray, List.set_cons_zero, List.set_cons_succ, i64_w, i32_w]
                              rfl
                            refine done_ (done_of HT_.out (by kernel_rfl)) ?_
                            try go_wp2
                            go_roundg k2
                            case measure => have := HJ5.out; have := HK2.out; omega
                            case rel => exact ⟨(wrap64 (x90_2 + 1)), (t146), (by first | rfl | (simp; done) | (simp [*]; done)), H', ⟨by have := HJ5.out; have := HK2.out; omega⟩, ⟨by (with_reducible repeat (first | refine blk_drewN ?_ _ | refine blk_drew ?_ | refine blk_alloc ?_ _)); exact BK131.out⟩, ⟨by repeat (first | (with_reducible first | exact HI134.out | apply IsP.alloc | apply IsP.drewN | apply IsP.drew | apply IsP.set_0 | refine IsP.far ?_ NB134_131.out _ | refine IsP.far ?_ NB134_138.out _) | exact HI134.out)⟩, ⟨by repeat (first | (with_reducible first | exact HB.out | apply below_alloc | apply pw_below_drewN | apply below_drew1 | refine below_set ?_ (IsP.ge HI134.out) | refine below_set ?_ GE131.out | refine below_set ?_ GE138.out) | exact HB.out)⟩⟩
                          · rw [if_neg c51] at H
                            have c51b0 : (t143 == t145) = false := by simpa using c51
                            (try (have c51b1 : decide (t143 = t145) = false := by simpa using c51))
                            (try (have c51b2 : (t143 == t145) = false := by simpa using c51))
                            (try (have c51b3 : ¬ (t143 = t145) := by simpa using c51))
                            clear c51
                            obtain rfl := Option.some.inj H
                            have p137 : 0 ≤ (x90_2 : Int) := of_decide_eq_true (by first | (with_reducible assumption) | assumption)
                            have q137 : x90_2 < (l1.length : Int) := of_decide_eq_true (by first | (with_reducible assumption) | assumption)
                            obtain ⟨ad137, e137, hx137_0, hx137_1, hx137_2⟩ := at_T32 HR1.out x90_2 p137 q137
                            cases e137
                            replace hx137_0 := (HB.out.cell (World.block_lt_of_cell? w _ hx137_0)).trans hx137_0
                            replace hx137_1 := (HB.out.cell (World.block_lt_of_cell? w _ hx137_1)).trans hx137_1
                            replace hx137_2 := (HB.out.cell (World.block_lt_of_cell? w _ hx137_2)).trans hx137_2
                            replace p137 := eq_true p137
                            replace q137 := eq_true q137
                            try go_wp2_with (first | ((with_reducible refine gate_dst (N := 9) rfl ?_); (try (refine gate_guard (by rfl) ?_; dsimp only)); refine box_event ?hg (N := 9) ?hd (cs := #[.int .i64 0, .int .i64 0, .int .i64 0]) (t := 32) ?hr ?_; (case hd => rfl); (case hg => rfl); (case hr => first | (go_simp; done) | (go_simp; rfl)); intro gb138 hg w60 hbox hb; have n0_ := Aside0.mk (blk_below (g := gb131) (o := .cells #[.int .i64 a0_0, .int .i64 a0_1, .int .i64 a0_2] 22 (0, 0)) (by (with_reducible repeat (first | refine blk_drewN ?_ _ | refine blk_drew ?_ | refine blk_alloc ?_ _)); exact BK131.out) hb); have n1_ := Aside0.mk (IsP.below (by repeat (first | (with_reducible first | exact HI134.out | apply IsP.alloc | apply IsP.drewN | apply IsP.drew | apply IsP.set_0 | refine IsP.far ?_ NB134_131.out _) | exact HI134.out)) hb); have n2_ := Aside0.mk (below_step (by repeat (first | (with_reducible first | exact HB.out | apply below_alloc | apply pw_below_drewN | apply below_drew1 | refine below_set ?_ (IsP.ge HI134.out) | refine below_set ?_ GE131.out) | exact HB.out)) hb); have n3_ := Aside0.mk (hbox); have n4_ := Aside0.mk ((by rw [hg]; exact (below_size (by repeat (first | (with_reducible first | exact HB.out | apply below_alloc | apply pw_below_drewN | apply below_drew1 | refine below_set ?_ (IsP.ge HI134.out) | refine below_set ?_ GE131.out) | exact HB.out))) : w.heap.size ≤ gb138)); have n5_ := Aside0.mk ((by rw [hg]; exact (below_size (by repeat (first | (with_reducible first | exact HB.out | apply below_alloc | apply pw_below_drewN | apply below_drew1 | refine below_set ?_ (IsP.ge HI134.out) | refine below_set ?_ GE131.out) | exact HB.out))) : w.heap.size ≤ gb138)); have n6_ := Aside0.mk ((by rw [hg]; exact Nat.ne_of_lt (blk_lt (g := gb131) (o := .cells #[.int .i64 a0_0, .int .i64 a0_1, .int .i64 a0_2] 22 (0, 0)) (by (with_reducible repeat (first | refine blk_drewN ?_ _ | refine blk_drew ?_ | refine blk_alloc ?_ _)); exact BK131.out)) : gb131 ≠ gb138)); have n7_ := Aside0.mk ((by rw [hg]; exact Nat.ne_of_gt (blk_lt (g := gb131) (o := .cells #[.int .i64 a0_0, .int .i64 a0_1, .int .i64 a0_2] 22 (0, 0)) (by (with_reducible repeat (first | refine blk_drewN ?_ _ | refine blk_drew ?_ | refine blk_alloc ?_ _)); exact BK131.out)) : gb138 ≠ gb131)); have n8_ := Aside0.mk ((by rw [hg]; exact Nat.ne_of_lt (IsP.lt (show IsP w _ g134 hR x135000_2 from by repeat (first | (with_reducible first | exact HI134.out | apply IsP.alloc | apply IsP.drewN | apply IsP.drew | apply IsP.set_0 | refine IsP.far ?_ NB134_131.out _) | exact HI134.out))) : g134 ≠ gb138)); have n9_ := Aside0.mk ((by rw [hg]; exact Nat.ne_of_gt (IsP.lt (show IsP w _ g134 hR x135000_2 from by repeat (first | (with_reducible first | exact HI134.out | apply IsP.alloc | apply IsP.drewN | apply IsP.drew | apply IsP.set_0 | refine IsP.far ?_ NB134_131.out _) | exact HI134.out))) : gb138 ≠ g134)); clear BK131; clear HI134; clear HB; have BK131 := n0_; have HI134 := n1_; have HB := n2_; have BK138 := n3_; have GW138 := n4_; have GE138 := n5_; have NB131_138 := n6_; have NB138_131 := n7_; have NB134_138 := n8_; have NB138_134 := n9_; clear n0_ n1_ n2_ n3_ n4_ n5_ n6_ n7_ n8_ n9_; clear hb hbox hg; have hnb61 := NB138_131.out; have hnc61 := NB131_138.out; have hnb62 := NB138_134.out; have hnc62 := NB134_138.out; have hcz63_0 : w60.cell? ⟨gb138, 0, none⟩ = some (.int .i64 0) := (blk_cell BK138.out 0).trans rfl; have hcz63_1 : w60.cell? ⟨gb138, 1, none⟩ = some (.int .i64 0) := (blk_cell BK138.out 1).trans rfl; have hcz63_2 : w60.cell? ⟨gb138, 2, none⟩ = some (.int .i64 0) := (blk_cell BK138.out 2).trans rfl; have hfz63_0 := blk_frozen BK138.out 0; have hfz63_1 := blk_frozen BK138.out 1; have hfz63_2 := blk_frozen BK138.out 2) | ((with_reducible refine gate_store (t := 32) (p := 9) rfl ?_); refine store_event (t := 32) (p := 9) (v := ?vo_) (w1 := ((w60.setCell ⟨gb138, 0, none⟩ (.int .i64 ((rd_T32 l1 x90_2).f0))).setCell ⟨gb138, 1, none⟩ (.int .i64 ((rd_T32 l1 x90_2).f1))).setCell ⟨gb138, 2, none⟩ (.int .i64 ((rd_T32 l1 x90_2).f2))) ?hg ?ho ?hn ?hr ?_; (case ho => rfl); (case hg => rfl); (case hn => rfl); (case hr => first | (go_simp; done) | (go_simp; rfl)); intro w60s hw; have m0_ : Aside0 (w60s.heap[gb131]? = some (.cells #[.int .i64 a0_0, .int .i64 a0_1, .int .i64 a0_2] 22 (0, 0))) := ⟨by rw [hw]; exact blk_far (blk_far (blk_far BK131.out NB131_138.out _) NB131_138.out _) NB131_138.out _⟩; have m1_ : Aside0 (w60s.heap[gb138]? = some (.cells #[.int .i64 ((rd_T32 l1 x90_2).f0), .int .i64 ((rd_T32 l1 x90_2).f1), .int .i64 ((rd_T32 l1 x90_2).f2)] 32 (0, 0))) := ⟨by rw [hw]; exact blk_put (blk_put (blk_put BK138.out 0 _ rfl) 1 _ rfl) 2 _ rfl⟩; have m2_ : Aside0 (IsP w w60s g134 hR x135000_2) := ⟨by rw [hw]; exact IsP.far3 HI134.out BK138.out (by decide) (by decide) (by decide) _ _ _⟩; have m3_ : Aside0 (Below w.heap.size w w60s) := ⟨by rw [hw]; exact below_set (below_set (below_set HB.out GE138.out) GE138.out) GE138.out⟩; clear BK131; clear BK138; clear HI134; clear HB; have BK131 := m0_; have BK138 := m1_; have HI134 := m2_; have HB := m3_; clear m0_ m1_ m2_ m3_ hw; (try clear hcz63_0 hcz63_1 hcz63_2 hfz63_0 hfz63_1 hfz63_2); have hys138_0 : w60s.cell? ⟨gb138, 0, none⟩ = some (.int .i64 ((rd_T32 l1 x90_2).f0)) := (blk_cell BK138.out 0).trans rfl; have hzs138_0 := blk_frozen BK138.out 0; have hys138_1 : w60s.cell? ⟨gb138, 1, none⟩ = some (.int .i64 ((rd_T32 l1 x90_2).f1)) := (blk_cell BK138.out 1).trans rfl; have hzs138_1 := blk_frozen BK138.out 1; have hys138_2 : w60s.cell? ⟨gb138, 2, none⟩ = some (.int .i64 ((rd_T32 l1 x90_2).f2)) := (blk_cell BK138.out 2).trans rfl; have hzs138_2 := blk_frozen BK138.out 2))
                            have n0_ := Aside0.mk (blk_drew BK131.out)
                            have n1_ := Aside0.mk (blk_drew BK138.out)
                            have n2_ := Aside0.mk (IsP.drew HI134.out)
                            have n3_ := Aside0.mk (below_drew1 HB.out)
                            clear BK131
                            clear BK138
                            clear HI134
                            clear HB
                            have BK131 := n0_
                            have BK138 := n1_
                            have HI134 := n2_
                            have HB := n3_
                            clear n0_ n1_ n2_ n3_
                            refine start_ (n := 10) (S := fun w' => w'.cell? ⟨gb138, 0, none⟩ = some (.int .i64 ((rd_T32 l1 x90_2).f0)) ∧ w'.cell? ⟨gb138, 1, none⟩ = some (.int .i64 ((rd_T32 l1 x90_2).f1)) ∧ w'.cell? ⟨gb138, 2, none⟩ = some (.int .i64 ((rd_T32 l1 x90_2).f2))) (ds := []) #[false, false, false, false, false, false, false, false, false, false] (by kernel_rfl) rfl rfl ⟨(blk_cell BK138.out 0).trans rfl, (blk_cell BK138.out 1).trans rfl, (blk_cell BK138.out 2).trans rfl⟩ (fun hHeld => ?_); refine with_tabW incunablelaw27_L2pPlays.tab19 incunablelaw27_L2pPlays.bits19 (fun HT_ HW_ => ?_)
                            generalize w60s.drew = w65 at BK131 BK138 HI134 HB hHeld ⊢
                            refine pure_ (i := 0) (N := some 113) (v := ?_) (a' := ?_) #[true, false, false, false, false, false, false, false, false, false] rfl rfl (any_of HT_.out (by kernel_rfl)) (fun _ _ _ h => h) (Or.inl ⟨by rfl, ?_⟩) ?_ ?_
                            rotate_left
                            · intro w'
                              go_simp
                              with_reducible rfl
                            rotate_left
                            · simp only [Act.put, List.setIfInBounds_toArray, List.set_cons_zero, List.set_cons_succ, i64_w, i32_w]
                              rfl
                            refine pure_ (i := 1) (N := some 114) (v := ?_) (a' := ?_) #[true, true, false, false, false, false, false, false, false, false] rfl rfl (any_of HT_.out (by kernel_rfl)) (fun _ _ _ h => h) (Or.inl ⟨by rfl, ?_⟩) ?_ ?_
                            rotate_left
                            · intro w'
                              go_simp
                              with_reducible rfl
                            rotate_left
                            · simp only [Act.put, List.setIfInBounds_toArray, List.set_cons_zero, List.set_cons_succ, i64_w, i32_w]
                              rfl
                            refine pure_ (i := 4) (N := some 117) (v := ?_) (a' := ?_) #[true, true, false, false, true, false, false, false, false, false] rfl rfl (any_of HT_.out (by kernel_rfl)) (fun _ _ _ h => h) (Or.inl ⟨by rfl, ?_⟩) ?_ ?_
                            rotate_left
                            · intro w'
                              go_simp
                              with_reducible rfl
                            rotate_left
                            · simp only [Act.put, List.setIfInBounds_toArray, List.set_cons_zero, List.set_cons_succ, i64_w, i32_w]
                              rfl
                            refine pure_ (i := 5) (N := some 118) (v := ?_) (a' := ?_) #[true, true, false, false, true, true, false, false, false, false] rfl rfl (any_of HT_.out (by kernel_rfl)) (fun _ _ _ h => h) (Or.inl ⟨by rfl, ?_⟩) ?_ ?_
                            rotate_left
                            · intro w'
                              go_simp
                              with_reducible rfl
                            rotate_left
                            · simp only [Act.put, List.setIfInBounds_toArray, List.set_cons_zero, List.set_cons_succ, i64_w, i32_w]
                              rfl
                            refine take_ (i := 2) (N := some 115) (v := ?_) (a' := ?_) #[true, true, true, false, true, true, false, false, false, false] rfl rfl (take_ofW HT_.out HW_.out (by kernel_rfl)) (fun _ _ _ h => h) (Or.inl ⟨by rfl, ?_⟩) hHeld ?_ ?_
                            rotate_left
                            · rintro w' ⟨s0, s1, s2⟩
                              go_simp
                              with_reducible rfl
                            rotate_left
                            · simp only [Act.put, List.setIfInBounds_toArray, List.set_cons_zero, List.set_cons_succ, i64_w, i32_w]
                              rfl
                            refine take_ (i := 6) (N := some 119) (v := ?_) (a' := ?_) #[true, true, true, false, true, true, true, false, false, false] rfl rfl (take_ofW HT_.out HW_.out (by kernel_rfl)) (fun _ _ _ h => h) (Or.inl ⟨by rfl, ?_⟩) hHeld ?_ ?_
                            rotate_left
                            · rintro w' ⟨s0, s1, s2⟩
                              go_simp
                              with_reducible rfl
                            rotate_left
                            · simp only [Act.put, List.setIfInBounds_toArray, List.set_cons_zero, List.set_cons_succ, i64_w, i32_w]
                              rfl
                            refine one_ (i := 3) (N := some 116) #[true, true, true, true, true, true, true, false, false, false] rfl rfl (one_of HT_.out (by kernel_rfl)) (by decide) (fun K hK => ?_)
                            refine goes_ Try.func11 (by kernel_rfl) rfl #[.pointer (some ⟨g134, 0, none⟩), .int .i64 ((rd_T32 l1 x90_2).f1)] (by rfl) rfl rfl (by (try simp only [List.map_toArray, List.map_cons, List.map_nil]); first | done | rfl | (simp only [List.length_drop, List.length_take]; rfl)) ?_
                            with_reducible refine (pm_Drop.calls g134 hR x135000_2 ((rd_T32 l1 x90_2).f1) t143 t144 w _ ?side1 ?side2 A49.out).mono ?_
                            (case side1 => repeat (first | (with_reducible first | exact HI134.out | apply IsP.alloc | apply IsP.drewN | apply IsP.drew | apply IsP.set_0 | refine IsP.far ?_ NB134_131.out _ | refine IsP.far ?_ NB134_138.out _) | exact HI134.out))
                            (case side2 => repeat (first | (with_reducible first | exact HB.out | apply below_alloc | apply pw_below_drewN | apply below_drew1 | refine below_set ?_ (IsP.ge HI134.out) | refine below_set ?_ GE131.out | refine below_set ?_ GE138.out) | exact HB.out))
                            rintro e w66 ⟨rfl, hi, hb, hk⟩
                            refine ⟨_, rfl, ?_⟩
                            have n0_ := Aside0.mk (KeepP.blk hk (by (with_reducible repeat (first | refine blk_drewN ?_ _ | refine blk_drew ?_ | refine blk_alloc ?_ _)); exact BK131.out) (by decide) (by decide) (by decide))
                            have n1_ := Aside0.mk (KeepP.blk hk (by (with_reducible repeat (first | refine blk_drewN ?_ _ | refine blk_drew ?_ | refine blk_alloc ?_ _)); exact BK138.out) (by decide) (by decide) (by decide))
                            have n2_ := Aside0.mk (hb)
                            have n3_ := Aside0.mk (hi)
                            clear BK131
                            clear BK138
                            clear HB
                            clear HI134
                            have BK131 := n0_
                            have BK138 := n1_
                            have HB := n2_
                            have HI134 := n3_
                            clear n0_ n1_ n2_ n3_
                            (try clear hb)
                            (try clear hb2)
                            (try clear hk)
                            (try clear hi)
                            refine hK.out _ _ ⟨(blk_cell BK138.out 0).trans rfl, (blk_cell BK138.out 1).trans rfl, (blk_cell BK138.out 2).trans rfl⟩ (fun hHeld => ?_)
                            clear hK K
                            refine norm_ (a' := ?_) ?_ ?_
                            rotate_left
                            · show Act.put _ (some 116) _ = _
                              simp only [Act.put, List.setIfInBounds_toArray, List.set_cons_zero, List.set_cons_succ, i64_w, i32_w]
                              rfl
                            refine one_ (i := 7) (N := some 120) #[true, true, true, true, true, true, true, true, false, false] rfl rfl (one_of HT_.out (by kernel_rfl)) (by decide) (fun K hK => ?_)
                            refine goes_ Try.func12 (by kernel_rfl) rfl #[.pointer (some ⟨hR, 0, none⟩), .int .i64 ((rd_T32 l1 x90_2).f1)] (by rfl) rfl rfl (by (try simp only [List.map_toArray, List.map_cons, List.map_nil]); first | done | rfl | (simp only [List.length_drop, List.length_take]; rfl)) ?_
                            with_reducible refine (pr_Drop.calls g134 hR t144 ((rd_T32 l1 x90_2).f1) t145 t146 w _ ?side1 ?side2 A50.out).mono ?_
                            (case side1 => repeat (first | (with_reducible first | exact HI134.out | apply IsP.alloc | apply IsP.drewN | apply IsP.drew | apply IsP.set_0 | refine IsP.far ?_ NB134_131.out _ | refine IsP.far ?_ NB134_138.out _) | exact HI134.out))
                            (case side2 => repeat (first | (with_reducible first | exact HB.out | apply below_alloc | apply pw_below_drewN | apply below_drew1 | refine below_set ?_ (IsP.ge HI134.out) | refine below_set ?_ GE131.out | refine below_set ?_ GE138.out) | exact HB.out))
                            rintro e w67 ⟨rfl, hi, hb, hk⟩
                            refine ⟨_, rfl, ?_⟩
                            have n0_ := Aside0.mk (KeepP.blk hk (by (with_reducible repeat (first | refine blk_drewN ?_ _ | refine blk_drew ?_ | refine blk_alloc ?_ _)); exact BK131.out) (by decide) (by decide) (by decide))
                            have n1_ := Aside0.mk (KeepP.blk hk (by (with_reducible repeat (first | refine blk_drewN ?_ _ | refine blk_drew ?_ | refine blk_alloc ?_ _)); exact BK138.out) (by decide) (by decide) (by decide))
                            have n2_ := Aside0.mk (hb)
                            have n3_ := Aside0.mk (hi)
                            clear BK131
                            clear BK138
                            clear HB
                            clear HI134
                            have BK131 := n0_
                            have BK138 := n1_
                            have HB := n2_
                            have HI134 := n3_
                            clear n0_ n1_ n2_ n3_
                            (try clear hb)
                            (try clear hb2)
                            (try clear hk)
                            (try clear hi)
                            refine hK.out _ _ ⟨(blk_cell BK138.out 0).trans rfl, (blk_cell BK138.out 1).trans rfl, (blk_cell BK138.out 2).trans rfl⟩ (fun hHeld => ?_)
                            clear hK K
                            refine norm_ (a' := ?_) ?_ ?_
                            rotate_left
                            · show Act.put _ (some 120) _ = _
                              simp only [Act.put, List.setIfInBounds_toArray, List.set_cons_zero, List.set_cons_succ, i64_w, i32_w]
                              rfl
                            refine pure_ (i := 8) (N := some 121) (v := ?_) (a' := ?_) #[true, true, true, true, true, true, true, true, true, false] rfl rfl (any_of HT_.out (by kernel_rfl)) (fun _ _ _ h => h) (Or.inl ⟨by rfl, ?_⟩) ?_ ?_
                            rotate_left
                            · intro w'
                              go_simp
                              with_reducible rfl
                            rotate_left
                            · simp only [Act.put, List.setIfInBounds_toArray, List.set_cons_zero, List.set_cons_succ, i64_w, i32_w]
                              rfl
                            refine pure_ (i := 9) (N := some 10) (v := ?_) (a' := ?_) #[true, true, true, true, true, true, true, true, true, true] rfl rfl (any_of HT_.out (by kernel_rfl)) (fun _ _ _ h => h) (Or.inl ⟨by rfl, ?_⟩) ?_ ?_
                            rotate_left
                            · intro w'
                              go_simp
                              with_reducible rfl
                            rotate_left
                            · simp only [Act.put, List.setIfInBounds_toArray, List.set_cons_zero, List.set_cons_succ, i64_w, i32_w]
                              rfl
                            refine done_ (done_of HT_.out (by kernel_rfl)) ?_
                            try go_wp2
                            go_ret
                            exact ⟨by first | rfl | (simp [errW_none, errW_some] <;> rfl) | (simp [*, errW_none, errW_some] <;> rfl), by repeat (first | (with_reducible first | exact HB.out | apply below_alloc | apply pw_below_drewN | apply below_drew1 | refine below_set ?_ (IsP.ge HI134.out) | refine below_set ?_ GE131.out | refine below_set ?_ GE138.out) | exact HB.out)⟩
                        · rw [if_neg c48] at H
                          have c48b0 : (((rd_T32 l1 x90_2).f0) == 2) = false := beq_eq_false_iff_ne.mpr c48
                          have c48b1 : (((rd_T32 l1 x90_2).f0) != 2) = true := bne_iff_ne.mpr c48
                          have H' := Aside0.mk H
                          clear H
                          have p137 : 0 ≤ (x90_2 : Int) := of_decide_eq_true (by first | (with_reducible assumption) | assumption)
                          have q137 : x90_2 < (l1.length : Int) := of_decide_eq_true (by first | (with_reducible assumption) | assumption)
                          obtain ⟨ad137, e137, hx137_0, hx137_1, hx137_2⟩ := at_T32 HR1.out x90_2 p137 q137
                          cases e137
                          replace hx137_0 := (HB.out.cell (World.block_lt_of_cell? w _ hx137_0)).trans hx137_0
                          replace hx137_1 := (HB.out.cell (World.block_lt_of_cell? w _ hx137_1)).trans hx137_1
                          replace hx137_2 := (HB.out.cell (World.block_lt_of_cell? w _ hx137_2)).trans hx137_2
                          replace p137 := eq_true p137
                          replace q137 := eq_true q137
                          go_wp2_with (first | ((with_reducible refine gate_dst (N := 9) rfl ?_); (try (refine gate_guard (by rfl) ?_; dsimp only)); refine box_event ?hg (N := 9) ?hd (cs := #[.int .i64 0, .int .i64 0, .int .i64 0]) (t := 32) ?hr ?_; (case hd => rfl); (case hg => rfl); (case hr => first | (go_simp; done) | (go_simp; rfl)); intro gb138 hg w68 hbox hb; have n0_ := Aside0.mk (blk_below (g := gb131) (o := .cells #[.int .i64 a0_0, .int .i64 a0_1, .int .i64 a0_2] 22 (0, 0)) (by (with_reducible repeat (first | refine blk_drewN ?_ _ | refine blk_drew ?_ | refine blk_alloc ?_ _)); exact BK131.out) hb); have n1_ := Aside0.mk (IsP.below (by repeat (first | (with_reducible first | exact HI134.out | apply IsP.alloc | apply IsP.drewN | apply IsP.drew | apply IsP.set_0 | refine IsP.far ?_ NB134_131.out _) | exact HI134.out)) hb); have n2_ := Aside0.mk (below_step (by repeat (first | (with_reducible first | exact HB.out | apply below_alloc | apply pw_below_drewN | apply below_drew1 | refine below_set ?_ (IsP.ge HI134.out) | refine below_set ?_ GE131.out) | exact HB.out)) hb); have n3_ := Aside0.mk (hbox); have n4_ := Aside0.mk ((by rw [hg]; exact (below_size (by repeat (first | (with_reducible first | exact HB.out | apply below_alloc | apply pw_below_drewN | apply below_drew1 | refine below_set ?_ (IsP.ge HI134.out) | refine below_set ?_ GE131.out) | exact HB.out))) : w.heap.size ≤ gb138)); have n5_ := Aside0.mk ((by rw [hg]; exact (below_size (by repeat (first | (with_reducible first | exact HB.out | apply below_alloc | apply pw_below_drewN | apply below_drew1 | refine below_set ?_ (IsP.ge HI134.out) | refine below_set ?_ GE131.out) | exact HB.out))) : w.heap.size ≤ gb138)); have n6_ := Aside0.mk ((by rw [hg]; exact Nat.ne_of_lt (blk_lt (g := gb131) (o := .cells #[.int .i64 a0_0, .int .i64 a0_1, .int .i64 a0_2] 22 (0, 0)) (by (with_reducible repeat (first | refine blk_drewN ?_ _ | refine blk_drew ?_ | refine blk_alloc ?_ _)); exact BK131.out)) : gb131 ≠ gb138)); have n7_ := Aside0.mk ((by rw [hg]; exact Nat.ne_of_gt (blk_lt (g := gb131) (o := .cells #[.int .i64 a0_0, .int .i64 a0_1, .int .i64 a0_2] 22 (0, 0)) (by (with_reducible repeat (first | refine blk_drewN ?_ _ | refine blk_drew ?_ | refine blk_alloc ?_ _)); exact BK131.out)) : gb138 ≠ gb131)); have n8_ := Aside0.mk ((by rw [hg]; exact Nat.ne_of_lt (IsP.lt (show IsP w _ g134 hR x135000_2 from by repeat (first | (with_reducible first | exact HI134.out | apply IsP.alloc | apply IsP.drewN | apply IsP.drew | apply IsP.set_0 | refine IsP.far ?_ NB134_131.out _) | exact HI134.out))) : g134 ≠ gb138)); have n9_ := Aside0.mk ((by rw [hg]; exact Nat.ne_of_gt (IsP.lt (show IsP w _ g134 hR x135000_2 from by repeat (first | (with_reducible first | exact HI134.out | apply IsP.alloc | apply IsP.drewN | apply IsP.drew | apply IsP.set_0 | refine IsP.far ?_ NB134_131.out _) | exact HI134.out))) : gb138 ≠ g134)); clear BK131; clear HI134; clear HB; have BK131 := n0_; have HI134 := n1_; have HB := n2_; have BK138 := n3_; have GW138 := n4_; have GE138 := n5_; have NB131_138 := n6_; have NB138_131 := n7_; have NB134_138 := n8_; have NB138_134 := n9_; clear n0_ n1_ n2_ n3_ n4_ n5_ n6_ n7_ n8_ n9_; clear hb hbox hg; have hnb69 := NB138_131.out; have hnc69 := NB131_138.out; have hnb70 := NB138_134.out; have hnc70 := NB134_138.out; have hcz71_0 : w68.cell? ⟨gb138, 0, none⟩ = some (.int .i64 0) := (blk_cell BK138.out 0).trans rfl; have hcz71_1 : w68.cell? ⟨gb138, 1, none⟩ = some (.int .i64 0) := (blk_cell BK138.out 1).trans rfl; have hcz71_2 : w68.cell? ⟨gb138, 2, none⟩ = some (.int .i64 0) := (blk_cell BK138.out 2).trans rfl; have hfz71_0 := blk_frozen BK138.out 0; have hfz71_1 := blk_frozen BK138.out 1; have hfz71_2 := blk_frozen BK138.out 2) | ((with_reducible refine gate_store (t := 32) (p := 9) rfl ?_); refine store_event (t := 32) (p := 9) (v := ?vo_) (w1 := ((w68.setCell ⟨gb138, 0, none⟩ (.int .i64 ((rd_T32 l1 x90_2).f0))).setCell ⟨gb138, 1, none⟩ (.int .i64 ((rd_T32 l1 x90_2).f1))).setCell ⟨gb138, 2, none⟩ (.int .i64 ((rd_T32 l1 x90_2).f2))) ?hg ?ho ?hn ?hr ?_; (case ho => rfl); (case hg => rfl); (case hn => rfl); (case hr => first | (go_simp; done) | (go_simp; rfl)); intro w68s hw; have m0_ : Aside0 (w68s.heap[gb131]? = some (.cells #[.int .i64 a0_0, .int .i64 a0_1, .int .i64 a0_2] 22 (0, 0))) := ⟨by rw [hw]; exact blk_far (blk_far (blk_far BK131.out NB131_138.out _) NB131_138.out _) NB131_138.out _⟩; have m1_ : Aside0 (w68s.heap[gb138]? = some (.cells #[.int .i64 ((rd_T32 l1 x90_2).f0), .int .i64 ((rd_T32 l1 x90_2).f1), .int .i64 ((rd_T32 l1 x90_2).f2)] 32 (0, 0))) := ⟨by rw [hw]; exact blk_put (blk_put (blk_put BK138.out 0 _ rfl) 1 _ rfl) 2 _ rfl⟩; have m2_ : Aside0 (IsP w w68s g134 hR x135000_2) := ⟨by rw [hw]; exact IsP.far3 HI134.out BK138.out (by decide) (by decide) (by decide) _ _ _⟩; have m3_ : Aside0 (Below w.heap.size w w68s) := ⟨by rw [hw]; exact below_set (below_set (below_set HB.out GE138.out) GE138.out) GE138.out⟩; clear BK131; clear BK138; clear HI134; clear HB; have BK131 := m0_; have BK138 := m1_; have HI134 := m2_; have HB := m3_; clear m0_ m1_ m2_ m3_ hw; (try clear hcz71_0 hcz71_1 hcz71_2 hfz71_0 hfz71_1 hfz71_2); have hys138_0 : w68s.cell? ⟨gb138, 0, none⟩ = some (.int .i64 ((rd_T32 l1 x90_2).f0)) := (blk_cell BK138.out 0).trans rfl; have hzs138_0 := blk_frozen BK138.out 0; have hys138_1 : w68s.cell? ⟨gb138, 1, none⟩ = some (.int .i64 ((rd_T32 l1 x90_2).f1)) := (blk_cell BK138.out 1).trans rfl; have hzs138_1 := blk_frozen BK138.out 1; have hys138_2 : w68s.cell? ⟨gb138, 2, none⟩ = some (.int .i64 ((rd_T32 l1 x90_2).f2)) := (blk_cell BK138.out 2).trans rfl; have hzs138_2 := blk_frozen BK138.out 2))
                          go_roundg k2
                          case measure => have := HJ5.out; have := HK2.out; omega
                          case rel => exact ⟨(wrap64 (x90_2 + 1)), (x135000_2), (by first | rfl | (simp; done) | (simp [*]; done)), H', ⟨by have := HJ5.out; have := HK2.out; omega⟩, ⟨by (with_reducible repeat (first | refine blk_drewN ?_ _ | refine blk_drew ?_ | refine blk_alloc ?_ _)); (with_reducible repeat (first | refine blk_drewN ?_ _ | refine blk_drew ?_ | refine blk_alloc ?_ _)); (with_reducible repeat (first | refine blk_drewN ?_ _ | refine blk_drew ?_ | refine blk_alloc ?_ _)); (with_reducible repeat (first | refine blk_drewN ?_ _ | refine blk_drew ?_ | refine blk_alloc ?_ _)); exact BK131.out⟩, ⟨by repeat (first | (with_reducible first | exact HI134.out | apply IsP.alloc | apply IsP.drewN | apply IsP.drew | apply IsP.set_0 | refine IsP.far ?_ NB134_131.out _ | refine IsP.far ?_ NB134_138.out _) | exact HI134.out)⟩, ⟨by repeat (first | (with_reducible first | exact HB.out | apply below_alloc | apply pw_below_drewN | apply below_drew1 | refine below_set ?_ (IsP.ge HI134.out) | refine below_set ?_ GE131.out | refine below_set ?_ GE138.out) | exact HB.out)⟩⟩
                    · rw [if_neg c27] at H
                      exact absurd H (by simp)
                  · rw [if_neg c26] at H
                    exact absurd H (by simp)
                · rw [if_neg c25] at H
                  have c25b0 : decide (x90_2 < (l1.length : Int)) = false := decide_eq_false c25
                  clear c25
                  have H' := Aside0.mk H
                  clear H
                  go_wp2
                  go_loopg [11, 12] k2 (fun kq v11 v12 w' => ∃ (x11_3 : Int) (x12_3 : Int) (x135000_3 : P), v11 = .int .i64 x11_3 ∧ v12 = .int .i64 x12_3 ∧ Aside0 (incunablelaw27_L2pPlays.l1 kq x11_3 x12_3 a0_0 a0_1 a0_2 x135000_3 = some r) ∧ Aside0 (kq ≤ k2) ∧ Aside0 (w'.heap[gb131]? = some (.cells #[.int .i64 a0_0, .int .i64 a0_1, .int .i64 a0_2] 22 (0, 0))) ∧ Aside0 (IsP w w' g134 hR x135000_3) ∧ Aside0 (Below w.heap.size w w'))
                  case atStart => exact ⟨(0), ((-1)), (x135000_2), (by first | rfl | (simp; done) | (simp [*]; done)), (by first | rfl | (simp; done) | (simp [*]; done)), H', ⟨Nat.le_refl _⟩, ⟨by (with_reducible repeat (first | refine blk_drewN ?_ _ | refine blk_drew ?_ | refine blk_alloc ?_ _)); exact BK131.out⟩, ⟨by repeat (first | (with_reducible first | exact HI134.out | apply IsP.alloc | apply IsP.drewN | apply IsP.drew | apply IsP.set_0 | refine IsP.far ?_ NB134_131.out _) | exact HI134.out)⟩, ⟨by repeat (first | (with_reducible first | exact HB.out | apply below_alloc | apply pw_below_drewN | apply below_drew1 | refine below_set ?_ (IsP.ge HI134.out) | refine below_set ?_ GE131.out) | exact HB.out)⟩⟩
                  case round =>
                    clear H'
                    try clear c1
                    try clear p1
                    try clear q1
                    try clear hx1
                    try clear c2
                    try clear p2
                    try clear c4
                    try clear c5
                    try clear c6
                    try clear p6
                    try clear c7
                    try clear c9
                    try clear c10
                    try clear c11
                    try clear c12
                    try clear p13
                    try clear q13
                    try clear hx13
                    try clear c25
                    try clear c25b0
                    try clear c26
                    try clear c27
                    try clear c28
                    try clear c28b0
                    try clear c28b1
                    try clear c41
                    try clear c42
                    try clear c48
                    try clear c48b0
                    try clear c48b1
                    try clear c51
                    try clear c51b0
                    try clear c51b1
                    try clear c51b2
                    try clear c53
                    try clear c54
                    try clear c61
                    try clear c62
                    try clear p64
                    try clear c69
                    try clear c70
                    try clear hcz43_0
                    try clear hcz43_1
                    try clear hcz43_2
                    try clear hcz55_0
                    try clear hcz55_1
                    try clear hcz55_2
                    try clear hcz63_0
                    try clear hcz63_1
                    try clear hcz63_2
                    try clear hcz71_0
                    try clear hcz71_1
                    try clear hcz71_2
                    try clear hfz43_0
                    try clear hfz43_1
                    try clear hfz43_2
                    try clear hfz55_0
                    try clear hfz55_1
                    try clear hfz55_2
                    try clear hfz63_0
                    try clear hfz63_1
                    try clear hfz63_2
                    try clear hfz71_0
                    try clear hfz71_1
                    try clear hfz71_2
                    try clear hx137_0
                    try clear hx137_1
                    try clear hx137_2
                    try clear p137
                    try clear q137
                    obtain ⟨x11_3, x12_3, x135000_3, rfl, rfl, HA, HK3, BK131, HI134, HB⟩ := hrel
                    cases gk with
                    | zero => exact absurd HA.out (by simp [incunablelaw27_L2pPlays.l1])
                    | succ k3 =>
                      have H := HA.out
                      clear HA
                      simp only [incunablelaw27_L2pPlays.l1] at H
                      by_cases c72 : x12_3 ≤ a0_0
                      · rw [if_pos c72] at H
                        have c72b0 : decide (x12_3 ≤ a0_0) = true := decide_eq_true c72
                        clear c72
                        replace H := Option.bind_eq_some_iff.mp H
                        obtain ⟨⟨t147, t148, t149⟩, A730, H⟩ := H
                        replace H : ((pr_Row.f t149 x12_3).bind fun bt150 => (if x12_3 < 0 then (incunablelaw27_L2pPlays.j3 k3 x11_3 x12_3 t147 t148 (-1) a0_0 a0_1 a0_2 bt150.2) else (incunablelaw27_L2pPlays.j3 k3 x11_3 x12_3 t147 t148 bt150.1 a0_0 a0_1 a0_2 bt150.2))) = some r := H
                        have A73 := Aside0.mk A730
                        clear A730
                        replace H := Option.bind_eq_some_iff.mp H
                        obtain ⟨⟨t150, t151⟩, A740, H⟩ := H
                        replace H : (if x12_3 < 0 then (incunablelaw27_L2pPlays.j3 k3 x11_3 x12_3 t147 t148 (-1) a0_0 a0_1 a0_2 t151) else (incunablelaw27_L2pPlays.j3 k3 x11_3 x12_3 t147 t148 t150 a0_0 a0_1 a0_2 t151)) = some r := H
                        have A74 := Aside0.mk A740
                        clear A740
                        have HC75 := Aside0.mk H
                        clear H
                        have hnb76 := NB131_134.out
                        have hnc76 := NB134_131.out
                        have hcz77_0 : wr.cell? ⟨gb131, 0, none⟩ = some (.int .i64 a0_0) := (blk_cell BK131.out 0).trans rfl
                        have hcz77_1 : wr.cell? ⟨gb131, 1, none⟩ = some (.int .i64 a0_1) := (blk_cell BK131.out 1).trans rfl
                        have hcz77_2 : wr.cell? ⟨gb131, 2, none⟩ = some (.int .i64 a0_2) := (blk_cell BK131.out 2).trans rfl
                        have hfz77_0 := blk_frozen BK131.out 0
                        have hfz77_1 := blk_frozen BK131.out 1
                        have hfz77_2 := blk_frozen BK131.out 2
                        go_upto_if 141 with (first | ((with_reducible refine gate_callee (f := 13) rfl ?_); refine goesL_ (some 134) rfl rfl Try.func13 (by kernel_rfl) rfl #[.pointer (some ⟨g134, 0, none⟩), .int .i64 x12_3] rfl (by (try simp only [List.map_toArray, List.map_cons, List.map_nil]); first | done | rfl | (simp only [List.length_drop, List.length_take]; rfl)) ?_; (with_reducible refine (pm_Row.calls g134 hR x135000_3 x12_3 t147 t148 t149 w _ ?side1 ?side2 A73.out).mono ?_); (case side1 => repeat (first | (with_reducible first | exact HI134.out | apply IsP.alloc | apply IsP.drewN | apply IsP.drew | apply IsP.set_0 | refine IsP.far ?_ NB134_131.out _) | exact HI134.out)); (case side2 => repeat (first | (with_reducible first | exact HB.out | apply below_alloc | apply pw_below_drewN | apply below_drew1 | refine below_set ?_ (IsP.ge HI134.out) | refine below_set ?_ GE131.out) | exact HB.out)); rintro e w78 ⟨rfl, hi, hb, hk⟩; refine ⟨_, rfl, ?_⟩; have n0_ := Aside0.mk (KeepBut.blk hk (g' := gb131) (o := .cells #[.int .i64 a0_0, .int .i64 a0_1, .int .i64 a0_2] 22 (0, 0)) (by (with_reducible repeat (first | refine blk_drewN ?_ _ | refine blk_drew ?_ | refine blk_alloc ?_ _)); exact BK131.out) NB131_134.out (by simp)); have n1_ := Aside0.mk (hb); have n2_ := Aside0.mk (hi); clear BK131; clear HB; clear HI134; have BK131 := n0_; have HB := n1_; have HI134 := n2_; clear n0_ n1_ n2_; (try clear hb); (try clear hb2); (try clear hk); (try clear hi)) | ((with_reducible refine gate_callee (f := 14) rfl ?_); refine goesL_ (some 139) rfl rfl Try.func14 (by kernel_rfl) rfl #[.pointer (some ⟨hR, 0, none⟩), .int .i64 x12_3] rfl (by (try simp only [List.map_toArray, List.map_cons, List.map_nil]); first | done | rfl | (simp only [List.length_drop, List.length_take]; rfl)) ?_; (with_reducible refine (pr_Row.calls g134 hR t149 x12_3 t150 t151 w _ ?side1 ?side2 A74.out).mono ?_); (case side1 => repeat (first | (with_reducible first | exact HI134.out | apply IsP.alloc | apply IsP.drewN | apply IsP.drew | apply IsP.set_0 | refine IsP.far ?_ NB134_131.out _) | exact HI134.out)); (case side2 => repeat (first | (with_reducible first | exact HB.out | apply below_alloc | apply pw_below_drewN | apply below_drew1 | refine below_set ?_ (IsP.ge HI134.out) | refine below_set ?_ GE131.out) | exact HB.out)); rintro e w79 ⟨rfl, hi, hb, hk⟩; refine ⟨_, rfl, ?_⟩; have n0_ := Aside0.mk (KeepBut.blk hk (g' := gb131) (o := .cells #[.int .i64 a0_0, .int .i64 a0_1, .int .i64 a0_2] 22 (0, 0)) (by (with_reducible repeat (first | refine blk_drewN ?_ _ | refine blk_drew ?_ | refine blk_alloc ?_ _)); exact BK131.out) NB131_134.out (by simp)); have n1_ := Aside0.mk (hb); have n2_ := Aside0.mk (hi); clear BK131; clear HB; clear HI134; have BK131 := n0_; have HB := n1_; have HI134 := n2_; clear n0_ n1_ n2_; (try clear hb); (try clear hb2); (try clear hk); (try clear hi)))
                        (try simp only [Act.put, List.setIfInBounds_toArray, List.set_cons_zero, List.set_cons_succ])
                        go_cut [15] (fun v15 wc => ∃ (kq : Nat) (x15_74 : Int), v15 = .int .i64 x15_74 ∧ Aside0 (incunablelaw27_L2pPlays.j3 kq x11_3 x12_3 t147 t148 x15_74 a0_0 a0_1 a0_2 t151 = some r) ∧ Aside0 (kq ≤ k3) ∧ Aside0 (wc.heap[gb131]? = some (.cells #[.int .i64 a0_0, .int .i64 a0_1, .int .i64 a0_2] 22 (0, 0))) ∧ Aside0 (IsP w wc g134 hR t151) ∧ Aside0 (Below w.heap.size w wc))
                        case first =>
                          have H := HC75.out
                          clear HC75
                          by_cases c80 : x12_3 < 0
                          · rw [if_pos c80] at H
                            have c80b0 : decide (x12_3 < 0) = true := decide_eq_true c80
                            clear c80
                            (first | rw [c80b0] | (simp only [i64_w, i32_w]; rw [c80b0]) | skip)
                            have H' := Aside0.mk H
                            clear H
                            go_wp2
                            go_meet
                            case rel => exact ⟨_, ((-1)), (by first | rfl | (simp; done) | (simp [*]; done)), H', ⟨by have := HJ5.out; have := HK2.out; have := HK3.out; first | omega | exact Nat.le_refl _⟩, ⟨by (with_reducible repeat (first | refine blk_drewN ?_ _ | refine blk_drew ?_ | refine blk_alloc ?_ _)); exact BK131.out⟩, ⟨by repeat (first | (with_reducible first | exact HI134.out | apply IsP.alloc | apply IsP.drewN | apply IsP.drew | apply IsP.set_0 | refine IsP.far ?_ NB134_131.out _) | exact HI134.out)⟩, ⟨by repeat (first | (with_reducible first | exact HB.out | apply below_alloc | apply pw_below_drewN | apply below_drew1 | refine below_set ?_ (IsP.ge HI134.out) | refine below_set ?_ GE131.out) | exact HB.out)⟩⟩
                          · rw [if_neg c80] at H
                            have c80b0 : decide (x12_3 < 0) = false := decide_eq_false c80
                            clear c80
                            (first | rw [c80b0] | (simp only [i64_w, i32_w]; rw [c80b0]) | skip)
                            have H' := Aside0.mk H
                            clear H
                            go_wp2
                            go_meet
                            case rel => exact ⟨_, (t150), (by first | rfl | (simp; done) | (simp [*]; done)), H', ⟨by have := HJ5.out; have := HK2.out; have := HK3.out; first | omega | exact Nat.le_refl _⟩, ⟨by (with_reducible repeat (first | refine blk_drewN ?_ _ | refine blk_drew ?_ | refine blk_alloc ?_ _)); exact BK131.out⟩, ⟨by repeat (first | (with_reducible first | exact HI134.out | apply IsP.alloc | apply IsP.drewN | apply IsP.drew | apply IsP.set_0 | refine IsP.far ?_ NB134_131.out _) | exact HI134.out)⟩, ⟨by repeat (first | (with_reducible first | exact HB.out | apply below_alloc | apply pw_below_drewN | apply below_drew1 | refine below_set ?_ (IsP.ge HI134.out) | refine below_set ?_ GE131.out) | exact HB.out)⟩⟩
                        case rest =>
                          clear HC75
                          try clear c1
                          try clear p1
                          try clear q1
                          try clear hx1
                          try clear c2
                          try clear p2
                          try clear c4
                          try clear c5
                          try clear c6
                          try clear p6
                          try clear c7
                          try clear c8
                          try clear c9
                          try clear c10
                          try clear c11
                          try clear c12
                          try clear c13
                          try clear p13
                          try clear q13
                          try clear hx13
                          try clear c14
                          try clear c25
                          try clear c25b0
                          try clear c26
                          try clear c27
                          try clear c28
                          try clear c28b0
                          try clear c28b1
                          try clear c41
                          try clear c42
                          try clear c48
                          try clear c48b0
                          try clear c48b1
                          try clear c51
                          try clear c51b0
                          try clear c51b1
                          try clear c51b2
                          try clear c53
                          try clear c54
                          try clear c61
                          try clear c62
                          try clear p64
                          try clear c69
                          try clear c70
                          try clear c72
                          try clear c72b0
                          try clear c76
                          try clear c80
                          try clear c80b0
                          try clear hcz43_0
                          try clear hcz43_1
                          try clear hcz43_2
                          try clear hcz55_0
                          try clear hcz55_1
                          try clear hcz55_2
                          try clear hcz63_0
                          try clear hcz63_1
                          try clear hcz63_2
                          try clear hcz71_0
                          try clear hcz71_1
                          try clear hcz71_2
                          try clear hcz77_0
                          try clear hcz77_1
                          try clear hcz77_2
                          try clear hfz43_0
                          try clear hfz43_1
                          try clear hfz43_2
                          try clear hfz55_0
                          try clear hfz55_1
                          try clear hfz55_2
                          try clear hfz63_0
                          try clear hfz63_1
                          try clear hfz63_2
                          try clear hfz71_0
                          try clear hfz71_1
                          try clear hfz71_2
                          try clear hfz77_0
                          try clear hfz77_1
                          try clear hfz77_2
                          try clear hx137_0
                          try clear hx137_1
                          try clear hx137_2
                          try clear p1
                          try clear p13
                          try clear p137
                          try clear p2
                          try clear p6
                          try clear p64
                          try clear q1
                          try clear q13
                          try clear q137
                          obtain ⟨kq, x15_74, rfl, HA, HJ74, BK131, HI134, HB⟩ := hcut
                          cases kq with
                          | zero => exact absurd HA.out (by simp [incunablelaw27_L2pPlays.j3])
                          | succ kj74 =>
                            have H := HA.out
                            clear HA
                            simp only [incunablelaw27_L2pPlays.j3] at H
                            have HC81 := Aside0.mk H
                            clear H
                            go_upto_region 31 with (fail)
                            go_cut [161] (fun v161 wc => ∃ (kq : Nat) (x161_80 : Bool), v161 = .bool x161_80 ∧ Aside0 (incunablelaw27_L2pPlays.j4 kq x11_3 x12_3 t148 x161_80 a0_0 a0_1 a0_2 t151 = some r) ∧ Aside0 (kq ≤ kj74) ∧ Aside0 (wc.heap[gb131]? = some (.cells #[.int .i64 a0_0, .int .i64 a0_1, .int .i64 a0_2] 22 (0, 0))) ∧ Aside0 (IsP w wc g134 hR t151) ∧ Aside0 (Below w.heap.size w wc))
                            case first =>
                              have H := HC81.out
                              clear HC81
                              by_cases c82 : (t148 != (decide (x15_74 ≥ 0))) = true
                              · rw [if_pos c82] at H
                                have c82b0 : (t148 != (decide (x15_74 ≥ 0))) = true := c82
                                (try (have c82b1 : decide (t148 = (decide (x15_74 ≥ 0))) = false := by simpa using c82))
                                (try (have c82b2 : (t148 == (decide (x15_74 ≥ 0))) = false := by simpa using c82))
                                (try (have c82b3 : ¬ (t148 = (decide (x15_74 ≥ 0))) := by simpa using c82))
                                clear c82
                                (first | rw [c82b0] | (simp only [i64_w, i32_w]; rw [c82b0]) | skip)
                                have H' := Aside0.mk H
                                clear H
                                go_wp2
                                go_meet
                                case rel => exact ⟨_, (true), (by first | rfl | (simp; done) | (simp [*]; done)), H', ⟨by have := HJ5.out; have := HK2.out; have := HK3.out; have := HJ74.out; first | omega | exact Nat.le_refl _⟩, ⟨by (with_reducible repeat (first | refine blk_drewN ?_ _ | refine blk_drew ?_ | refine blk_alloc ?_ _)); exact BK131.out⟩, ⟨by repeat (first | (with_reducible first | exact HI134.out | apply IsP.alloc | apply IsP.drewN | apply IsP.drew | apply IsP.set_0 | refine IsP.far ?_ NB134_131.out _) | exact HI134.out)⟩, ⟨by repeat (first | (with_reducible first | exact HB.out | apply below_alloc | apply pw_below_drewN | apply below_drew1 | refine below_set ?_ (IsP.ge HI134.out) | refine below_set ?_ GE131.out) | exact HB.out)⟩⟩
                              · rw [if_neg c82] at H
                                have c82b0 : (t148 != (decide (x15_74 ≥ 0))) = false := by simpa using c82
                                (try (have c82b1 : decide (t148 = (decide (x15_74 ≥ 0))) = true := by simpa using c82))
                                (try (have c82b2 : (t148 == (decide (x15_74 ≥ 0))) = true := by simpa using c82))
                                clear c82
                                (first | rw [c82b0] | (simp only [i64_w, i32_w]; rw [c82b0]) | skip)
                                by_cases c83 : t148 = true
                                · subst c83
                                  have H1 : (if t147 = x15_74 then (incunablelaw27_L2pPlays.j4 kj74 x11_3 x12_3 true false a0_0 a0_1 a0_2 t151) else (incunablelaw27_L2pPlays.j4 kj74 x11_3 x12_3 true true a0_0 a0_1 a0_2 t151)) = some r := by rw [if_pos rfl] at H; exact H
                                  clear H
                                  have H := H1
                                  clear H1
                                  by_cases c84 : t147 = x15_74
                                  · rw [if_pos c84] at H
                                    have c84b0 : (t147 == x15_74) = true := beq_iff_eq.mpr c84
                                    have c84b1 : (t147 != x15_74) = false := bne_eq_false_iff_eq.mpr c84
                                    clear c84
                                    have H' := Aside0.mk H
                                    clear H
                                    go_wp2
                                    go_meet
                                    case rel => exact ⟨_, (false), (by first | rfl | (simp; done) | (simp [*]; done)), H', ⟨by have := HJ5.out; have := HK2.out; have := HK3.out; have := HJ74.out; first | omega | exact Nat.le_refl _⟩, ⟨by (with_reducible repeat (first | refine blk_drewN ?_ _ | refine blk_drew ?_ | refine blk_alloc ?_ _)); exact BK131.out⟩, ⟨by repeat (first | (with_reducible first | exact HI134.out | apply IsP.alloc | apply IsP.drewN | apply IsP.drew | apply IsP.set_0 | refine IsP.far ?_ NB134_131.out _) | exact HI134.out)⟩, ⟨by repeat (first | (with_reducible first | exact HB.out | apply below_alloc | apply pw_below_drewN | apply below_drew1 | refine below_set ?_ (IsP.ge HI134.out) | refine below_set ?_ GE131.out) | exact HB.out)⟩⟩
                                  · rw [if_neg c84] at H
                                    have c84b0 : (t147 == x15_74) = false := beq_eq_false_iff_ne.mpr c84
                                    have c84b1 : (t147 != x15_74) = true := bne_iff_ne.mpr c84
                                    have H' := Aside0.mk H
                                    clear H
                                    go_wp2
                                    go_meet
                                    case rel => exact ⟨_, (true), (by first | rfl | (simp; done) | (simp [*]; done)), H', ⟨by have := HJ5.out; have := HK2.out; have := HK3.out; have := HJ74.out; first | omega | exact Nat.le_refl _⟩, ⟨by (with_reducible repeat (first | refine blk_drewN ?_ _ | refine blk_drew ?_ | refine blk_alloc ?_ _)); exact BK131.out⟩, ⟨by repeat (first | (with_reducible first | exact HI134.out | apply IsP.alloc | apply IsP.drewN | apply IsP.drew | apply IsP.set_0 | refine IsP.far ?_ NB134_131.out _) | exact HI134.out)⟩, ⟨by repeat (first | (with_reducible first | exact HB.out | apply below_alloc | apply pw_below_drewN | apply below_drew1 | refine below_set ?_ (IsP.ge HI134.out) | refine below_set ?_ GE131.out) | exact HB.out)⟩⟩
                                · replace c83 := Bool.eq_false_iff.mpr c83
                                  subst c83
                                  have H1 : (incunablelaw27_L2pPlays.j4 kj74 x11_3 x12_3 false (t147 != 0) a0_0 a0_1 a0_2 t151) = some r := by rw [if_neg (show ¬ (false = true) by decide)] at H; exact H
                                  clear H
                                  have H := H1
                                  clear H1
                                  have H' := Aside0.mk H
                                  clear H
                                  go_wp2
                                  go_meet
                                  case rel => exact ⟨_, ((t147 != 0)), (by first | rfl | (simp; done) | (simp [*]; done)), H', ⟨by have := HJ5.out; have := HK2.out; have := HK3.out; have := HJ74.out; first | omega | exact Nat.le_refl _⟩, ⟨by (with_reducible repeat (first | refine blk_drewN ?_ _ | refine blk_drew ?_ | refine blk_alloc ?_ _)); exact BK131.out⟩, ⟨by repeat (first | (with_reducible first | exact HI134.out | apply IsP.alloc | apply IsP.drewN | apply IsP.drew | apply IsP.set_0 | refine IsP.far ?_ NB134_131.out _) | exact HI134.out)⟩, ⟨by repeat (first | (with_reducible first | exact HB.out | apply below_alloc | apply pw_below_drewN | apply below_drew1 | refine below_set ?_ (IsP.ge HI134.out) | refine below_set ?_ GE131.out) | exact HB.out)⟩⟩
                            case rest =>
                              clear HC81
                              try clear c1
                              try clear p1
                              try clear q1
                              try clear hx1
                              try clear c2
                              try clear p2
                              try clear c4
                              try clear c5
                              try clear c6
                              try clear p6
                              try clear c7
                              try clear c8
                              try clear c9
                              try clear c10
                              try clear c11
                              try clear c12
                              try clear c13
                              try clear p13
                              try clear q13
                              try clear hx13
                              try clear c14
                              try clear c25
                              try clear c25b0
                              try clear c26
                              try clear c27
                              try clear c28
                              try clear c28b0
                              try clear c28b1
                              try clear c41
                              try clear c42
                              try clear c48
                              try clear c48b0
                              try clear c48b1
                              try clear c51
                              try clear c51b0
                              try clear c51b1
                              try clear c51b2
                              try clear c53
                              try clear c54
                              try clear c61
                              try clear c62
                              try clear p64
                              try clear c69
                              try clear c70
                              try clear c72
                              try clear c72b0
                              try clear c76
                              try clear c80
                              try clear c80b0
                              try clear c82
                              try clear c82b0
                              try clear c82b1
                              try clear c82b2
                              try clear c83
                              try clear c84
                              try clear c84b0
                              try clear c84b1
                              try clear hcz43_0
                              try clear hcz43_1
                              try clear hcz43_2
                              try clear hcz55_0
                              try clear hcz55_1
                              try clear hcz55_2
                              try clear hcz63_0
                              try clear hcz63_1
                              try clear hcz63_2
                              try clear hcz71_0
                              try clear hcz71_1
                              try clear hcz71_2
                              try clear hcz77_0
                              try clear hcz77_1
                              try clear hcz77_2
                              try clear hfz43_0
                              try clear hfz43_1
                              try clear hfz43_2
                              try clear hfz55_0
                              try clear hfz55_1
                              try clear hfz55_2
                              try clear hfz63_0
                              try clear hfz63_1
                              try clear hfz63_2
                              try clear hfz71_0
                              try clear hfz71_1
                              try clear hfz71_2
                              try clear hfz77_0
                              try clear hfz77_1
                              try clear hfz77_2
                              try clear hx137_0
                              try clear hx137_1
                              try clear hx137_2
                              try clear p1
                              try clear p13
                              try clear p137
                              try clear p2
                              try clear p6
                              try clear p64
                              try clear q1
                              try clear q13
                              try clear q137
                              obtain ⟨kq, x161_80, rfl, HA, HJ80, BK131, HI134, HB⟩ := hcut
                              cases kq with
                              | zero => exact absurd HA.out (by simp [incunablelaw27_L2pPlays.j4])
                              | succ kj80 =>
                                have H := HA.out
                                clear HA
                                simp only [incunablelaw27_L2pPlays.j4] at H
                                by_cases c85 : x161_80 = true
                                · subst c85
                                  have H1 : (some false) = some r := by rw [if_pos rfl] at H; exact H
                                  clear H
                                  have H := H1
                                  clear H1
                                  obtain rfl := Option.some.inj H
                                  go_wp2
                                  go_ret
                                  exact ⟨by first | rfl | (simp [errW_none, errW_some] <;> rfl) | (simp [*, errW_none, errW_some] <;> rfl), by repeat (first | (with_reducible first | exact HB.out | apply below_alloc | apply pw_below_drewN | apply below_drew1 | refine below_set ?_ (IsP.ge HI134.out) | refine below_set ?_ GE131.out) | exact HB.out)⟩
                                · replace c85 := Bool.eq_false_iff.mpr c85
                                  subst c85
                                  have H1 : (if t148 = true then (incunablelaw27_L2pPlays.l1 kj80 (wrap64 (x11_3 + 1)) (wrap64 (x12_3 + 1)) a0_0 a0_1 a0_2 t151) else (incunablelaw27_L2pPlays.l1 kj80 x11_3 (wrap64 (x12_3 + 1)) a0_0 a0_1 a0_2 t151)) = some r := by rw [if_neg (show ¬ (false = true) by decide)] at H; exact H
                                  clear H
                                  have H := H1
                                  clear H1
                                  by_cases c86 : t148 = true
                                  · subst c86
                                    have H1 : (incunablelaw27_L2pPlays.l1 kj80 (wrap64 (x11_3 + 1)) (wrap64 (x12_3 + 1)) a0_0 a0_1 a0_2 t151) = some r := by rw [if_pos rfl] at H; exact H
                                    clear H
                                    have H := H1
                                    clear H1
                                    have H' := Aside0.mk H
                                    clear H
                                    go_wp2
                                    go_roundg kj80
                                    case measure => have := HJ5.out; have := HK2.out; have := HK3.out; have := HJ74.out; have := HJ80.out; omega
                                    case rel => exact ⟨(wrap64 (x11_3 + 1)), (wrap64 (x12_3 + 1)), (t151), (by first | rfl | (simp; done) | (simp [*]; done)), (by first | rfl | (simp; done) | (simp [*]; done)), H', ⟨by have := HJ5.out; have := HK2.out; have := HK3.out; have := HJ74.out; have := HJ80.out; omega⟩, ⟨by (with_reducible repeat (first | refine blk_drewN ?_ _ | refine blk_drew ?_ | refine blk_alloc ?_ _)); exact BK131.out⟩, ⟨by repeat (first | (with_reducible first | exact HI134.out | apply IsP.alloc | apply IsP.drewN | apply IsP.drew | apply IsP.set_0 | refine IsP.far ?_ NB134_131.out _) | exact HI134.out)⟩, ⟨by repeat (first | (with_reducible first | exact HB.out | apply below_alloc | apply pw_below_drewN | apply below_drew1 | refine below_set ?_ (IsP.ge HI134.out) | refine below_set ?_ GE131.out) | exact HB.out)⟩⟩
                                  · replace c86 := Bool.eq_false_iff.mpr c86
                                    subst c86
                                    have H1 : (incunablelaw27_L2pPlays.l1 kj80 x11_3 (wrap64 (x12_3 + 1)) a0_0 a0_1 a0_2 t151) = some r := by rw [if_neg (show ¬ (false = true) by decide)] at H; exact H
                                    clear H
                                    have H := H1
                                    clear H1
                                    have H' := Aside0.mk H
                                    clear H
                                    go_wp2
                                    go_roundg kj80
                                    case measure => have := HJ5.out; have := HK2.out; have := HK3.out; have := HJ74.out; have := HJ80.out; omega
                                    case rel => exact ⟨(x11_3), (wrap64 (x12_3 + 1)), (t151), (by first | rfl | (simp; done) | (simp [*]; done)), (by first | rfl | (simp; done) | (simp [*]; done)), H', ⟨by have := HJ5.out; have := HK2.out; have := HK3.out; have := HJ74.out; have := HJ80.out; omega⟩, ⟨by (with_reducible repeat (first | refine blk_drewN ?_ _ | refine blk_drew ?_ | refine blk_alloc ?_ _)); exact BK131.out⟩, ⟨by repeat (first | (with_reducible first | exact HI134.out | apply IsP.alloc | apply IsP.drewN | apply IsP.drew | apply IsP.set_0 | refine IsP.far ?_ NB134_131.out _) | exact HI134.out)⟩, ⟨by repeat (first | (with_reducible first | exact HB.out | apply below_alloc | apply pw_below_drewN | apply below_drew1 | refine below_set ?_ (IsP.ge HI134.out) | refine below_set ?_ GE131.out) | exact HB.out)⟩⟩
                      · rw [if_neg c72] at H
                        have c72b0 : decide (x12_3 ≤ a0_0) = false := decide_eq_false c72
                        clear c72
                        have H' := Aside0.mk H
                        clear H
                        have hnb87 := NB131_134.out
                        have hnc87 := NB134_131.out
                        have hcz88_0 : wr.cell? ⟨gb131, 0, none⟩ = some (.int .i64 a0_0) := (blk_cell BK131.out 0).trans rfl
                        have hcz88_1 : wr.cell? ⟨gb131, 1, none⟩ = some (.int .i64 a0_1) := (blk_cell BK131.out 1).trans rfl
                        have hcz88_2 : wr.cell? ⟨gb131, 2, none⟩ = some (.int .i64 a0_2) := (blk_cell BK131.out 2).trans rfl
                        have hfz88_0 := blk_frozen BK131.out 0
                        have hfz88_1 := blk_frozen BK131.out 1
                        have hfz88_2 := blk_frozen BK131.out 2
                        go_wp2
                        go_loopg [16] k3 (fun kq v16 w' => ∃ (x16_4 : Int) (x135000_4 : P), v16 = .int .i64 x16_4 ∧ Aside0 (incunablelaw27_L2pPlays.l2 kq x11_3 x16_4 a0_0 a0_1 a0_2 x135000_4 = some r) ∧ Aside0 (kq ≤ k3) ∧ Aside0 (w'.heap[gb131]? = some (.cells #[.int .i64 a0_0, .int .i64 a0_1, .int .i64 a0_2] 22 (0, 0))) ∧ Aside0 (IsP w w' g134 hR x135000_4) ∧ Aside0 (Below w.heap.size w w'))
                        case atStart => exact ⟨((-1)), (x135000_3), (by first | rfl | (simp; done) | (simp [*]; done)), H', ⟨Nat.le_refl _⟩, ⟨by (with_reducible repeat (first | refine blk_drewN ?_ _ | refine blk_drew ?_ | refine blk_alloc ?_ _)); exact BK131.out⟩, ⟨by repeat (first | (with_reducible first | exact HI134.out | apply IsP.alloc | apply IsP.drewN | apply IsP.drew | apply IsP.set_0 | refine IsP.far ?_ NB134_131.out _) | exact HI134.out)⟩, ⟨by repeat (first | (with_reducible first | exact HB.out | apply below_alloc | apply pw_below_drewN | apply below_drew1 | refine below_set ?_ (IsP.ge HI134.out) | refine below_set ?_ GE131.out) | exact HB.out)⟩⟩
                        case round =>
                          clear H'
                          try clear c1
                          try clear p1
                          try clear q1
                          try clear hx1
                          try clear c2
                          try clear p2
                          try clear c4
                          try clear c5
                          try clear c6
                          try clear p6
                          try clear c7
                          try clear c8
                          try clear c9
                          try clear c10
                          try clear c11
                          try clear c12
                          try clear c13
                          try clear p13
                          try clear q13
                          try clear hx13
                          try clear c14
                          try clear c25
                          try clear c25b0
                          try clear c26
                          try clear c27
                          try clear c28
                          try clear c28b0
                          try clear c28b1
                          try clear c41
                          try clear c42
                          try clear c48
                          try clear c48b0
                          try clear c48b1
                          try clear c51
                          try clear c51b0
                          try clear c51b1
                          try clear c51b2
                          try clear c53
                          try clear c54
                          try clear c61
                          try clear c62
                          try clear p64
                          try clear c69
                          try clear c70
                          try clear c72
                          try clear c72b0
                          try clear c76
                          try clear c80
                          try clear c80b0
                          try clear c82
                          try clear c82b0
                          try clear c82b1
                          try clear c82b2
                          try clear c83
                          try clear c84
                          try clear c84b0
                          try clear c84b1
                          try clear c85
                          try clear c86
                          try clear c87
                          try clear hcz43_0
                          try clear hcz43_1
                          try clear hcz43_2
                          try clear hcz55_0
                          try clear hcz55_1
                          try clear hcz55_2
                          try clear hcz63_0
                          try clear hcz63_1
                          try clear hcz63_2
                          try clear hcz71_0
                          try clear hcz71_1
                          try clear hcz71_2
                          try clear hcz77_0
                          try clear hcz77_1
                          try clear hcz77_2
                          try clear hcz88_0
                          try clear hcz88_1
                          try clear hcz88_2
                          try clear hfz43_0
                          try clear hfz43_1
                          try clear hfz43_2
                          try clear hfz55_0
                          try clear hfz55_1
                          try clear hfz55_2
                          try clear hfz63_0
                          try clear hfz63_1
                          try clear hfz63_2
                          try clear hfz71_0
                          try clear hfz71_1
                          try clear hfz71_2
                          try clear hfz77_0
                          try clear hfz77_1
                          try clear hfz77_2
                          try clear hfz88_0
                          try clear hfz88_1
                          try clear hfz88_2
                          try clear hx137_0
                          try clear hx137_1
                          try clear hx137_2
                          try clear p1
                          try clear p13
                          try clear p137
                          try clear p2
                          try clear p6
                          try clear p64
                          try clear q1
                          try clear q13
                          try clear q137
                          obtain ⟨x16_4, x135000_4, rfl, HA, HK4, BK131, HI134, HB⟩ := hrel
                          cases gk with
                          | zero => exact absurd HA.out (by simp [incunablelaw27_L2pPlays.l2])
                          | succ k4 =>
                            have H := HA.out
                            clear HA
                            simp only [incunablelaw27_L2pPlays.l2] at H
                            by_cases c89 : x16_4 ≤ a0_1
                            · rw [if_pos c89] at H
                              have c89b0 : decide (x16_4 ≤ a0_1) = true := decide_eq_true c89
                              clear c89
                              replace H := Option.bind_eq_some_iff.mp H
                              obtain ⟨⟨t154, t157⟩, A900, H⟩ := H
                              replace H : ((pr_Rows.f t157 x16_4).bind fun bt158 => ((incunableref01_Ints.f k4 t154 bt158.1).bind fun t162 => (if t162 = true then ((pm_Valid.f bt158.2 x16_4).bind fun bt163 => ((pr_Rows.f bt163.2 x16_4).bind fun bt165 => (if bt163.1 = (bt165.1.length : Int) then (incunablelaw27_L2pPlays.l2 k4 x11_3 (wrap64 (x16_4 + 1)) a0_0 a0_1 a0_2 bt165.2) else (some false)))) else (some false)))) = some r := H
                              have A90 := Aside0.mk A900
                              clear A900
                              replace H := Option.bind_eq_some_iff.mp H
                              obtain ⟨⟨t158, t161⟩, A910, H⟩ := H
                              replace H : ((incunableref01_Ints.f k4 t154 t158).bind fun t162 => (if t162 = true then ((pm_Valid.f t161 x16_4).bind fun bt163 => ((pr_Rows.f bt163.2 x16_4).bind fun bt165 => (if bt163.1 = (bt165.1.length : Int) then (incunablelaw27_L2pPlays.l2 k4 x11_3 (wrap64 (x16_4 + 1)) a0_0 a0_1 a0_2 bt165.2) else (some false)))) else (some false))) = some r := H
                              have A91 := Aside0.mk A910
                              clear A910
                              replace H := Option.bind_eq_some_iff.mp H
                              obtain ⟨t162, A920, H⟩ := H
                              replace H : (if t162 = true then ((pm_Valid.f t161 x16_4).bind fun bt163 => ((pr_Rows.f bt163.2 x16_4).bind fun bt165 => (if bt163.1 = (bt165.1.length : Int) then (incunablelaw27_L2pPlays.l2 k4 x11_3 (wrap64 (x16_4 + 1)) a0_0 a0_1 a0_2 bt165.2) else (some false)))) else (some false)) = some r := H
                              have A92 := Aside0.mk A920
                              clear A920
                              by_cases c93 : t162 = true
                              · subst c93
                                have H1 : ((pm_Valid.f t161 x16_4).bind fun bt163 => ((pr_Rows.f bt163.2 x16_4).bind fun bt165 => (if bt163.1 = (bt165.1.length : Int) then (incunablelaw27_L2pPlays.l2 k4 x11_3 (wrap64 (x16_4 + 1)) a0_0 a0_1 a0_2 bt165.2) else (some false)))) = some r := by rw [if_pos rfl] at H; exact H
                                clear H
                                have H := H1
                                clear H1
                                replace H := Option.bind_eq_some_iff.mp H
                                obtain ⟨⟨t163, t164⟩, A940, H⟩ := H
                                replace H : ((pr_Rows.f t164 x16_4).bind fun bt165 => (if t163 = (bt165.1.length : Int) then (incunablelaw27_L2pPlays.l2 k4 x11_3 (wrap64 (x16_4 + 1)) a0_0 a0_1 a0_2 bt165.2) else (some false))) = some r := H
                                have A94 := Aside0.mk A940
                                clear A940
                                replace H := Option.bind_eq_some_iff.mp H
                                obtain ⟨⟨t165, t168⟩, A950, H⟩ := H
                                replace H : (if t163 = (t165.length : Int) then (incunablelaw27_L2pPlays.l2 k4 x11_3 (wrap64 (x16_4 + 1)) a0_0 a0_1 a0_2 t168) else (some false)) = some r := H
                                have A95 := Aside0.mk A950
                                clear A950
                                by_cases c96 : t163 = (t165.length : Int)
                                · rw [if_pos c96] at H
                                  have c96b0 : (t163 == (t165.length : Int)) = true := beq_iff_eq.mpr c96
                                  have c96b1 : (t163 != (t165.length : Int)) = false := bne_eq_false_iff_eq.mpr c96
                                  clear c96
                                  have H' := Aside0.mk H
                                  clear H
                                  have hnb97 := NB131_134.out
                                  have hnc97 := NB134_131.out
                                  have hcz98_0 : wr.cell? ⟨gb131, 0, none⟩ = some (.int .i64 a0_0) := (blk_cell BK131.out 0).trans rfl
                                  have hcz98_1 : wr.cell? ⟨gb131, 1, none⟩ = some (.int .i64 a0_1) := (blk_cell BK131.out 1).trans rfl
                                  have hcz98_2 : wr.cell? ⟨gb131, 2, none⟩ = some (.int .i64 a0_2) := (blk_cell BK131.out 2).trans rfl
                                  have hfz98_0 := blk_frozen BK131.out 0
                                  have hfz98_1 := blk_frozen BK131.out 1
                                  have hfz98_2 := blk_frozen BK131.out 2
                                  go_wp2_with (first | ((with_reducible refine gate_callee (f := 16) rfl ?_); refine goesL_ (some 173) rfl rfl Try.func16 (by kernel_rfl) rfl #[.pointer (some ⟨g134, 0, none⟩), .int .i64 x16_4] rfl (by (try simp only [List.map_toArray, List.map_cons, List.map_nil]); first | done | rfl | (simp only [List.length_drop, List.length_take]; rfl)) ?_; (with_reducible refine (pm_Rows.calls k4 g134 hR x135000_4 x16_4 t154 t157 w _ ?side1 ?side2 A90.out).mono ?_); (case side1 => repeat (first | (with_reducible first | exact HI134.out | apply IsP.alloc | apply IsP.drewN | apply IsP.drew | apply IsP.set_0 | refine IsP.far ?_ NB134_131.out _) | exact HI134.out)); (case side2 => repeat (first | (with_reducible first | exact HB.out | apply below_alloc | apply pw_below_drewN | apply below_drew1 | refine below_set ?_ (IsP.ge HI134.out) | refine below_set ?_ GE131.out) | exact HB.out)); rintro e w99 ⟨v155, rfl, ho0, hi, hb, hk⟩; refine ⟨_, rfl, ?_⟩; have n0_ := Aside0.mk (KeepBut.blk hk (g' := gb131) (o := .cells #[.int .i64 a0_0, .int .i64 a0_1, .int .i64 a0_2] 22 (0, 0)) (by (with_reducible repeat (first | refine blk_drewN ?_ _ | refine blk_drew ?_ | refine blk_alloc ?_ _)); exact BK131.out) NB131_134.out (by simp)); have n1_ := Aside0.mk (Kd.R_lower ho0 (below_size (by repeat (first | (with_reducible first | exact HB.out | apply below_alloc | apply pw_below_drewN | apply below_drew1 | refine below_set ?_ (IsP.ge HI134.out) | refine below_set ?_ GE131.out) | exact HB.out)))); have n2_ := Aside0.mk (hb); have n3_ := Aside0.mk (hi); clear BK131; clear HB; clear HI134; have BK131 := n0_; have HO156 := n1_; have HB := n2_; have HI134 := n3_; clear n0_ n1_ n2_ n3_; (try clear hb); (try clear hb2); (try clear hk); (try clear hi); (try clear ho0)) | ((with_reducible refine gate_callee (f := 17) rfl ?_); refine goesL_ (some 176) rfl rfl Try.func17 (by kernel_rfl) rfl #[.pointer (some ⟨hR, 0, none⟩), .int .i64 x16_4] rfl (by (try simp only [List.map_toArray, List.map_cons, List.map_nil]); first | done | rfl | (simp only [List.length_drop, List.length_take]; rfl)) ?_; (with_reducible refine (pr_Rows.calls g134 hR t157 x16_4 t158 t161 w _ ?side1 ?side2 A91.out).mono ?_); (case side1 => repeat (first | (with_reducible first | exact HI134.out | apply IsP.alloc | apply IsP.drewN | apply IsP.drew | apply IsP.set_0 | refine IsP.far ?_ NB134_131.out _) | exact HI134.out)); (case side2 => repeat (first | (with_reducible first | exact HB.out | apply below_alloc | apply pw_below_drewN | apply below_drew1 | refine below_set ?_ (IsP.ge HI134.out) | refine below_set ?_ GE131.out) | exact HB.out)); rintro e w100 ⟨v159, rfl, ho0, hi, hb, hk⟩; refine ⟨_, rfl, ?_⟩; have n0_ := Aside0.mk (KeepBut.blk hk (g' := gb131) (o := .cells #[.int .i64 a0_0, .int .i64 a0_1, .int .i64 a0_2] 22 (0, 0)) (by (with_reducible repeat (first | refine blk_drewN ?_ _ | refine blk_drew ?_ | refine blk_alloc ?_ _)); exact BK131.out) NB131_134.out (by simp)); have n1_ := Aside0.mk (Kd.R_mono (Kd.R_told (Kd.R_oldK (IsP.apart (show IsP w _ g134 hR t157 from by repeat (first | (with_reducible first | exact HI134.out | apply IsP.alloc | apply IsP.drewN | apply IsP.drew | apply IsP.set_0 | refine IsP.far ?_ NB134_131.out _) | exact HI134.out)) (by (with_reducible repeat (first | apply Kd.R_alloc | apply Kd.R_drewN | apply Kd.R_drew)); exact HO156.out) (by decide)) hk) (Kd.R_base ho0)) (fun _ h_ => h_.1)); have n2_ := Aside0.mk (Kd.R_lower (Kd.R_new' ho0 (Kd.R_lt (by (with_reducible repeat (first | apply Kd.R_alloc | apply Kd.R_drewN | apply Kd.R_drew)); exact HO156.out))) (below_size (by repeat (first | (with_reducible first | exact HB.out | apply below_alloc | apply pw_below_drewN | apply below_drew1 | refine below_set ?_ (IsP.ge HI134.out) | refine below_set ?_ GE131.out) | exact HB.out)))); have n3_ := Aside0.mk (hb); have n4_ := Aside0.mk (hi); clear BK131; clear HO156; clear HB; clear HI134; have BK131 := n0_; have HO156 := n1_; have HO160 := n2_; have HB := n3_; have HI134 := n4_; clear n0_ n1_ n2_ n3_ n4_; (try clear hb); (try clear hb2); (try clear hk); (try clear hi); (try clear ho0); obtain ⟨Ao101, co101, eo101⟩ := Kd.R_slice HO156.out; subst eo101; obtain ⟨Ao102, co102, eo102⟩ := Kd.R_slice HO160.out; subst eo102) | ((with_reducible refine gate_callee (f := 15) rfl ?_); refine goesL_ (some 177) rfl rfl Try.func15 (by kernel_rfl) rfl #[.slice Ao101 t154.length co101, .slice Ao102 t158.length co102] rfl (by (try simp only [List.map_toArray, List.map_cons, List.map_nil]); first | done | rfl | (simp only [List.length_drop, List.length_take]; rfl)) ?_; (with_reducible refine (incunableref01_Ints.calls k4 _ _ t154 _ _ t158 true _ ?side1 ?side2 ?side3 ?side4 A92.out).mono ?_); (case side1 => repeat (first | exact (Kd.R_reads' HO156.out).2.2 | (with_reducible refine Kd.C_alloc ?_ _) | (with_reducible refine Kd.C_drewN ?_ _) | (with_reducible refine Kd.C_drew ?_))); (case side2 => exact (Kd.R_reads' HO156.out).2.1); (case side3 => repeat (first | exact (Kd.R_reads' HO160.out).2.2 | (with_reducible refine Kd.C_alloc ?_ _) | (with_reducible refine Kd.C_drewN ?_ _) | (with_reducible refine Kd.C_drew ?_))); (case side4 => exact (Kd.R_reads' HO160.out).2.1); rintro e w' ⟨rfl, ⟨nd, rfl⟩⟩; refine ⟨_, rfl, ?_⟩) | (go_at_call 18; (with_reducible refine (pm_Valid.calls g134 hR t161 x16_4 t163 t164 w _ ?side1 ?side2 A94.out).mono ?_); (case side1 => repeat (first | (with_reducible first | exact HI134.out | apply IsP.alloc | apply IsP.drewN | apply IsP.drew | apply IsP.set_0 | refine IsP.far ?_ NB134_131.out _) | exact HI134.out)); (case side2 => repeat (first | (with_reducible first | exact HB.out | apply below_alloc | apply pw_below_drewN | apply below_drew1 | refine below_set ?_ (IsP.ge HI134.out) | refine below_set ?_ GE131.out) | exact HB.out)); rintro e w103 ⟨rfl, hi, hb, hk⟩; have n0_ := Aside0.mk (KeepBut.blk hk (g' := gb131) (o := .cells #[.int .i64 a0_0, .int .i64 a0_1, .int .i64 a0_2] 22 (0, 0)) (by (with_reducible repeat (first | refine blk_drewN ?_ _ | refine blk_drew ?_ | refine blk_alloc ?_ _)); exact BK131.out) NB131_134.out (by simp)); have n1_ := Aside0.mk (Kd.R_mono (Kd.R_keep (IsP.apart (show IsP w _ g134 hR t161 from by repeat (first | (with_reducible first | exact HI134.out | apply IsP.alloc | apply IsP.drewN | apply IsP.drew | apply IsP.set_0 | refine IsP.far ?_ NB134_131.out _) | exact HI134.out)) (by (with_reducible repeat (first | apply Kd.R_alloc | apply Kd.R_drewN | apply Kd.R_drew)); exact HO156.out) (by decide)) hk (fun _ h => h.2)) (fun _ h => h.1)); have n2_ := Aside0.mk (Kd.R_mono (Kd.R_keep (IsP.apart (show IsP w _ g134 hR t161 from by repeat (first | (with_reducible first | exact HI134.out | apply IsP.alloc | apply IsP.drewN | apply IsP.drew | apply IsP.set_0 | refine IsP.far ?_ NB134_131.out _) | exact HI134.out)) (by (with_reducible repeat (first | apply Kd.R_alloc | apply Kd.R_drewN | apply Kd.R_drew)); exact HO160.out) (by decide)) hk (fun _ h => h.2)) (fun _ h => h.1)); have n3_ := Aside0.mk (hb); have n4_ := Aside0.mk (hi); clear BK131; clear HO156; clear HO160; clear HB; clear HI134; have BK131 := n0_; have HO156 := n1_; have HO160 := n2_; have HB := n3_; have HI134 := n4_; clear n0_ n1_ n2_ n3_ n4_; (try clear hb); (try clear hb2); (try clear hk); (try clear hi)) | (go_at_call 17; (with_reducible refine (pr_Rows.calls g134 hR t164 x16_4 t165 t168 w _ ?side1 ?side2 A95.out).mono ?_); (case side1 => repeat (first | (with_reducible first | exact HI134.out | apply IsP.alloc | apply IsP.drewN | apply IsP.drew | apply IsP.set_0 | refine IsP.far ?_ NB134_131.out _) | exact HI134.out)); (case side2 => repeat (first | (with_reducible first | exact HB.out | apply below_alloc | apply pw_below_drewN | apply below_drew1 | refine below_set ?_ (IsP.ge HI134.out) | refine below_set ?_ GE131.out) | exact HB.out)); rintro e w104 ⟨v166, rfl, ho0, hi, hb, hk⟩; have n0_ := Aside0.mk (KeepBut.blk hk (g' := gb131) (o := .cells #[.int .i64 a0_0, .int .i64 a0_1, .int .i64 a0_2] 22 (0, 0)) (by (with_reducible repeat (first | refine blk_drewN ?_ _ | refine blk_drew ?_ | refine blk_alloc ?_ _)); exact BK131.out) NB131_134.out (by simp)); have n1_ := Aside0.mk (Kd.R_mono (Kd.R_told (Kd.R_oldK (IsP.apart (show IsP w _ g134 hR t164 from by repeat (first | (with_reducible first | exact HI134.out | apply IsP.alloc | apply IsP.drewN | apply IsP.drew | apply IsP.set_0 | refine IsP.far ?_ NB134_131.out _) | exact HI134.out)) (by (with_reducible repeat (first | apply Kd.R_alloc | apply Kd.R_drewN | apply Kd.R_drew)); exact HO156.out) (by decide)) hk) (Kd.R_base ho0)) (fun _ h_ => h_.1)); have n2_ := Aside0.mk (Kd.R_mono (Kd.R_told (Kd.R_oldK (IsP.apart (show IsP w _ g134 hR t164 from by repeat (first | (with_reducible first | exact HI134.out | apply IsP.alloc | apply IsP.drewN | apply IsP.drew | apply IsP.set_0 | refine IsP.far ?_ NB134_131.out _) | exact HI134.out)) (by (with_reducible repeat (first | apply Kd.R_alloc | apply Kd.R_drewN | apply Kd.R_drew)); exact HO160.out) (by decide)) hk) (Kd.R_base ho0)) (fun _ h_ => h_.1)); have n3_ := Aside0.mk (Kd.R_lower (Kd.R_new' (Kd.R_new' ho0 (Kd.R_lt (by (with_reducible repeat (first | apply Kd.R_alloc | apply Kd.R_drewN | apply Kd.R_drew)); exact HO156.out))) (Kd.R_lt (by (with_reducible repeat (first | apply Kd.R_alloc | apply Kd.R_drewN | apply Kd.R_drew)); exact HO160.out))) (below_size (by repeat (first | (with_reducible first | exact HB.out | apply below_alloc | apply pw_below_drewN | apply below_drew1 | refine below_set ?_ (IsP.ge HI134.out) | refine below_set ?_ GE131.out) | exact HB.out)))); have n4_ := Aside0.mk (hb); have n5_ := Aside0.mk (hi); clear BK131; clear HO156; clear HO160; clear HB; clear HI134; have BK131 := n0_; have HO156 := n1_; have HO160 := n2_; have HO167 := n3_; have HB := n4_; have HI134 := n5_; clear n0_ n1_ n2_ n3_ n4_ n5_; (try clear hb); (try clear hb2); (try clear hk); (try clear hi); (try clear ho0); obtain ⟨Ao105, co105, eo105⟩ := Kd.R_slice HO167.out; subst eo105))
                                  go_roundg k4
                                  case measure => have := HJ5.out; have := HK2.out; have := HK3.out; have := HK4.out; omega
                                  case rel => exact ⟨(wrap64 (x16_4 + 1)), (t168), (by first | rfl | (simp; done) | (simp [*]; done)), H', ⟨by have := HJ5.out; have := HK2.out; have := HK3.out; have := HK4.out; omega⟩, ⟨by (with_reducible repeat (first | refine blk_drewN ?_ _ | refine blk_drew ?_ | refine blk_alloc ?_ _)); exact BK131.out⟩, ⟨by repeat (first | (with_reducible first | exact HI134.out | apply IsP.alloc | apply IsP.drewN | apply IsP.drew | apply IsP.set_0 | refine IsP.far ?_ NB134_131.out _) | exact HI134.out)⟩, ⟨by repeat (first | (with_reducible first | exact HB.out | apply below_alloc | apply pw_below_drewN | apply below_drew1 | refine below_set ?_ (IsP.ge HI134.out) | refine below_set ?_ GE131.out) | exact HB.out)⟩⟩
                                · rw [if_neg c96] at H
                                  have c96b0 : (t163 == (t165.length : Int)) = false := beq_eq_false_iff_ne.mpr c96
                                  have c96b1 : (t163 != (t165.length : Int)) = true := bne_iff_ne.mpr c96
                                  obtain rfl := Option.some.inj H
                                  have hnb106 := NB131_134.out
                                  have hnc106 := NB134_131.out
                                  have hcz107_0 : wr.cell? ⟨gb131, 0, none⟩ = some (.int .i64 a0_0) := (blk_cell BK131.out 0).trans rfl
                                  have hcz107_1 : wr.cell? ⟨gb131, 1, none⟩ = some (.int .i64 a0_1) := (blk_cell BK131.out 1).trans rfl
                                  have hcz107_2 : wr.cell? ⟨gb131, 2, none⟩ = some (.int .i64 a0_2) := (blk_cell BK131.out 2).trans rfl
                                  have hfz107_0 := blk_frozen BK131.out 0
                                  have hfz107_1 := blk_frozen BK131.out 1
                                  have hfz107_2 := blk_frozen BK131.out 2
                                  go_wp2_with (first | ((with_reducible refine gate_callee (f := 16) rfl ?_); refine goesL_ (some 173) rfl rfl Try.func16 (by kernel_rfl) rfl #[.pointer (some ⟨g134, 0, none⟩), .int .i64 x16_4] rfl (by (try simp only [List.map_toArray, List.map_cons, List.map_nil]); first | done | rfl | (simp only [List.length_drop, List.length_take]; rfl)) ?_; (with_reducible refine (pm_Rows.calls k4 g134 hR x135000_4 x16_4 t154 t157 w _ ?side1 ?side2 A90.out).mono ?_); (case side1 => repeat (first | (with_reducible first | exact HI134.out | apply IsP.alloc | apply IsP.drewN | apply IsP.drew | apply IsP.set_0 | refine IsP.far ?_ NB134_131.out _) | exact HI134.out)); (case side2 => repeat (first | (with_reducible first | exact HB.out | apply below_alloc | apply pw_below_drewN | apply below_drew1 | refine below_set ?_ (IsP.ge HI134.out) | refine below_set ?_ GE131.out) | exact HB.out)); rintro e w108 ⟨v155, rfl, ho0, hi, hb, hk⟩; refine ⟨_, rfl, ?_⟩; have n0_ := Aside0.mk (KeepBut.blk hk (g' := gb131) (o := .cells #[.int .i64 a0_0, .int .i64 a0_1, .int .i64 a0_2] 22 (0, 0)) (by (with_reducible repeat (first | refine blk_drewN ?_ _ | refine blk_drew ?_ | refine blk_alloc ?_ _)); exact BK131.out) NB131_134.out (by simp)); have n1_ := Aside0.mk (Kd.R_lower ho0 (below_size (by repeat (first | (with_reducible first | exact HB.out | apply below_alloc | apply pw_below_drewN | apply below_drew1 | refine below_set ?_ (IsP.ge HI134.out) | refine below_set ?_ GE131.out) | exact HB.out)))); have n2_ := Aside0.mk (hb); have n3_ := Aside0.mk (hi); clear BK131; clear HB; clear HI134; have BK131 := n0_; have HO156 := n1_; have HB := n2_; have HI134 := n3_; clear n0_ n1_ n2_ n3_; (try clear hb); (try clear hb2); (try clear hk); (try clear hi); (try clear ho0)) | ((with_reducible refine gate_callee (f := 17) rfl ?_); refine goesL_ (some 176) rfl rfl Try.func17 (by kernel_rfl) rfl #[.pointer (some ⟨hR, 0, none⟩), .int .i64 x16_4] rfl (by (try simp only [List.map_toArray, List.map_cons, List.map_nil]); first | done | rfl | (simp only [List.length_drop, List.length_take]; rfl)) ?_; (with_reducible refine (pr_Rows.calls g134 hR t157 x16_4 t158 t161 w _ ?side1 ?side2 A91.out).mono ?_); (case side1 => repeat (first | (with_reducible first | exact HI134.out | apply IsP.alloc | apply IsP.drewN | apply IsP.drew | apply IsP.set_0 | refine IsP.far ?_ NB134_131.out _) | exact HI134.out)); (case side2 => repeat (first | (with_reducible first | exact HB.out | apply below_alloc | apply pw_below_drewN | apply below_drew1 | refine below_set ?_ (IsP.ge HI134.out) | refine below_set ?_ GE131.out) | exact HB.out)); rintro e w109 ⟨v159, rfl, ho0, hi, hb, hk⟩; refine ⟨_, rfl, ?_⟩; have n0_ := Aside0.mk (KeepBut.blk hk (g' := gb131) (o := .cells #[.int .i64 a0_0, .int .i64 a0_1, .int .i64 a0_2] 22 (0, 0)) (by (with_reducible repeat (first | refine blk_drewN ?_ _ | refine blk_drew ?_ | refine blk_alloc ?_ _)); exact BK131.out) NB131_134.out (by simp)); have n1_ := Aside0.mk (Kd.R_mono (Kd.R_told (Kd.R_oldK (IsP.apart (show IsP w _ g134 hR t157 from by repeat (first | (with_reducible first | exact HI134.out | apply IsP.alloc | apply IsP.drewN | apply IsP.drew | apply IsP.set_0 | refine IsP.far ?_ NB134_131.out _) | exact HI134.out)) (by (with_reducible repeat (first | apply Kd.R_alloc | apply Kd.R_drewN | apply Kd.R_drew)); exact HO156.out) (by decide)) hk) (Kd.R_base ho0)) (fun _ h_ => h_.1)); have n2_ := Aside0.mk (Kd.R_lower (Kd.R_new' ho0 (Kd.R_lt (by (with_reducible repeat (first | apply Kd.R_alloc | apply Kd.R_drewN | apply Kd.R_drew)); exact HO156.out))) (below_size (by repeat (first | (with_reducible first | exact HB.out | apply below_alloc | apply pw_below_drewN | apply below_drew1 | refine below_set ?_ (IsP.ge HI134.out) | refine below_set ?_ GE131.out) | exact HB.out)))); have n3_ := Aside0.mk (hb); have n4_ := Aside0.mk (hi); clear BK131; clear HO156; clear HB; clear HI134; have BK131 := n0_; have HO156 := n1_; have HO160 := n2_; have HB := n3_; have HI134 := n4_; clear n0_ n1_ n2_ n3_ n4_; (try clear hb); (try clear hb2); (try clear hk); (try clear hi); (try clear ho0); obtain ⟨Ao110, co110, eo110⟩ := Kd.R_slice HO156.out; subst eo110; obtain ⟨Ao111, co111, eo111⟩ := Kd.R_slice HO160.out; subst eo111) | ((with_reducible refine gate_callee (f := 15) rfl ?_); refine goesL_ (some 177) rfl rfl Try.func15 (by kernel_rfl) rfl #[.slice Ao110 t154.length co110, .slice Ao111 t158.length co111] rfl (by (try simp only [List.map_toArray, List.map_cons, List.map_nil]); first | done | rfl | (simp only [List.length_drop, List.length_take]; rfl)) ?_; (with_reducible refine (incunableref01_Ints.calls k4 _ _ t154 _ _ t158 true _ ?side1 ?side2 ?side3 ?side4 A92.out).mono ?_); (case side1 => repeat (first | exact (Kd.R_reads' HO156.out).2.2 | (with_reducible refine Kd.C_alloc ?_ _) | (with_reducible refine Kd.C_drewN ?_ _) | (with_reducible refine Kd.C_drew ?_))); (case side2 => exact (Kd.R_reads' HO156.out).2.1); (case side3 => repeat (first | exact (Kd.R_reads' HO160.out).2.2 | (with_reducible refine Kd.C_alloc ?_ _) | (with_reducible refine Kd.C_drewN ?_ _) | (with_reducible refine Kd.C_drew ?_))); (case side4 => exact (Kd.R_reads' HO160.out).2.1); rintro e w' ⟨rfl, ⟨nd, rfl⟩⟩; refine ⟨_, rfl, ?_⟩) | (go_at_call 18; (with_reducible refine (pm_Valid.calls g134 hR t161 x16_4 t163 t164 w _ ?side1 ?side2 A94.out).mono ?_); (case side1 => repeat (first | (with_reducible first | exact HI134.out | apply IsP.alloc | apply IsP.drewN | apply IsP.drew | apply IsP.set_0 | refine IsP.far ?_ NB134_131.out _) | exact HI134.out)); (case side2 => repeat (first | (with_reducible first | exact HB.out | apply below_alloc | apply pw_below_drewN | apply below_drew1 | refine below_set ?_ (IsP.ge HI134.out) | refine below_set ?_ GE131.out) | exact HB.out)); rintro e w112 ⟨rfl, hi, hb, hk⟩; have n0_ := Aside0.mk (KeepBut.blk hk (g' := gb131) (o := .cells #[.int .i64 a0_0, .int .i64 a0_1, .int .i64 a0_2] 22 (0, 0)) (by (with_reducible repeat (first | refine blk_drewN ?_ _ | refine blk_drew ?_ | refine blk_alloc ?_ _)); exact BK131.out) NB131_134.out (by simp)); have n1_ := Aside0.mk (Kd.R_mono (Kd.R_keep (IsP.apart (show IsP w _ g134 hR t161 from by repeat (first | (with_reducible first | exact HI134.out | apply IsP.alloc | apply IsP.drewN | apply IsP.drew | apply IsP.set_0 | refine IsP.far ?_ NB134_131.out _) | exact HI134.out)) (by (with_reducible repeat (first | apply Kd.R_alloc | apply Kd.R_drewN | apply Kd.R_drew)); exact HO156.out) (by decide)) hk (fun _ h => h.2)) (fun _ h => h.1)); have n2_ := Aside0.mk (Kd.R_mono (Kd.R_keep (IsP.apart (show IsP w _ g134 hR t161 from by repeat (first | (with_reducible first | exact HI134.out | apply IsP.alloc | apply IsP.drewN | apply IsP.drew | apply IsP.set_0 | refine IsP.far ?_ NB134_131.out _) | exact HI134.out)) (by (with_reducible repeat (first | apply Kd.R_alloc | apply Kd.R_drewN | apply Kd.R_drew)); exact HO160.out) (by decide)) hk (fun _ h => h.2)) (fun _ h => h.1)); have n3_ := Aside0.mk (hb); have n4_ := Aside0.mk (hi); clear BK131; clear HO156; clear HO160; clear HB; clear HI134; have BK131 := n0_; have HO156 := n1_; have HO160 := n2_; have HB := n3_; have HI134 := n4_; clear n0_ n1_ n2_ n3_ n4_; (try clear hb); (try clear hb2); (try clear hk); (try clear hi)) | (go_at_call 17; (with_reducible refine (pr_Rows.calls g134 hR t164 x16_4 t165 t168 w _ ?side1 ?side2 A95.out).mono ?_); (case side1 => repeat (first | (with_reducible first | exact HI134.out | apply IsP.alloc | apply IsP.drewN | apply IsP.drew | apply IsP.set_0 | refine IsP.far ?_ NB134_131.out _) | exact HI134.out)); (case side2 => repeat (first | (with_reducible first | exact HB.out | apply below_alloc | apply pw_below_drewN | apply below_drew1 | refine below_set ?_ (IsP.ge HI134.out) | refine below_set ?_ GE131.out) | exact HB.out)); rintro e w113 ⟨v166, rfl, ho0, hi, hb, hk⟩; have n0_ := Aside0.mk (KeepBut.blk hk (g' := gb131) (o := .cells #[.int .i64 a0_0, .int .i64 a0_1, .int .i64 a0_2] 22 (0, 0)) (by (with_reducible repeat (first | refine blk_drewN ?_ _ | refine blk_drew ?_ | refine blk_alloc ?_ _)); exact BK131.out) NB131_134.out (by simp)); have n1_ := Aside0.mk (Kd.R_mono (Kd.R_told (Kd.R_oldK (IsP.apart (show IsP w _ g134 hR t164 from by repeat (first | (with_reducible first | exact HI134.out | apply IsP.alloc | apply IsP.drewN | apply IsP.drew | apply IsP.set_0 | refine IsP.far ?_ NB134_131.out _) | exact HI134.out)) (by (with_reducible repeat (first | apply Kd.R_alloc | apply Kd.R_drewN | apply Kd.R_drew)); exact HO156.out) (by decide)) hk) (Kd.R_base ho0)) (fun _ h_ => h_.1)); have n2_ := Aside0.mk (Kd.R_mono (Kd.R_told (Kd.R_oldK (IsP.apart (show IsP w _ g134 hR t164 from by repeat (first | (with_reducible first | exact HI134.out | apply IsP.alloc | apply IsP.drewN | apply IsP.drew | apply IsP.set_0 | refine IsP.far ?_ NB134_131.out _) | exact HI134.out)) (by (with_reducible repeat (first | apply Kd.R_alloc | apply Kd.R_drewN | apply Kd.R_drew)); exact HO160.out) (by decide)) hk) (Kd.R_base ho0)) (fun _ h_ => h_.1)); have n3_ := Aside0.mk (Kd.R_lower (Kd.R_new' (Kd.R_new' ho0 (Kd.R_lt (by (with_reducible repeat (first | apply Kd.R_alloc | apply Kd.R_drewN | apply Kd.R_drew)); exact HO156.out))) (Kd.R_lt (by (with_reducible repeat (first | apply Kd.R_alloc | apply Kd.R_drewN | apply Kd.R_drew)); exact HO160.out))) (below_size (by repeat (first | (with_reducible first | exact HB.out | apply below_alloc | apply pw_below_drewN | apply below_drew1 | refine below_set ?_ (IsP.ge HI134.out) | refine below_set ?_ GE131.out) | exact HB.out)))); have n4_ := Aside0.mk (hb); have n5_ := Aside0.mk (hi); clear BK131; clear HO156; clear HO160; clear HB; clear HI134; have BK131 := n0_; have HO156 := n1_; have HO160 := n2_; have HO167 := n3_; have HB := n4_; have HI134 := n5_; clear n0_ n1_ n2_ n3_ n4_ n5_; (try clear hb); (try clear hb2); (try clear hk); (try clear hi); (try clear ho0); obtain ⟨Ao114, co114, eo114⟩ := Kd.R_slice HO167.out; subst eo114))
                                  go_ret
                                  exact ⟨by first | rfl | (simp [errW_none, errW_some] <;> rfl) | (simp [*, errW_none, errW_some] <;> rfl), by repeat (first | (with_reducible first | exact HB.out | apply below_alloc | apply pw_below_drewN | apply below_drew1 | refine below_set ?_ (IsP.ge HI134.out) | refine below_set ?_ GE131.out) | exact HB.out)⟩
                              · replace c93 := Bool.eq_false_iff.mpr c93
                                subst c93
                                have H1 : (some false) = some r := by rw [if_neg (show ¬ (false = true) by decide)] at H; exact H
                                clear H
                                have H := H1
                                clear H1
                                obtain rfl := Option.some.inj H
                                have hnb115 := NB131_134.out
                                have hnc115 := NB134_131.out
                                have hcz116_0 : wr.cell? ⟨gb131, 0, none⟩ = some (.int .i64 a0_0) := (blk_cell BK131.out 0).trans rfl
                                have hcz116_1 : wr.cell? ⟨gb131, 1, none⟩ = some (.int .i64 a0_1) := (blk_cell BK131.out 1).trans rfl
                                have hcz116_2 : wr.cell? ⟨gb131, 2, none⟩ = some (.int .i64 a0_2) := (blk_cell BK131.out 2).trans rfl
                                have hfz116_0 := blk_frozen BK131.out 0
                                have hfz116_1 := blk_frozen BK131.out 1
                                have hfz116_2 := blk_frozen BK131.out 2
                                go_wp2_with (first | ((with_reducible refine gate_callee (f := 16) rfl ?_); refine goesL_ (some 173) rfl rfl Try.func16 (by kernel_rfl) rfl #[.pointer (some ⟨g134, 0, none⟩), .int .i64 x16_4] rfl (by (try simp only [List.map_toArray, List.map_cons, List.map_nil]); first | done | rfl | (simp only [List.length_drop, List.length_take]; rfl)) ?_; (with_reducible refine (pm_Rows.calls k4 g134 hR x135000_4 x16_4 t154 t157 w _ ?side1 ?side2 A90.out).mono ?_); (case side1 => repeat (first | (with_reducible first | exact HI134.out | apply IsP.alloc | apply IsP.drewN | apply IsP.drew | apply IsP.set_0 | refine IsP.far ?_ NB134_131.out _) | exact HI134.out)); (case side2 => repeat (first | (with_reducible first | exact HB.out | apply below_alloc | apply pw_below_drewN | apply below_drew1 | refine below_set ?_ (IsP.ge HI134.out) | refine below_set ?_ GE131.out) | exact HB.out)); rintro e w117 ⟨v155, rfl, ho0, hi, hb, hk⟩; refine ⟨_, rfl, ?_⟩; have n0_ := Aside0.mk (KeepBut.blk hk (g' := gb131) (o := .cells #[.int .i64 a0_0, .int .i64 a0_1, .int .i64 a0_2] 22 (0, 0)) (by (with_reducible repeat (first | refine blk_drewN ?_ _ | refine blk_drew ?_ | refine blk_alloc ?_ _)); exact BK131.out) NB131_134.out (by simp)); have n1_ := Aside0.mk (Kd.R_lower ho0 (below_size (by repeat (first | (with_reducible first | exact HB.out | apply below_alloc | apply pw_below_drewN | apply below_drew1 | refine below_set ?_ (IsP.ge HI134.out) | refine below_set ?_ GE131.out) | exact HB.out)))); have n2_ := Aside0.mk (hb); have n3_ := Aside0.mk (hi); clear BK131; clear HB; clear HI134; have BK131 := n0_; have HO156 := n1_; have HB := n2_; have HI134 := n3_; clear n0_ n1_ n2_ n3_; (try clear hb); (try clear hb2); (try clear hk); (try clear hi); (try clear ho0)) | ((with_reducible refine gate_callee (f := 17) rfl ?_); refine goesL_ (some 176) rfl rfl Try.func17 (by kernel_rfl) rfl #[.pointer (some ⟨hR, 0, none⟩), .int .i64 x16_4] rfl (by (try simp only [List.map_toArray, List.map_cons, List.map_nil]); first | done | rfl | (simp only [List.length_drop, List.length_take]; rfl)) ?_; (with_reducible refine (pr_Rows.calls g134 hR t157 x16_4 t158 t161 w _ ?side1 ?side2 A91.out).mono ?_); (case side1 => repeat (first | (with_reducible first | exact HI134.out | apply IsP.alloc | apply IsP.drewN | apply IsP.drew | apply IsP.set_0 | refine IsP.far ?_ NB134_131.out _) | exact HI134.out)); (case side2 => repeat (first | (with_reducible first | exact HB.out | apply below_alloc | apply pw_below_drewN | apply below_drew1 | refine below_set ?_ (IsP.ge HI134.out) | refine below_set ?_ GE131.out) | exact HB.out)); rintro e w118 ⟨v159, rfl, ho0, hi, hb, hk⟩; refine ⟨_, rfl, ?_⟩; have n0_ := Aside0.mk (KeepBut.blk hk (g' := gb131) (o := .cells #[.int .i64 a0_0, .int .i64 a0_1, .int .i64 a0_2] 22 (0, 0)) (by (with_reducible repeat (first | refine blk_drewN ?_ _ | refine blk_drew ?_ | refine blk_alloc ?_ _)); exact BK131.out) NB131_134.out (by simp)); have n1_ := Aside0.mk (Kd.R_mono (Kd.R_told (Kd.R_oldK (IsP.apart (show IsP w _ g134 hR t157 from by repeat (first | (with_reducible first | exact HI134.out | apply IsP.alloc | apply IsP.drewN | apply IsP.drew | apply IsP.set_0 | refine IsP.far ?_ NB134_131.out _) | exact HI134.out)) (by (with_reducible repeat (first | apply Kd.R_alloc | apply Kd.R_drewN | apply Kd.R_drew)); exact HO156.out) (by decide)) hk) (Kd.R_base ho0)) (fun _ h_ => h_.1)); have n2_ := Aside0.mk (Kd.R_lower (Kd.R_new' ho0 (Kd.R_lt (by (with_reducible repeat (first | apply Kd.R_alloc | apply Kd.R_drewN | apply Kd.R_drew)); exact HO156.out))) (below_size (by repeat (first | (with_reducible first | exact HB.out | apply below_alloc | apply pw_below_drewN | apply below_drew1 | refine below_set ?_ (IsP.ge HI134.out) | refine below_set ?_ GE131.out) | exact HB.out)))); have n3_ := Aside0.mk (hb); have n4_ := Aside0.mk (hi); clear BK131; clear HO156; clear HB; clear HI134; have BK131 := n0_; have HO156 := n1_; have HO160 := n2_; have HB := n3_; have HI134 := n4_; clear n0_ n1_ n2_ n3_ n4_; (try clear hb); (try clear hb2); (try clear hk); (try clear hi); (try clear ho0); obtain ⟨Ao119, co119, eo119⟩ := Kd.R_slice HO156.out; subst eo119; obtain ⟨Ao120, co120, eo120⟩ := Kd.R_slice HO160.out; subst eo120) | ((with_reducible refine gate_callee (f := 15) rfl ?_); refine goesL_ (some 177) rfl rfl Try.func15 (by kernel_rfl) rfl #[.slice Ao119 t154.length co119, .slice Ao120 t158.length co120] rfl (by (try simp only [List.map_toArray, List.map_cons, List.map_nil]); first | done | rfl | (simp only [List.length_drop, List.length_take]; rfl)) ?_; (with_reducible refine (incunableref01_Ints.calls k4 _ _ t154 _ _ t158 false _ ?side1 ?side2 ?side3 ?side4 A92.out).mono ?_); (case side1 => repeat (first | exact (Kd.R_reads' HO156.out).2.2 | (with_reducible refine Kd.C_alloc ?_ _) | (with_reducible refine Kd.C_drewN ?_ _) | (with_reducible refine Kd.C_drew ?_))); (case side2 => exact (Kd.R_reads' HO156.out).2.1); (case side3 => repeat (first | exact (Kd.R_reads' HO160.out).2.2 | (with_reducible refine Kd.C_alloc ?_ _) | (with_reducible refine Kd.C_drewN ?_ _) | (with_reducible refine Kd.C_drew ?_))); (case side4 => exact (Kd.R_reads' HO160.out).2.1); rintro e w' ⟨rfl, ⟨nd, rfl⟩⟩; refine ⟨_, rfl, ?_⟩))
                                go_ret
                                exact ⟨by first | rfl | (simp [errW_none, errW_some] <;> rfl) | (simp [*, errW_none, errW_some] <;> rfl), by repeat (first | (with_reducible first | exact HB.out | apply below_alloc | apply pw_below_drewN | apply below_drew1 | refine below_set ?_ (IsP.ge HI134.out) | refine below_set ?_ GE131.out) | exact HB.out)⟩
                            · rw [if_neg c89] at H
                              have c89b0 : decide (x16_4 ≤ a0_1) = false := decide_eq_false c89
                              clear c89
                              replace H := Option.bind_eq_some_iff.mp H
                              obtain ⟨⟨t152, t153⟩, A1210, H⟩ := H
                              replace H : (some (t152 == x11_3)) = some r := H
                              have A121 := Aside0.mk A1210
                              clear A1210
                              obtain rfl := Option.some.inj H
                              have hnb122 := NB131_134.out
                              have hnc122 := NB134_131.out
                              have hcz123_0 : wr.cell? ⟨gb131, 0, none⟩ = some (.int .i64 a0_0) := (blk_cell BK131.out 0).trans rfl
                              have hcz123_1 : wr.cell? ⟨gb131, 1, none⟩ = some (.int .i64 a0_1) := (blk_cell BK131.out 1).trans rfl
                              have hcz123_2 : wr.cell? ⟨gb131, 2, none⟩ = some (.int .i64 a0_2) := (blk_cell BK131.out 2).trans rfl
                              have hfz123_0 := blk_frozen BK131.out 0
                              have hfz123_1 := blk_frozen BK131.out 1
                              have hfz123_2 := blk_frozen BK131.out 2
                              go_wp2_with (first | ((with_reducible refine gate_callee (f := 19) rfl ?_); refine goesL_ (some 190) rfl rfl Try.func19 (by kernel_rfl) rfl #[.pointer (some ⟨g134, 0, none⟩)] rfl (by (try simp only [List.map_toArray, List.map_cons, List.map_nil]); first | done | rfl | (simp only [List.length_drop, List.length_take]; rfl)) ?_; (with_reducible refine (pm_Len.calls g134 hR x135000_4 t152 t153 w _ ?side1 ?side2 A121.out).mono ?_); (case side1 => repeat (first | (with_reducible first | exact HI134.out | apply IsP.alloc | apply IsP.drewN | apply IsP.drew | apply IsP.set_0 | refine IsP.far ?_ NB134_131.out _) | exact HI134.out)); (case side2 => repeat (first | (with_reducible first | exact HB.out | apply below_alloc | apply pw_below_drewN | apply below_drew1 | refine below_set ?_ (IsP.ge HI134.out) | refine below_set ?_ GE131.out) | exact HB.out)); rintro e w124 ⟨rfl, hi, hb, hk⟩; refine ⟨_, rfl, ?_⟩; have n0_ := Aside0.mk (KeepBut.blk hk (g' := gb131) (o := .cells #[.int .i64 a0_0, .int .i64 a0_1, .int .i64 a0_2] 22 (0, 0)) (by (with_reducible repeat (first | refine blk_drewN ?_ _ | refine blk_drew ?_ | refine blk_alloc ?_ _)); exact BK131.out) NB131_134.out (by simp)); have n1_ := Aside0.mk (hb); have n2_ := Aside0.mk (hi); clear BK131; clear HB; clear HI134; have BK131 := n0_; have HB := n1_; have HI134 := n2_; clear n0_ n1_ n2_; (try clear hb); (try clear hb2); (try clear hk); (try clear hi)))
                              go_ret
                              exact ⟨by first | rfl | (simp [errW_none, errW_some] <;> rfl) | (simp [*, errW_none, errW_some] <;> rfl), by repeat (first | (with_reducible first | exact HB.out | apply below_alloc | apply pw_below_drewN | apply below_drew1 | refine below_set ?_ (IsP.ge HI134.out) | refine below_set ?_ GE131.out) | exact HB.out)⟩
          · exact absurd rfl c21

  · replace c4 := Bool.eq_false_iff.mpr c4
    subst c4
    have H1 : (some false) = some r := by rw [if_neg (show ¬ (false = true) by decide)] at H; exact H
    clear H
    have H := H1
    clear H1
    obtain rfl := Option.some.inj H
    go_enter Try.func3, Try.ntmps3
    go_wp2_with (first | ((with_reducible refine gate_dst (N := 2) rfl ?_); (try (refine gate_guard (by rfl) ?_; dsimp only)); refine box_event ?hg (N := 2) ?hd (cs := #[.int .i64 a0_0, .int .i64 a0_1, .int .i64 a0_2]) (t := 22) ?hr ?_; (case hd => rfl); (case hg => rfl); (case hr => first | (go_simp; done) | (go_simp; rfl)); intro gb131 hg w128 hbox hb; have n0_ := Aside0.mk (below_step (by repeat (first | (with_reducible first | exact HB.out | apply below_alloc | apply pw_below_drewN | apply below_drew1) | exact HB.out)) hb); have n1_ := Aside0.mk (hbox); have n2_ := Aside0.mk ((by rw [hg]; exact (below_size (by repeat (first | (with_reducible first | exact HB.out | apply below_alloc | apply pw_below_drewN | apply below_drew1) | exact HB.out))) : w.heap.size ≤ gb131)); have n3_ := Aside0.mk ((by rw [hg]; exact (below_size (by repeat (first | (with_reducible first | exact HB.out | apply below_alloc | apply pw_below_drewN | apply below_drew1) | exact HB.out))) : w.heap.size ≤ gb131)); clear HB; have HB := n0_; have BK131 := n1_; have GW131 := n2_; have GE131 := n3_; clear n0_ n1_ n2_ n3_; clear hb hbox hg) | ((with_reducible refine gate_callee (f := 6) rfl ?_); refine goesL_ (some 17) rfl rfl Try.func6 (by kernel_rfl) rfl #[] rfl (by (try simp only [List.map_toArray, List.map_cons, List.map_nil]); first | done | rfl | (simp only [List.length_drop, List.length_take]; rfl)) ?_; (with_reducible refine (incunablelaw27_awake.calls k  false _ A3.out).mono ?_); rintro e w129 ⟨rfl, hb⟩; refine ⟨_, rfl, ?_⟩; have n0_ := Aside0.mk (blk_below (g := gb131) (o := .cells #[.int .i64 a0_0, .int .i64 a0_1, .int .i64 a0_2] 22 (0, 0)) (by (with_reducible repeat (first | refine blk_drewN ?_ _ | refine blk_drew ?_ | refine blk_alloc ?_ _)); exact BK131.out) hb); have n1_ := Aside0.mk (below_step (by repeat (first | (with_reducible first | exact HB.out | apply below_alloc | apply pw_below_drewN | apply below_drew1 | refine below_set ?_ GE131.out) | exact HB.out)) hb); clear BK131; clear HB; have BK131 := n0_; have HB := n1_; clear n0_ n1_; (try clear hb); (try clear hb2); (try clear hk); (try clear hi)))
    go_ret
    exact ⟨by first | rfl | (simp [errW_none, errW_some] <;> rfl) | (simp [*, errW_none, errW_some] <;> rfl), by repeat (first | (with_reducible first | exact HB.out | apply below_alloc | apply pw_below_drewN | apply below_drew1 | refine below_set ?_ GE131.out) | exact HB.out)⟩


end Go.Proofs.Ytjcmpfiklmpoaaa.M
