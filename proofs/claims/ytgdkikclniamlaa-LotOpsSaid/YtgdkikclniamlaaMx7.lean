-- Written by a program of this session (wip/patch_print.py over the kit's print); Lean checks it.
import Derived.Test.YtgdkikclniamlaaMx0
import Derived.Test.YtgdkikclniamlaaMx1
import Derived.Test.YtgdkikclniamlaaMx4
import Derived.Test.YtgdkikclniamlaaMx5
import Derived.Test.YtgdkikclniamlaaMx6
import Derived.Test.YtgdkikclniamlaaNl
namespace Go.Proofs.Ytgdkikclniamlaa.M
open Go.RowKit Go.Proofs.YtgdkikclniamlaaW.PrintWords Go.Proofs.YtgdkikclniamlaaW.PrintLast Go.Proofs.YtgdkikclniamlaaW.PrintMore
attribute [local go_sem] max2_int min2_int max_two min_two max_three min_three max_four min_four   -- for this text's walks alone
set_option linter.unusedVariables false
set_option linter.unusedSimpArgs false

/-! ### incunablelaw42_LotOps: function 5 -/
mutual
def incunablelaw42_LotOps.j0 : Nat → Int → Bool → Int → Int → Int → Int → Int → Int → Int → Option (Bool)
  | 0, _, _, _, _, _, _, _, _, _ => none
  | k + 1, x0, x46, x186000, x186001, x186002, x186003, x186004, x186005, x186006 => if x46 = true then (some true) else ((lot_Ops.f k x0 x186000 x186001 x186002 x186003 x186004 x186005 x186006).bind fun bt187 => ((lot_Ops.f k x0 x186000 x186001 x186002 x186003 x186004 x186005 x186006).bind fun bt191 => ((incunableref42_May.f k x186000 x186001 x186002 x186003 x186004 x186005 x186006).bind fun t195 => (if t195 = true then (if bt187.2 = 0 then (if bt191.2 = 0 then (if (bt187.1.length : Int) = x186000 then (incunablelaw42_LotOps.j1 k bt187.1 bt191.1 ((bt191.1.length : Int) != x186000) x186000 x186001 x186002 x186003 x186004 x186005 x186006 x0) else (incunablelaw42_LotOps.j1 k bt187.1 bt191.1 true x186000 x186001 x186002 x186003 x186004 x186005 x186006 x0)) else (incunablelaw42_LotOps.j1 k bt187.1 bt191.1 true x186000 x186001 x186002 x186003 x186004 x186005 x186006 x0)) else (incunablelaw42_LotOps.j1 k bt187.1 bt191.1 true x186000 x186001 x186002 x186003 x186004 x186005 x186006 x0)) else (if bt187.2 = 2 then (if bt191.2 = 2 then (some ((wrap64 ((bt187.1.length : Int) + (bt191.1.length : Int))) == 0)) else (some false)) else (some false))))))
def incunablelaw42_LotOps.j1 : Nat → List (S43) → List (S43) → Bool → Int → Int → Int → Int → Int → Int → Int → Int → Option (Bool)
  | 0, _, _, _, _, _, _, _, _, _, _, _ => none
  | k + 1, x8, x10, x98, x186000, x186001, x186002, x186003, x186004, x186005, x186006, x197000 => if x98 = true then (some false) else (incunablelaw42_LotOps.l0 k x10 x8 (x8.length : Int) 0 x186000 x186001 x186002 x186003 x186004 x186005 x186006 x197000)
def incunablelaw42_LotOps.l0 : Nat → List (S43) → List (S43) → Int → Int → Int → Int → Int → Int → Int → Int → Int → Int → Option (Bool)
  | 0, _, _, _, _, _, _, _, _, _, _, _, _ => none
  | k + 1, x10, x99, x100, x101, x186000, x186001, x186002, x186003, x186004, x186005, x186006, x197000 => if x101 < x100 then (if 0 ≤ x101 then (if x101 < (x99.length : Int) then (if x101 < (x10.length : Int) then ((incunableref34_Same.f k ((rd_T43 x99 x101).f0) ((rd_T43 x99 x101).f1) ((rd_T43 x99 x101).f2) ((rd_T43 x10 x101).f0) ((rd_T43 x10 x101).f1) ((rd_T43 x10 x101).f2)).bind fun t200 => (if t200 = true then ((incunableref42_Lot_Op.f k x197000 x186000 x186001 x186002 x186003 x186004 x186005 x186006).bind fun bt201 => ((incunableref34_Same.f k ((rd_T43 x99 x101).f0) ((rd_T43 x99 x101).f1) ((rd_T43 x99 x101).f2) bt201.1 bt201.2.1 bt201.2.2.1).bind fun t207 => (if t207 = true then ((op_Right.f k ((rd_T43 x99 x101).f0) ((rd_T43 x99 x101).f1) ((rd_T43 x99 x101).f2)).bind fun t208 => (if t208 = true then (if ((rd_T43 x99 x101).f1) ≥ x186001 then (none) else (incunablelaw42_LotOps.l0 k x10 x99 x100 (wrap64 (x101 + 1)) x186000 x186001 x186002 x186003 x186004 x186005 x186006 bt201.2.2.2)) else (none))) else (none)))) else (none))) else (none)) else (none)) else (none)) else (some true)
end
def incunablelaw42_LotOps.f (k : Nat) (a0 : Int) (a1_0 : Int) (a1_1 : Int) (a1_2 : Int) (a1_3 : Int) (a1_4 : Int) (a1_5 : Int) (a1_6 : Int) : Option (Bool) := (incunablelaw42_awake.f).bind fun t186 => (if t186 = true then (if 1 = 1 then (if a1_0 > 60 then (incunablelaw42_LotOps.j0 k a0 true a1_0 a1_1 a1_2 a1_3 a1_4 a1_5 a1_6) else (incunablelaw42_LotOps.j0 k a0 (decide (a1_2 > 60)) a1_0 a1_1 a1_2 a1_3 a1_4 a1_5 a1_6)) else (some false)) else (some false))
def incunablelaw42_LotOps.T19 : Bool × List (List Nat × List Nat) := (true, [([], []), ([], []), ([], []), ([1, 2], [1, 2]), ([3], [3]), ([0, 4], [0, 4]), ([5], [5]), ([6, 5], [6]), ([7], [7]), ([7], [7]), ([7], [7]), ([9, 10, 7, 7], [7, 9, 10]), ([8, 11, 11, 7], [7, 8, 11]), ([12, 7], [7, 12]), ([7, 13], [7, 13]), ([14, 12], [14]), ([15], [15]), ([16, 15, 15], [15, 16]), ([17, 15], [15, 17]), ([15, 18], [15, 18]), ([19, 17], [19]), ([20], [20]), ([21, 20], [20, 21]), ([20], [20]), ([23, 20], [20, 23]), ([22, 24, 20], [20, 22, 24]), ([20, 25], [20, 25])])
def incunablelaw42_LotOps.B19 : List Nat := [0, 0, 0, 6, 14, 31, 63, 127, 255, 255, 255, 1791, 4095, 8191, 16383, 32767, 65535, 131071, 262143, 524287, 1048575, 2097151, 4194303, 2097151, 10485759, 33554431, 67108863]
theorem incunablelaw42_LotOps.tab19 : rtab .any (opsOf Try.f5 19) = incunablelaw42_LotOps.T19 := by kernel_rfl
theorem incunablelaw42_LotOps.bits19 : waitsOk incunablelaw42_LotOps.T19.2 incunablelaw42_LotOps.B19 = true := by kernel_rfl
set_option maxHeartbeats 8000000 in
set_option maxRecDepth 100000 in
theorem incunablelaw42_LotOps.calls (k : Nat) (a0 : Int) (a1_0 : Int) (a1_1 : Int) (a1_2 : Int) (a1_3 : Int) (a1_4 : Int) (a1_5 : Int) (a1_6 : Int) (r : Bool) (w : World) (h : incunablelaw42_LotOps.f k a0 a1_0 a1_1 a1_2 a1_3 a1_4 a1_5 a1_6 = some r) :
    Calls Try.prog 5 #[.int .u64 a0, .agg #[.int .i64 a1_0, .int .i64 a1_1, .int .i64 a1_2, .int .i64 a1_3, .int .i64 a1_4, .int .i64 a1_5, .int .i64 a1_6]] w fun e w' => e = .returned (.bool r) ∧ Below w.heap.size w w' := by
  have hu35 := Try.underlying35
  have hu30 := Try.underlying30
  have hu43 := Try.underlying43
  have HB := Aside0.mk (Below.refl w.heap.size w)
  have H : ((incunablelaw42_awake.f).bind fun t186 => (if t186 = true then (if 1 = 1 then (if a1_0 > 60 then (incunablelaw42_LotOps.j0 k a0 true a1_0 a1_1 a1_2 a1_3 a1_4 a1_5 a1_6) else (incunablelaw42_LotOps.j0 k a0 (decide (a1_2 > 60)) a1_0 a1_1 a1_2 a1_3 a1_4 a1_5 a1_6)) else (some false)) else (some false))) = some r := h
  clear h
  replace H := Option.bind_eq_some_iff.mp H
  obtain ⟨t186, A30, H⟩ := H
  replace H : (if t186 = true then (if 1 = 1 then (if a1_0 > 60 then (incunablelaw42_LotOps.j0 k a0 true a1_0 a1_1 a1_2 a1_3 a1_4 a1_5 a1_6) else (incunablelaw42_LotOps.j0 k a0 (decide (a1_2 > 60)) a1_0 a1_1 a1_2 a1_3 a1_4 a1_5 a1_6)) else (some false)) else (some false)) = some r := H
  have A3 := Aside0.mk A30
  clear A30
  by_cases c4 : t186 = true
  · subst c4
    have H1 : (if 1 = 1 then (if a1_0 > 60 then (incunablelaw42_LotOps.j0 k a0 true a1_0 a1_1 a1_2 a1_3 a1_4 a1_5 a1_6) else (incunablelaw42_LotOps.j0 k a0 (decide (a1_2 > 60)) a1_0 a1_1 a1_2 a1_3 a1_4 a1_5 a1_6)) else (some false)) = some r := by rw [if_pos rfl] at H; exact H
    clear H
    have H := H1
    clear H1
    by_cases c5 : 1 = 1
    · rw [if_pos c5] at H
      have c5b0 : (1 == 1) = true := beq_iff_eq.mpr c5
      have c5b1 : (1 != 1) = false := bne_eq_false_iff_eq.mpr c5
      clear c5
      have HC6 := Aside0.mk H
      clear H
      go_enter Try.func5, Try.ntmps5
      go_upto_region 7 with (first | ((with_reducible refine gate_dst (N := 3) rfl ?_); (try (refine gate_guard (by rfl) ?_; dsimp only)); refine box_event ?hg (N := 3) ?hd (cs := #[.int .i64 a1_0, .int .i64 a1_1, .int .i64 a1_2, .int .i64 a1_3, .int .i64 a1_4, .int .i64 a1_5, .int .i64 a1_6]) (t := 35) ?hr ?_; (case hd => rfl); (case hg => rfl); (case hr => first | (go_simp; done) | (go_simp; rfl)); intro gb185 hg w7 hbox hb; have n0_ := Aside0.mk (below_step (by repeat (first | (with_reducible first | exact HB.out | apply below_alloc | apply pw_below_drewN | apply below_drew1) | exact HB.out)) hb); have n1_ := Aside0.mk (hbox); have n2_ := Aside0.mk ((by rw [hg]; exact (below_size (by repeat (first | (with_reducible first | exact HB.out | apply below_alloc | apply pw_below_drewN | apply below_drew1) | exact HB.out))) : w.heap.size ≤ gb185)); have n3_ := Aside0.mk ((by rw [hg]; exact (below_size (by repeat (first | (with_reducible first | exact HB.out | apply below_alloc | apply pw_below_drewN | apply below_drew1) | exact HB.out))) : w.heap.size ≤ gb185)); clear HB; have HB := n0_; have BK185 := n1_; have GW185 := n2_; have GE185 := n3_; clear n0_ n1_ n2_ n3_; clear hb hbox hg) | ((with_reducible refine gate_callee (f := 6) rfl ?_); refine goesL_ (some 15) rfl rfl Try.func6 (by kernel_rfl) rfl #[] rfl (by (try simp only [List.map_toArray, List.map_cons, List.map_nil]); first | done | rfl | (simp only [List.length_drop, List.length_take]; rfl)) ?_; (with_reducible refine (incunablelaw42_awake.calls  true _ A3.out).mono ?_); rintro e w8 ⟨rfl, hb⟩; refine ⟨_, rfl, ?_⟩; have n0_ := Aside0.mk (blk_below (g := gb185) (o := .cells #[.int .i64 a1_0, .int .i64 a1_1, .int .i64 a1_2, .int .i64 a1_3, .int .i64 a1_4, .int .i64 a1_5, .int .i64 a1_6] 35 (0, 0)) (by (with_reducible repeat (first | refine blk_drewN ?_ _ | refine blk_drew ?_ | refine blk_alloc ?_ _)); exact BK185.out) hb); have n1_ := Aside0.mk (below_step (by repeat (first | (with_reducible first | exact HB.out | apply below_alloc | apply pw_below_drewN | apply below_drew1 | refine below_set ?_ GE185.out) | exact HB.out)) hb); clear BK185; clear HB; have BK185 := n0_; have HB := n1_; clear n0_ n1_; (try clear hb); (try clear hb2); (try clear hk); (try clear hi); have hcz9_0 : w8.cell? ⟨gb185, 0, none⟩ = some (.int .i64 a1_0) := (blk_cell BK185.out 0).trans rfl; have hcz9_1 : w8.cell? ⟨gb185, 1, none⟩ = some (.int .i64 a1_1) := (blk_cell BK185.out 1).trans rfl; have hcz9_2 : w8.cell? ⟨gb185, 2, none⟩ = some (.int .i64 a1_2) := (blk_cell BK185.out 2).trans rfl; have hcz9_3 : w8.cell? ⟨gb185, 3, none⟩ = some (.int .i64 a1_3) := (blk_cell BK185.out 3).trans rfl; have hcz9_4 : w8.cell? ⟨gb185, 4, none⟩ = some (.int .i64 a1_4) := (blk_cell BK185.out 4).trans rfl; have hcz9_5 : w8.cell? ⟨gb185, 5, none⟩ = some (.int .i64 a1_5) := (blk_cell BK185.out 5).trans rfl; have hcz9_6 : w8.cell? ⟨gb185, 6, none⟩ = some (.int .i64 a1_6) := (blk_cell BK185.out 6).trans rfl; have hfz9_0 := blk_frozen BK185.out 0; have hfz9_1 := blk_frozen BK185.out 1; have hfz9_2 := blk_frozen BK185.out 2; have hfz9_3 := blk_frozen BK185.out 3; have hfz9_4 := blk_frozen BK185.out 4; have hfz9_5 := blk_frozen BK185.out 5; have hfz9_6 := blk_frozen BK185.out 6) | (go_at_call 13; (with_reducible refine (lot_Op_nil a1_0 a1_1 a1_2 a1_3 a1_4 a1_5 a1_6 _).mono ?_); rintro e w9 ⟨rfl, hb⟩; have n0_ := Aside0.mk (blk_below (g := gb185) (o := .cells #[.int .i64 a1_0, .int .i64 a1_1, .int .i64 a1_2, .int .i64 a1_3, .int .i64 a1_4, .int .i64 a1_5, .int .i64 a1_6] 35 (0, 0)) (by (with_reducible repeat (first | refine blk_drewN ?_ _ | refine blk_drew ?_ | refine blk_alloc ?_ _)); exact BK185.out) hb); have n1_ := Aside0.mk (below_step (by repeat (first | (with_reducible first | exact HB.out | apply below_alloc | apply pw_below_drewN | apply below_drew1 | refine below_set ?_ GE185.out) | exact HB.out)) hb); clear BK185 HB; have BK185 := n0_; have HB := n1_; clear n0_ n1_ hb; (try clear hcz9_0 hfz9_0 hcz9_1 hfz9_1 hcz9_2 hfz9_2 hcz9_3 hfz9_3 hcz9_4 hfz9_4 hcz9_5 hfz9_5 hcz9_6 hfz9_6); have hcza_0 : w9.cell? ⟨gb185, 0, none⟩ = some (.int .i64 a1_0) := (blk_cell BK185.out 0).trans rfl; have hcza_1 : w9.cell? ⟨gb185, 1, none⟩ = some (.int .i64 a1_1) := (blk_cell BK185.out 1).trans rfl; have hcza_2 : w9.cell? ⟨gb185, 2, none⟩ = some (.int .i64 a1_2) := (blk_cell BK185.out 2).trans rfl; have hcza_3 : w9.cell? ⟨gb185, 3, none⟩ = some (.int .i64 a1_3) := (blk_cell BK185.out 3).trans rfl; have hcza_4 : w9.cell? ⟨gb185, 4, none⟩ = some (.int .i64 a1_4) := (blk_cell BK185.out 4).trans rfl; have hcza_5 : w9.cell? ⟨gb185, 5, none⟩ = some (.int .i64 a1_5) := (blk_cell BK185.out 5).trans rfl; have hcza_6 : w9.cell? ⟨gb185, 6, none⟩ = some (.int .i64 a1_6) := (blk_cell BK185.out 6).trans rfl; have hfza_0 := blk_frozen BK185.out 0; have hfza_1 := blk_frozen BK185.out 1; have hfza_2 := blk_frozen BK185.out 2; have hfza_3 := blk_frozen BK185.out 3; have hfza_4 := blk_frozen BK185.out 4; have hfza_5 := blk_frozen BK185.out 5; have hfza_6 := blk_frozen BK185.out 6) | ((with_reducible refine gate_dst (N := 6) rfl ?_); refine box_event ?hg (N := 6) ?hd (cs := #[.int .i64 0, .int .i64 0, .slice none 0 0]) (t := 43) ?hr ?_; (case hd => rfl); (case hg => rfl); (case hr => first | (go_simp; done) | (go_simp; rfl)); intro gb6 hg w10 hbox hb; have n0_ := Aside0.mk (blk_below (g := gb185) (o := .cells #[.int .i64 a1_0, .int .i64 a1_1, .int .i64 a1_2, .int .i64 a1_3, .int .i64 a1_4, .int .i64 a1_5, .int .i64 a1_6] 35 (0, 0)) (by (with_reducible repeat (first | refine blk_drewN ?_ _ | refine blk_drew ?_ | refine blk_alloc ?_ _)); exact BK185.out) hb); have n1_ := Aside0.mk (below_step (by repeat (first | (with_reducible first | exact HB.out | apply below_alloc | apply pw_below_drewN | apply below_drew1 | refine below_set ?_ GE185.out) | exact HB.out)) hb); have NB185_6 := Aside0.mk ((by rw [hg]; exact Nat.ne_of_lt (blk_lt (g := gb185) (o := .cells #[.int .i64 a1_0, .int .i64 a1_1, .int .i64 a1_2, .int .i64 a1_3, .int .i64 a1_4, .int .i64 a1_5, .int .i64 a1_6] 35 (0, 0)) (by (with_reducible repeat (first | refine blk_drewN ?_ _ | refine blk_drew ?_ | refine blk_alloc ?_ _)); exact BK185.out)) : gb185 ≠ gb6)); have GE6 := Aside0.mk ((by rw [hg]; exact (below_size (by repeat (first | (with_reducible first | exact HB.out | apply below_alloc | apply pw_below_drewN | apply below_drew1 | refine below_set ?_ GE185.out) | exact HB.out))) : w.heap.size ≤ gb6)); clear BK185 HB; have BK185 := n0_; have HB := n1_; have BK6 := Aside0.mk hbox; clear n0_ n1_ hb hbox hg; (try clear hcza_0 hfza_0 hcza_1 hfza_1 hcza_2 hfza_2 hcza_3 hfza_3 hcza_4 hfza_4 hcza_5 hfza_5 hcza_6 hfza_6); have hcb_0 : w10.cell? ⟨gb6, 0, none⟩ = some (.int .i64 0) := (blk_cell BK6.out 0).trans rfl; have hcb_1 : w10.cell? ⟨gb6, 1, none⟩ = some (.int .i64 0) := (blk_cell BK6.out 1).trans rfl; have hcb_2 : w10.cell? ⟨gb6, 2, none⟩ = some (.slice none 0 0) := (blk_cell BK6.out 2).trans rfl; have hfb_0 := blk_frozen BK6.out 0; have hfb_1 := blk_frozen BK6.out 1; have hfb_2 := blk_frozen BK6.out 2) | ((with_reducible refine gate_store (t := 43) (p := 6) rfl ?_); refine store_event (t := 43) (p := 6) (v := ?vo_) (w1 := ((w10.setCell ⟨gb6, 0, none⟩ (.int .i64 0)).setCell ⟨gb6, 1, none⟩ (.int .i64 0)).setCell ⟨gb6, 2, none⟩ (.slice none 0 0)) ?hg ?ho ?hn ?hr ?_; (case ho => rfl); (case hg => rfl); (case hn => rfl); (case hr => first | (go_simp; done) | (go_simp; rfl)); intro w11 hw; have n0_ := Aside0.mk ((by rw [hw]; exact blk_far (blk_far (blk_far BK185.out NB185_6.out _) NB185_6.out _) NB185_6.out _) : w11.heap[gb185]? = some (.cells #[.int .i64 a1_0, .int .i64 a1_1, .int .i64 a1_2, .int .i64 a1_3, .int .i64 a1_4, .int .i64 a1_5, .int .i64 a1_6] 35 (0, 0))); have n1_ := Aside0.mk ((by rw [hw]; exact below_set (below_set (below_set HB.out GE6.out) GE6.out) GE6.out) : Below w.heap.size w w11); clear BK185 HB; have BK185 := n0_; have HB := n1_; clear n0_ n1_ hw hcb_0 hcb_1 hcb_2 hfb_0 hfb_1 hfb_2 BK6 NB185_6 GE6) | (go_at_call 15; (with_reducible refine (lot_Next_nil _).mono ?_); rintro e w' ⟨rfl, ⟨nd, rfl⟩⟩) | (go_at_call 16; (with_reducible refine (lot_Below_nil 5 _).mono ?_); rintro e w' ⟨rfl, ⟨nd, rfl⟩⟩) | (go_at_call 8; (with_reducible refine (lot_Mix_nil 5 _).mono ?_); rintro e w' ⟨rfl, ⟨nd, rfl⟩⟩))
      (try simp only [Act.put, List.setIfInBounds_toArray, List.set_cons_zero, List.set_cons_succ])
      go_cut [46] (fun v46 wc => ∃ (kq : Nat) (x46_5 : Bool), v46 = .bool x46_5 ∧ Aside0 (incunablelaw42_LotOps.j0 kq a0 x46_5 a1_0 a1_1 a1_2 a1_3 a1_4 a1_5 a1_6 = some r) ∧ Aside0 (kq ≤ k) ∧ Aside0 (wc.heap[gb185]? = some (.cells #[.int .i64 a1_0, .int .i64 a1_1, .int .i64 a1_2, .int .i64 a1_3, .int .i64 a1_4, .int .i64 a1_5, .int .i64 a1_6] 35 (0, 0))) ∧ Aside0 (Below w.heap.size w wc))
      case first =>
        have H := HC6.out
        clear HC6
        by_cases c10 : a1_0 > 60
        · rw [if_pos c10] at H
          have c10b0 : decide (60 < a1_0) = true := decide_eq_true c10
          clear c10
          (first | rw [c10b0] | (simp only [i64_w, i32_w]; rw [c10b0]) | skip)
          have H' := Aside0.mk H
          clear H
          have hcz11_0 : w11.cell? ⟨gb185, 0, none⟩ = some (.int .i64 a1_0) := (blk_cell BK185.out 0).trans rfl
          have hcz11_1 : w11.cell? ⟨gb185, 1, none⟩ = some (.int .i64 a1_1) := (blk_cell BK185.out 1).trans rfl
          have hcz11_2 : w11.cell? ⟨gb185, 2, none⟩ = some (.int .i64 a1_2) := (blk_cell BK185.out 2).trans rfl
          have hcz11_3 : w11.cell? ⟨gb185, 3, none⟩ = some (.int .i64 a1_3) := (blk_cell BK185.out 3).trans rfl
          have hcz11_4 : w11.cell? ⟨gb185, 4, none⟩ = some (.int .i64 a1_4) := (blk_cell BK185.out 4).trans rfl
          have hcz11_5 : w11.cell? ⟨gb185, 5, none⟩ = some (.int .i64 a1_5) := (blk_cell BK185.out 5).trans rfl
          have hcz11_6 : w11.cell? ⟨gb185, 6, none⟩ = some (.int .i64 a1_6) := (blk_cell BK185.out 6).trans rfl
          have hfz11_0 := blk_frozen BK185.out 0
          have hfz11_1 := blk_frozen BK185.out 1
          have hfz11_2 := blk_frozen BK185.out 2
          have hfz11_3 := blk_frozen BK185.out 3
          have hfz11_4 := blk_frozen BK185.out 4
          have hfz11_5 := blk_frozen BK185.out 5
          have hfz11_6 := blk_frozen BK185.out 6
          go_wp2
          go_meet
          case rel => exact ⟨_, (true), (by first | rfl | (simp; done) | (simp [*]; done)), H', ⟨by first | omega | exact Nat.le_refl _⟩, ⟨by (with_reducible repeat (first | refine blk_drewN ?_ _ | refine blk_drew ?_ | refine blk_alloc ?_ _)); exact BK185.out⟩, ⟨by repeat (first | (with_reducible first | exact HB.out | apply below_alloc | apply pw_below_drewN | apply below_drew1 | refine below_set ?_ GE185.out) | exact HB.out)⟩⟩
        · rw [if_neg c10] at H
          have c10b0 : decide (60 < a1_0) = false := decide_eq_false c10
          clear c10
          (first | rw [c10b0] | (simp only [i64_w, i32_w]; rw [c10b0]) | skip)
          have H' := Aside0.mk H
          clear H
          have hcz12_0 : w11.cell? ⟨gb185, 0, none⟩ = some (.int .i64 a1_0) := (blk_cell BK185.out 0).trans rfl
          have hcz12_1 : w11.cell? ⟨gb185, 1, none⟩ = some (.int .i64 a1_1) := (blk_cell BK185.out 1).trans rfl
          have hcz12_2 : w11.cell? ⟨gb185, 2, none⟩ = some (.int .i64 a1_2) := (blk_cell BK185.out 2).trans rfl
          have hcz12_3 : w11.cell? ⟨gb185, 3, none⟩ = some (.int .i64 a1_3) := (blk_cell BK185.out 3).trans rfl
          have hcz12_4 : w11.cell? ⟨gb185, 4, none⟩ = some (.int .i64 a1_4) := (blk_cell BK185.out 4).trans rfl
          have hcz12_5 : w11.cell? ⟨gb185, 5, none⟩ = some (.int .i64 a1_5) := (blk_cell BK185.out 5).trans rfl
          have hcz12_6 : w11.cell? ⟨gb185, 6, none⟩ = some (.int .i64 a1_6) := (blk_cell BK185.out 6).trans rfl
          have hfz12_0 := blk_frozen BK185.out 0
          have hfz12_1 := blk_frozen BK185.out 1
          have hfz12_2 := blk_frozen BK185.out 2
          have hfz12_3 := blk_frozen BK185.out 3
          have hfz12_4 := blk_frozen BK185.out 4
          have hfz12_5 := blk_frozen BK185.out 5
          have hfz12_6 := blk_frozen BK185.out 6
          go_wp2
          go_meet
          case rel => exact ⟨_, (decide (a1_2 > 60)), (by first | rfl | (simp; done) | (simp [*]; done)), H', ⟨by first | omega | exact Nat.le_refl _⟩, ⟨by (with_reducible repeat (first | refine blk_drewN ?_ _ | refine blk_drew ?_ | refine blk_alloc ?_ _)); exact BK185.out⟩, ⟨by repeat (first | (with_reducible first | exact HB.out | apply below_alloc | apply pw_below_drewN | apply below_drew1 | refine below_set ?_ GE185.out) | exact HB.out)⟩⟩
      case rest =>
        clear HC6
        try clear c1
        try clear p2
        try clear c4
        try clear c5
        try clear c5b0
        try clear c5b1
        try clear c6
        try clear c10
        try clear c10b0
        try clear hcz11_0
        try clear hcz11_1
        try clear hcz11_2
        try clear hcz11_3
        try clear hcz11_4
        try clear hcz11_5
        try clear hcz11_6
        try clear hcz12_0
        try clear hcz12_1
        try clear hcz12_2
        try clear hcz12_3
        try clear hcz12_4
        try clear hcz12_5
        try clear hcz12_6
        try clear hcz9_0
        try clear hcz9_1
        try clear hcz9_2
        try clear hcz9_3
        try clear hcz9_4
        try clear hcz9_5
        try clear hcz9_6
        try clear hfz11_0
        try clear hfz11_1
        try clear hfz11_2
        try clear hfz11_3
        try clear hfz11_4
        try clear hfz11_5
        try clear hfz11_6
        try clear hfz12_0
        try clear hfz12_1
        try clear hfz12_2
        try clear hfz12_3
        try clear hfz12_4
        try clear hfz12_5
        try clear hfz12_6
        try clear hfz9_0
        try clear hfz9_1
        try clear hfz9_2
        try clear hfz9_3
        try clear hfz9_4
        try clear hfz9_5
        try clear hfz9_6
        obtain ⟨kq, x46_5, rfl, HA, HJ5, BK185, HB⟩ := hcut
        cases kq with
        | zero => exact absurd HA.out (by simp [incunablelaw42_LotOps.j0])
        | succ kj5 =>
          have H := HA.out
          clear HA
          simp only [incunablelaw42_LotOps.j0] at H
          by_cases c13 : x46_5 = true
          · subst c13
            have H1 : (some true) = some r := by rw [if_pos rfl] at H; exact H
            clear H
            have H := H1
            clear H1
            obtain rfl := Option.some.inj H
            go_wp2
            go_ret
            exact ⟨by first | rfl | (simp [errW_none, errW_some] <;> rfl) | (simp [*, errW_none, errW_some] <;> rfl), by repeat (first | (with_reducible first | exact HB.out | apply below_alloc | apply pw_below_drewN | apply below_drew1 | refine below_set ?_ GE185.out) | exact HB.out)⟩
          · replace c13 := Bool.eq_false_iff.mpr c13
            subst c13
            have H1 : ((lot_Ops.f kj5 a0 a1_0 a1_1 a1_2 a1_3 a1_4 a1_5 a1_6).bind fun bt187 => ((lot_Ops.f kj5 a0 a1_0 a1_1 a1_2 a1_3 a1_4 a1_5 a1_6).bind fun bt191 => ((incunableref42_May.f kj5 a1_0 a1_1 a1_2 a1_3 a1_4 a1_5 a1_6).bind fun t195 => (if t195 = true then (if bt187.2 = 0 then (if bt191.2 = 0 then (if (bt187.1.length : Int) = a1_0 then (incunablelaw42_LotOps.j1 kj5 bt187.1 bt191.1 ((bt191.1.length : Int) != a1_0) a1_0 a1_1 a1_2 a1_3 a1_4 a1_5 a1_6 a0) else (incunablelaw42_LotOps.j1 kj5 bt187.1 bt191.1 true a1_0 a1_1 a1_2 a1_3 a1_4 a1_5 a1_6 a0)) else (incunablelaw42_LotOps.j1 kj5 bt187.1 bt191.1 true a1_0 a1_1 a1_2 a1_3 a1_4 a1_5 a1_6 a0)) else (incunablelaw42_LotOps.j1 kj5 bt187.1 bt191.1 true a1_0 a1_1 a1_2 a1_3 a1_4 a1_5 a1_6 a0)) else (if bt187.2 = 2 then (if bt191.2 = 2 then (some ((wrap64 ((bt187.1.length : Int) + (bt191.1.length : Int))) == 0)) else (some false)) else (some false)))))) = some r := by rw [if_neg (show ¬ (false = true) by decide)] at H; exact H
            clear H
            have H := H1
            clear H1
            replace H := Option.bind_eq_some_iff.mp H
            obtain ⟨⟨t187, t190⟩, A140, H⟩ := H
            replace H : ((lot_Ops.f kj5 a0 a1_0 a1_1 a1_2 a1_3 a1_4 a1_5 a1_6).bind fun bt191 => ((incunableref42_May.f kj5 a1_0 a1_1 a1_2 a1_3 a1_4 a1_5 a1_6).bind fun t195 => (if t195 = true then (if t190 = 0 then (if bt191.2 = 0 then (if (t187.length : Int) = a1_0 then (incunablelaw42_LotOps.j1 kj5 t187 bt191.1 ((bt191.1.length : Int) != a1_0) a1_0 a1_1 a1_2 a1_3 a1_4 a1_5 a1_6 a0) else (incunablelaw42_LotOps.j1 kj5 t187 bt191.1 true a1_0 a1_1 a1_2 a1_3 a1_4 a1_5 a1_6 a0)) else (incunablelaw42_LotOps.j1 kj5 t187 bt191.1 true a1_0 a1_1 a1_2 a1_3 a1_4 a1_5 a1_6 a0)) else (incunablelaw42_LotOps.j1 kj5 t187 bt191.1 true a1_0 a1_1 a1_2 a1_3 a1_4 a1_5 a1_6 a0)) else (if t190 = 2 then (if bt191.2 = 2 then (some ((wrap64 ((t187.length : Int) + (bt191.1.length : Int))) == 0)) else (some false)) else (some false))))) = some r := H
            have A14 := Aside0.mk A140
            clear A140
            replace H := Option.bind_eq_some_iff.mp H
            obtain ⟨⟨t191, t194⟩, A150, H⟩ := H
            replace H : ((incunableref42_May.f kj5 a1_0 a1_1 a1_2 a1_3 a1_4 a1_5 a1_6).bind fun t195 => (if t195 = true then (if t190 = 0 then (if t194 = 0 then (if (t187.length : Int) = a1_0 then (incunablelaw42_LotOps.j1 kj5 t187 t191 ((t191.length : Int) != a1_0) a1_0 a1_1 a1_2 a1_3 a1_4 a1_5 a1_6 a0) else (incunablelaw42_LotOps.j1 kj5 t187 t191 true a1_0 a1_1 a1_2 a1_3 a1_4 a1_5 a1_6 a0)) else (incunablelaw42_LotOps.j1 kj5 t187 t191 true a1_0 a1_1 a1_2 a1_3 a1_4 a1_5 a1_6 a0)) else (incunablelaw42_LotOps.j1 kj5 t187 t191 true a1_0 a1_1 a1_2 a1_3 a1_4 a1_5 a1_6 a0)) else (if t190 = 2 then (if t194 = 2 then (some ((wrap64 ((t187.length : Int) + (t191.length : Int))) == 0)) else (some false)) else (some false)))) = some r := H
            have A15 := Aside0.mk A150
            clear A150
            replace H := Option.bind_eq_some_iff.mp H
            obtain ⟨t195, A160, H⟩ := H
            replace H : (if t195 = true then (if t190 = 0 then (if t194 = 0 then (if (t187.length : Int) = a1_0 then (incunablelaw42_LotOps.j1 kj5 t187 t191 ((t191.length : Int) != a1_0) a1_0 a1_1 a1_2 a1_3 a1_4 a1_5 a1_6 a0) else (incunablelaw42_LotOps.j1 kj5 t187 t191 true a1_0 a1_1 a1_2 a1_3 a1_4 a1_5 a1_6 a0)) else (incunablelaw42_LotOps.j1 kj5 t187 t191 true a1_0 a1_1 a1_2 a1_3 a1_4 a1_5 a1_6 a0)) else (incunablelaw42_LotOps.j1 kj5 t187 t191 true a1_0 a1_1 a1_2 a1_3 a1_4 a1_5 a1_6 a0)) else (if t190 = 2 then (if t194 = 2 then (some ((wrap64 ((t187.length : Int) + (t191.length : Int))) == 0)) else (some false)) else (some false))) = some r := H
            have A16 := Aside0.mk A160
            clear A160
            by_cases c17 : t195 = true
            · subst c17
              have H1 : (if t190 = 0 then (if t194 = 0 then (if (t187.length : Int) = a1_0 then (incunablelaw42_LotOps.j1 kj5 t187 t191 ((t191.length : Int) != a1_0) a1_0 a1_1 a1_2 a1_3 a1_4 a1_5 a1_6 a0) else (incunablelaw42_LotOps.j1 kj5 t187 t191 true a1_0 a1_1 a1_2 a1_3 a1_4 a1_5 a1_6 a0)) else (incunablelaw42_LotOps.j1 kj5 t187 t191 true a1_0 a1_1 a1_2 a1_3 a1_4 a1_5 a1_6 a0)) else (incunablelaw42_LotOps.j1 kj5 t187 t191 true a1_0 a1_1 a1_2 a1_3 a1_4 a1_5 a1_6 a0)) = some r := by rw [if_pos rfl] at H; exact H
              clear H
              have H := H1
              clear H1
              have HC18 := Aside0.mk H
              clear H
              have hcz19_0 : wc.cell? ⟨gb185, 0, none⟩ = some (.int .i64 a1_0) := (blk_cell BK185.out 0).trans rfl
              have hcz19_1 : wc.cell? ⟨gb185, 1, none⟩ = some (.int .i64 a1_1) := (blk_cell BK185.out 1).trans rfl
              have hcz19_2 : wc.cell? ⟨gb185, 2, none⟩ = some (.int .i64 a1_2) := (blk_cell BK185.out 2).trans rfl
              have hcz19_3 : wc.cell? ⟨gb185, 3, none⟩ = some (.int .i64 a1_3) := (blk_cell BK185.out 3).trans rfl
              have hcz19_4 : wc.cell? ⟨gb185, 4, none⟩ = some (.int .i64 a1_4) := (blk_cell BK185.out 4).trans rfl
              have hcz19_5 : wc.cell? ⟨gb185, 5, none⟩ = some (.int .i64 a1_5) := (blk_cell BK185.out 5).trans rfl
              have hcz19_6 : wc.cell? ⟨gb185, 6, none⟩ = some (.int .i64 a1_6) := (blk_cell BK185.out 6).trans rfl
              have hfz19_0 := blk_frozen BK185.out 0
              have hfz19_1 := blk_frozen BK185.out 1
              have hfz19_2 := blk_frozen BK185.out 2
              have hfz19_3 := blk_frozen BK185.out 3
              have hfz19_4 := blk_frozen BK185.out 4
              have hfz19_5 := blk_frozen BK185.out 5
              have hfz19_6 := blk_frozen BK185.out 6
              go_upto_region 14 with (first | ((with_reducible refine gate_callee (f := 12) rfl ?_); refine goesL_ (some 50) rfl rfl Try.func12 (by kernel_rfl) rfl #[.int .u64 a0, .agg #[.int .i64 a1_0, .int .i64 a1_1, .int .i64 a1_2, .int .i64 a1_3, .int .i64 a1_4, .int .i64 a1_5, .int .i64 a1_6]] rfl (by (try simp only [List.map_toArray, List.map_cons, List.map_nil]); first | done | rfl | (simp only [List.length_drop, List.length_take]; rfl)) ?_; (with_reducible refine (lot_Ops.calls kj5 a0 a1_0 a1_1 a1_2 a1_3 a1_4 a1_5 a1_6 t187 t190 _ A14.out).mono ?_); rintro e w20 ⟨v188, rfl, ho0, hb⟩; refine ⟨_, rfl, ?_⟩; have n0_ := Aside0.mk (Kd.S_lower ho0 (below_size (by repeat (first | (with_reducible first | exact HB.out | apply below_alloc | apply pw_below_drewN | apply below_drew1 | refine below_set ?_ GE185.out) | exact HB.out)))); have n1_ := Aside0.mk (blk_below (g := gb185) (o := .cells #[.int .i64 a1_0, .int .i64 a1_1, .int .i64 a1_2, .int .i64 a1_3, .int .i64 a1_4, .int .i64 a1_5, .int .i64 a1_6] 35 (0, 0)) (by (with_reducible repeat (first | refine blk_drewN ?_ _ | refine blk_drew ?_ | refine blk_alloc ?_ _)); exact BK185.out) hb); have n2_ := Aside0.mk (below_step (by repeat (first | (with_reducible first | exact HB.out | apply below_alloc | apply pw_below_drewN | apply below_drew1 | refine below_set ?_ GE185.out) | exact HB.out)) hb); clear BK185; clear HB; have HO189 := n0_; have BK185 := n1_; have HB := n2_; clear n0_ n1_ n2_; (try clear hb); (try clear hb2); (try clear hk); (try clear hi); (try clear ho0); have hcz21_0 : w20.cell? ⟨gb185, 0, none⟩ = some (.int .i64 a1_0) := (blk_cell BK185.out 0).trans rfl; have hcz21_1 : w20.cell? ⟨gb185, 1, none⟩ = some (.int .i64 a1_1) := (blk_cell BK185.out 1).trans rfl; have hcz21_2 : w20.cell? ⟨gb185, 2, none⟩ = some (.int .i64 a1_2) := (blk_cell BK185.out 2).trans rfl; have hcz21_3 : w20.cell? ⟨gb185, 3, none⟩ = some (.int .i64 a1_3) := (blk_cell BK185.out 3).trans rfl; have hcz21_4 : w20.cell? ⟨gb185, 4, none⟩ = some (.int .i64 a1_4) := (blk_cell BK185.out 4).trans rfl; have hcz21_5 : w20.cell? ⟨gb185, 5, none⟩ = some (.int .i64 a1_5) := (blk_cell BK185.out 5).trans rfl; have hcz21_6 : w20.cell? ⟨gb185, 6, none⟩ = some (.int .i64 a1_6) := (blk_cell BK185.out 6).trans rfl; have hfz21_0 := blk_frozen BK185.out 0; have hfz21_1 := blk_frozen BK185.out 1; have hfz21_2 := blk_frozen BK185.out 2; have hfz21_3 := blk_frozen BK185.out 3; have hfz21_4 := blk_frozen BK185.out 4; have hfz21_5 := blk_frozen BK185.out 5; have hfz21_6 := blk_frozen BK185.out 6) | ((with_reducible refine gate_callee (f := 12) rfl ?_); refine goesL_ (some 56) rfl rfl Try.func12 (by kernel_rfl) rfl #[.int .u64 a0, .agg #[.int .i64 a1_0, .int .i64 a1_1, .int .i64 a1_2, .int .i64 a1_3, .int .i64 a1_4, .int .i64 a1_5, .int .i64 a1_6]] rfl (by (try simp only [List.map_toArray, List.map_cons, List.map_nil]); first | done | rfl | (simp only [List.length_drop, List.length_take]; rfl)) ?_; (with_reducible refine (lot_Ops.calls kj5 a0 a1_0 a1_1 a1_2 a1_3 a1_4 a1_5 a1_6 t191 t194 _ A15.out).mono ?_); rintro e w22 ⟨v192, rfl, ho0, hb⟩; refine ⟨_, rfl, ?_⟩; have n0_ := Aside0.mk (Kd.S_elder' (by (with_reducible repeat (first | apply Kd.S_alloc | apply Kd.S_drewN | apply Kd.S_drew)); exact HO189.out) (Kd.S_base ho0) hb); have n1_ := Aside0.mk (Kd.S_lower (Kd.S_new' ho0 (Kd.S_lt (by (with_reducible repeat (first | apply Kd.S_alloc | apply Kd.S_drewN | apply Kd.S_drew)); exact HO189.out))) (below_size (by repeat (first | (with_reducible first | exact HB.out | apply below_alloc | apply pw_below_drewN | apply below_drew1 | refine below_set ?_ GE185.out) | exact HB.out)))); have n2_ := Aside0.mk (blk_below (g := gb185) (o := .cells #[.int .i64 a1_0, .int .i64 a1_1, .int .i64 a1_2, .int .i64 a1_3, .int .i64 a1_4, .int .i64 a1_5, .int .i64 a1_6] 35 (0, 0)) (by (with_reducible repeat (first | refine blk_drewN ?_ _ | refine blk_drew ?_ | refine blk_alloc ?_ _)); exact BK185.out) hb); have n3_ := Aside0.mk (below_step (by repeat (first | (with_reducible first | exact HB.out | apply below_alloc | apply pw_below_drewN | apply below_drew1 | refine below_set ?_ GE185.out) | exact HB.out)) hb); clear HO189; clear BK185; clear HB; have HO189 := n0_; have HO193 := n1_; have BK185 := n2_; have HB := n3_; clear n0_ n1_ n2_ n3_; (try clear hb); (try clear hb2); (try clear hk); (try clear hi); (try clear ho0); have hcz23_0 : w22.cell? ⟨gb185, 0, none⟩ = some (.int .i64 a1_0) := (blk_cell BK185.out 0).trans rfl; have hcz23_1 : w22.cell? ⟨gb185, 1, none⟩ = some (.int .i64 a1_1) := (blk_cell BK185.out 1).trans rfl; have hcz23_2 : w22.cell? ⟨gb185, 2, none⟩ = some (.int .i64 a1_2) := (blk_cell BK185.out 2).trans rfl; have hcz23_3 : w22.cell? ⟨gb185, 3, none⟩ = some (.int .i64 a1_3) := (blk_cell BK185.out 3).trans rfl; have hcz23_4 : w22.cell? ⟨gb185, 4, none⟩ = some (.int .i64 a1_4) := (blk_cell BK185.out 4).trans rfl; have hcz23_5 : w22.cell? ⟨gb185, 5, none⟩ = some (.int .i64 a1_5) := (blk_cell BK185.out 5).trans rfl; have hcz23_6 : w22.cell? ⟨gb185, 6, none⟩ = some (.int .i64 a1_6) := (blk_cell BK185.out 6).trans rfl; have hfz23_0 := blk_frozen BK185.out 0; have hfz23_1 := blk_frozen BK185.out 1; have hfz23_2 := blk_frozen BK185.out 2; have hfz23_3 := blk_frozen BK185.out 3; have hfz23_4 := blk_frozen BK185.out 4; have hfz23_5 := blk_frozen BK185.out 5; have hfz23_6 := blk_frozen BK185.out 6) | ((with_reducible refine gate_callee (f := 17) rfl ?_); refine goesL_ (some 60) rfl rfl Try.func17 (by kernel_rfl) rfl #[.agg #[.int .i64 a1_0, .int .i64 a1_1, .int .i64 a1_2, .int .i64 a1_3, .int .i64 a1_4, .int .i64 a1_5, .int .i64 a1_6]] rfl (by (try simp only [List.map_toArray, List.map_cons, List.map_nil]); first | done | rfl | (simp only [List.length_drop, List.length_take]; rfl)) ?_; (with_reducible refine (incunableref42_May.calls kj5 a1_0 a1_1 a1_2 a1_3 a1_4 a1_5 a1_6 true _ A16.out).mono ?_); rintro e w24 ⟨rfl, hb⟩; refine ⟨_, rfl, ?_⟩; have n0_ := Aside0.mk (Kd.S_below (by (with_reducible repeat (first | apply Kd.S_alloc | apply Kd.S_drewN | apply Kd.S_drew)); exact HO189.out) hb); have n1_ := Aside0.mk (Kd.S_below (by (with_reducible repeat (first | apply Kd.S_alloc | apply Kd.S_drewN | apply Kd.S_drew)); exact HO193.out) hb); have n2_ := Aside0.mk (blk_below (g := gb185) (o := .cells #[.int .i64 a1_0, .int .i64 a1_1, .int .i64 a1_2, .int .i64 a1_3, .int .i64 a1_4, .int .i64 a1_5, .int .i64 a1_6] 35 (0, 0)) (by (with_reducible repeat (first | refine blk_drewN ?_ _ | refine blk_drew ?_ | refine blk_alloc ?_ _)); exact BK185.out) hb); have n3_ := Aside0.mk (below_step (by repeat (first | (with_reducible first | exact HB.out | apply below_alloc | apply pw_below_drewN | apply below_drew1 | refine below_set ?_ GE185.out) | exact HB.out)) hb); clear HO189; clear HO193; clear BK185; clear HB; have HO189 := n0_; have HO193 := n1_; have BK185 := n2_; have HB := n3_; clear n0_ n1_ n2_ n3_; (try clear hb); (try clear hb2); (try clear hk); (try clear hi)) | ((with_reducible refine gate_dst (N := 78) rfl ?_); (try (refine gate_guard (by rfl) ?_; dsimp only)); refine box_event ?hg (N := 78) ?hd (cs := #[.int .u64 a0]) (t := 30) ?hr ?_; (case hd => rfl); (case hg => rfl); (case hr => first | (go_simp; done) | (go_simp; rfl)); intro gb196 hg w25 hbox hb; have NB185_196 := Aside0.mk ((by rw [hg]; exact Nat.ne_of_lt (blk_lt (g := gb185) (o := .cells #[.int .i64 a1_0, .int .i64 a1_1, .int .i64 a1_2, .int .i64 a1_3, .int .i64 a1_4, .int .i64 a1_5, .int .i64 a1_6] 35 (0, 0)) (by (with_reducible repeat (first | refine blk_drewN ?_ _ | refine blk_drew ?_ | refine blk_alloc ?_ _)); exact BK185.out)) : gb185 ≠ gb196)); have NB196_185 := Aside0.mk (Ne.symm NB185_196.out); have n0_ := Aside0.mk (Kd.S_below (by (with_reducible repeat (first | apply Kd.S_alloc | apply Kd.S_drewN | apply Kd.S_drew)); exact HO189.out) hb); have n1_ := Aside0.mk (Kd.S_below (by (with_reducible repeat (first | apply Kd.S_alloc | apply Kd.S_drewN | apply Kd.S_drew)); exact HO193.out) hb); have n2_ := Aside0.mk (blk_below (g := gb185) (o := .cells #[.int .i64 a1_0, .int .i64 a1_1, .int .i64 a1_2, .int .i64 a1_3, .int .i64 a1_4, .int .i64 a1_5, .int .i64 a1_6] 35 (0, 0)) (by (with_reducible repeat (first | refine blk_drewN ?_ _ | refine blk_drew ?_ | refine blk_alloc ?_ _)); exact BK185.out) hb); have n3_ := Aside0.mk (below_step (by repeat (first | (with_reducible first | exact HB.out | apply below_alloc | apply pw_below_drewN | apply below_drew1 | refine below_set ?_ GE185.out) | exact HB.out)) hb); have n4_ := Aside0.mk ((show IsS30 w w25 gb196 a0 from ⟨hbox, by rw [hg]; exact (below_size (by repeat (first | (with_reducible first | exact HB.out | apply below_alloc | apply pw_below_drewN | apply below_drew1 | refine below_set ?_ GE185.out) | exact HB.out)))⟩)); clear HO189; clear HO193; clear BK185; clear HB; have HO189 := n0_; have HO193 := n1_; have BK185 := n2_; have HB := n3_; have HI196 := n4_; clear n0_ n1_ n2_ n3_ n4_; clear hb hbox hg))
              (try simp only [Act.put, List.setIfInBounds_toArray, List.set_cons_zero, List.set_cons_succ])
              go_cut [98] (fun v98 wc => ∃ (kq : Nat) (x98_17 : Bool), v98 = .bool x98_17 ∧ Aside0 (incunablelaw42_LotOps.j1 kq t187 t191 x98_17 a1_0 a1_1 a1_2 a1_3 a1_4 a1_5 a1_6 a0 = some r) ∧ Aside0 (kq ≤ kj5) ∧ Aside0 (Kd.S k43 43 wc w.heap.size (fun k_ => some k_ ≠ (v192 : Value).ownBlock) v188 t187) ∧ Aside0 (Kd.S k43 43 wc w.heap.size (fun k_ => some k_ ≠ (v188 : Value).ownBlock) v192 t191) ∧ Aside0 (wc.heap[gb185]? = some (.cells #[.int .i64 a1_0, .int .i64 a1_1, .int .i64 a1_2, .int .i64 a1_3, .int .i64 a1_4, .int .i64 a1_5, .int .i64 a1_6] 35 (0, 0))) ∧ Aside0 (IsS30 w wc gb196 a0) ∧ Aside0 (Below w.heap.size w wc))
              case first =>
                have H := HC18.out
                clear HC18
                by_cases c26 : t190 = 0
                · rw [if_pos c26] at H
                  have c26b0 : (t190 == 0) = true := beq_iff_eq.mpr c26
                  have c26b1 : (t190 != 0) = false := bne_eq_false_iff_eq.mpr c26
                  clear c26
                  (first | rw [c26b0] | (simp only [i64_w, i32_w]; rw [c26b0]) | skip)
                  by_cases c27 : t194 = 0
                  · rw [if_pos c27] at H
                    have c27b0 : (t194 == 0) = true := beq_iff_eq.mpr c27
                    have c27b1 : (t194 != 0) = false := bne_eq_false_iff_eq.mpr c27
                    clear c27
                    by_cases c28 : (t187.length : Int) = a1_0
                    · rw [if_pos c28] at H
                      have c28b0 : ((t187.length : Int) == a1_0) = true := beq_iff_eq.mpr c28
                      have c28b1 : ((t187.length : Int) != a1_0) = false := bne_eq_false_iff_eq.mpr c28
                      clear c28
                      have H' := Aside0.mk H
                      clear H
                      obtain ⟨Ao29, co29, eo29⟩ := Kd.S_slice HO189.out
                      subst eo29
                      have hnb30 := NB185_196.out
                      have hnc30 := NB196_185.out
                      have hcz31_0 : w25.cell? ⟨gb185, 0, none⟩ = some (.int .i64 a1_0) := (blk_cell BK185.out 0).trans rfl
                      have hcz31_1 : w25.cell? ⟨gb185, 1, none⟩ = some (.int .i64 a1_1) := (blk_cell BK185.out 1).trans rfl
                      have hcz31_2 : w25.cell? ⟨gb185, 2, none⟩ = some (.int .i64 a1_2) := (blk_cell BK185.out 2).trans rfl
                      have hcz31_3 : w25.cell? ⟨gb185, 3, none⟩ = some (.int .i64 a1_3) := (blk_cell BK185.out 3).trans rfl
                      have hcz31_4 : w25.cell? ⟨gb185, 4, none⟩ = some (.int .i64 a1_4) := (blk_cell BK185.out 4).trans rfl
                      have hcz31_5 : w25.cell? ⟨gb185, 5, none⟩ = some (.int .i64 a1_5) := (blk_cell BK185.out 5).trans rfl
                      have hcz31_6 : w25.cell? ⟨gb185, 6, none⟩ = some (.int .i64 a1_6) := (blk_cell BK185.out 6).trans rfl
                      have hfz31_0 := blk_frozen BK185.out 0
                      have hfz31_1 := blk_frozen BK185.out 1
                      have hfz31_2 := blk_frozen BK185.out 2
                      have hfz31_3 := blk_frozen BK185.out 3
                      have hfz31_4 := blk_frozen BK185.out 4
                      have hfz31_5 := blk_frozen BK185.out 5
                      have hfz31_6 := blk_frozen BK185.out 6
                      obtain ⟨Ao32, co32, eo32⟩ := Kd.S_slice HO193.out
                      subst eo32
                      go_wp2
                      go_meet
                      case rel => exact ⟨_, (((t191.length : Int) != a1_0)), (by first | rfl | (simp; done) | (simp [*]; done)), H', ⟨by have := HJ5.out; first | omega | exact Nat.le_refl _⟩, ⟨by (with_reducible repeat (first | apply Kd.S_alloc | apply Kd.S_drewN | apply Kd.S_drew)); exact Kd.S_mono HO189.out (fun _ hk => hk.2)⟩, ⟨by (with_reducible repeat (first | apply Kd.S_alloc | apply Kd.S_drewN | apply Kd.S_drew)); exact Kd.S_mono HO193.out (fun _ hk => hk.2)⟩, ⟨by (with_reducible repeat (first | refine blk_drewN ?_ _ | refine blk_drew ?_ | refine blk_alloc ?_ _)); exact BK185.out⟩, ⟨by repeat (first | (with_reducible first | exact HI196.out | apply IsS30.alloc | apply IsS30.drewN | apply IsS30.drew | apply IsS30.set_0 | refine IsS30.far ?_ NB196_185.out _) | exact HI196.out)⟩, ⟨by repeat (first | (with_reducible first | exact HB.out | apply below_alloc | apply pw_below_drewN | apply below_drew1 | refine below_set ?_ (IsS30.ge HI196.out) | refine below_set ?_ GE185.out) | exact HB.out)⟩⟩
                    · rw [if_neg c28] at H
                      have c28b0 : ((t187.length : Int) == a1_0) = false := beq_eq_false_iff_ne.mpr c28
                      have c28b1 : ((t187.length : Int) != a1_0) = true := bne_iff_ne.mpr c28
                      have H' := Aside0.mk H
                      clear H
                      obtain ⟨Ao33, co33, eo33⟩ := Kd.S_slice HO189.out
                      subst eo33
                      have hnb34 := NB185_196.out
                      have hnc34 := NB196_185.out
                      have hcz35_0 : w25.cell? ⟨gb185, 0, none⟩ = some (.int .i64 a1_0) := (blk_cell BK185.out 0).trans rfl
                      have hcz35_1 : w25.cell? ⟨gb185, 1, none⟩ = some (.int .i64 a1_1) := (blk_cell BK185.out 1).trans rfl
                      have hcz35_2 : w25.cell? ⟨gb185, 2, none⟩ = some (.int .i64 a1_2) := (blk_cell BK185.out 2).trans rfl
                      have hcz35_3 : w25.cell? ⟨gb185, 3, none⟩ = some (.int .i64 a1_3) := (blk_cell BK185.out 3).trans rfl
                      have hcz35_4 : w25.cell? ⟨gb185, 4, none⟩ = some (.int .i64 a1_4) := (blk_cell BK185.out 4).trans rfl
                      have hcz35_5 : w25.cell? ⟨gb185, 5, none⟩ = some (.int .i64 a1_5) := (blk_cell BK185.out 5).trans rfl
                      have hcz35_6 : w25.cell? ⟨gb185, 6, none⟩ = some (.int .i64 a1_6) := (blk_cell BK185.out 6).trans rfl
                      have hfz35_0 := blk_frozen BK185.out 0
                      have hfz35_1 := blk_frozen BK185.out 1
                      have hfz35_2 := blk_frozen BK185.out 2
                      have hfz35_3 := blk_frozen BK185.out 3
                      have hfz35_4 := blk_frozen BK185.out 4
                      have hfz35_5 := blk_frozen BK185.out 5
                      have hfz35_6 := blk_frozen BK185.out 6
                      go_wp2
                      go_meet
                      case rel => exact ⟨_, (true), (by first | rfl | (simp; done) | (simp [*]; done)), H', ⟨by have := HJ5.out; first | omega | exact Nat.le_refl _⟩, ⟨by (with_reducible repeat (first | apply Kd.S_alloc | apply Kd.S_drewN | apply Kd.S_drew)); exact Kd.S_mono HO189.out (fun _ hk => hk.2)⟩, ⟨by (with_reducible repeat (first | apply Kd.S_alloc | apply Kd.S_drewN | apply Kd.S_drew)); exact Kd.S_mono HO193.out (fun _ hk => hk.2)⟩, ⟨by (with_reducible repeat (first | refine blk_drewN ?_ _ | refine blk_drew ?_ | refine blk_alloc ?_ _)); exact BK185.out⟩, ⟨by repeat (first | (with_reducible first | exact HI196.out | apply IsS30.alloc | apply IsS30.drewN | apply IsS30.drew | apply IsS30.set_0 | refine IsS30.far ?_ NB196_185.out _) | exact HI196.out)⟩, ⟨by repeat (first | (with_reducible first | exact HB.out | apply below_alloc | apply pw_below_drewN | apply below_drew1 | refine below_set ?_ (IsS30.ge HI196.out) | refine below_set ?_ GE185.out) | exact HB.out)⟩⟩
                  · rw [if_neg c27] at H
                    have c27b0 : (t194 == 0) = false := beq_eq_false_iff_ne.mpr c27
                    have c27b1 : (t194 != 0) = true := bne_iff_ne.mpr c27
                    have H' := Aside0.mk H
                    clear H
                    go_wp2
                    go_meet
                    case rel => exact ⟨_, (true), (by first | rfl | (simp; done) | (simp [*]; done)), H', ⟨by have := HJ5.out; first | omega | exact Nat.le_refl _⟩, ⟨by (with_reducible repeat (first | apply Kd.S_alloc | apply Kd.S_drewN | apply Kd.S_drew)); exact Kd.S_mono HO189.out (fun _ hk => hk.2)⟩, ⟨by (with_reducible repeat (first | apply Kd.S_alloc | apply Kd.S_drewN | apply Kd.S_drew)); exact Kd.S_mono HO193.out (fun _ hk => hk.2)⟩, ⟨by (with_reducible repeat (first | refine blk_drewN ?_ _ | refine blk_drew ?_ | refine blk_alloc ?_ _)); exact BK185.out⟩, ⟨by repeat (first | (with_reducible first | exact HI196.out | apply IsS30.alloc | apply IsS30.drewN | apply IsS30.drew | apply IsS30.set_0 | refine IsS30.far ?_ NB196_185.out _) | exact HI196.out)⟩, ⟨by repeat (first | (with_reducible first | exact HB.out | apply below_alloc | apply pw_below_drewN | apply below_drew1 | refine below_set ?_ (IsS30.ge HI196.out) | refine below_set ?_ GE185.out) | exact HB.out)⟩⟩
                · rw [if_neg c26] at H
                  have c26b0 : (t190 == 0) = false := beq_eq_false_iff_ne.mpr c26
                  have c26b1 : (t190 != 0) = true := bne_iff_ne.mpr c26
                  (first | rw [c26b0] | (simp only [i64_w, i32_w]; rw [c26b0]) | skip)
                  have H' := Aside0.mk H
                  clear H
                  go_wp2
                  go_meet
                  case rel => exact ⟨_, (true), (by first | rfl | (simp; done) | (simp [*]; done)), H', ⟨by have := HJ5.out; first | omega | exact Nat.le_refl _⟩, ⟨by (with_reducible repeat (first | apply Kd.S_alloc | apply Kd.S_drewN | apply Kd.S_drew)); exact Kd.S_mono HO189.out (fun _ hk => hk.2)⟩, ⟨by (with_reducible repeat (first | apply Kd.S_alloc | apply Kd.S_drewN | apply Kd.S_drew)); exact Kd.S_mono HO193.out (fun _ hk => hk.2)⟩, ⟨by (with_reducible repeat (first | refine blk_drewN ?_ _ | refine blk_drew ?_ | refine blk_alloc ?_ _)); exact BK185.out⟩, ⟨by repeat (first | (with_reducible first | exact HI196.out | apply IsS30.alloc | apply IsS30.drewN | apply IsS30.drew | apply IsS30.set_0 | refine IsS30.far ?_ NB196_185.out _) | exact HI196.out)⟩, ⟨by repeat (first | (with_reducible first | exact HB.out | apply below_alloc | apply pw_below_drewN | apply below_drew1 | refine below_set ?_ (IsS30.ge HI196.out) | refine below_set ?_ GE185.out) | exact HB.out)⟩⟩
              case rest =>
                clear HC18
                try clear c1
                try clear c2
                try clear p2
                try clear c3
                try clear c4
                try clear c5
                try clear c5b0
                try clear c5b1
                try clear c6
                try clear p6
                try clear c10
                try clear c10b0
                try clear c12
                try clear c13
                try clear c17
                try clear c26
                try clear c26b0
                try clear c26b1
                try clear c27
                try clear c27b0
                try clear c27b1
                try clear c28
                try clear c28b0
                try clear c28b1
                try clear c30
                try clear c34
                try clear hcz11_0
                try clear hcz11_1
                try clear hcz11_2
                try clear hcz11_3
                try clear hcz11_4
                try clear hcz11_5
                try clear hcz11_6
                try clear hcz12_0
                try clear hcz12_1
                try clear hcz12_2
                try clear hcz12_3
                try clear hcz12_4
                try clear hcz12_5
                try clear hcz12_6
                try clear hcz19_0
                try clear hcz19_1
                try clear hcz19_2
                try clear hcz19_3
                try clear hcz19_4
                try clear hcz19_5
                try clear hcz19_6
                try clear hcz21_0
                try clear hcz21_1
                try clear hcz21_2
                try clear hcz21_3
                try clear hcz21_4
                try clear hcz21_5
                try clear hcz21_6
                try clear hcz23_0
                try clear hcz23_1
                try clear hcz23_2
                try clear hcz23_3
                try clear hcz23_4
                try clear hcz23_5
                try clear hcz23_6
                try clear hcz31_0
                try clear hcz31_1
                try clear hcz31_2
                try clear hcz31_3
                try clear hcz31_4
                try clear hcz31_5
                try clear hcz31_6
                try clear hcz35_0
                try clear hcz35_1
                try clear hcz35_2
                try clear hcz35_3
                try clear hcz35_4
                try clear hcz35_5
                try clear hcz35_6
                try clear hcz9_0
                try clear hcz9_1
                try clear hcz9_2
                try clear hcz9_3
                try clear hcz9_4
                try clear hcz9_5
                try clear hcz9_6
                try clear hfz11_0
                try clear hfz11_1
                try clear hfz11_2
                try clear hfz11_3
                try clear hfz11_4
                try clear hfz11_5
                try clear hfz11_6
                try clear hfz12_0
                try clear hfz12_1
                try clear hfz12_2
                try clear hfz12_3
                try clear hfz12_4
                try clear hfz12_5
                try clear hfz12_6
                try clear hfz19_0
                try clear hfz19_1
                try clear hfz19_2
                try clear hfz19_3
                try clear hfz19_4
                try clear hfz19_5
                try clear hfz19_6
                try clear hfz21_0
                try clear hfz21_1
                try clear hfz21_2
                try clear hfz21_3
                try clear hfz21_4
                try clear hfz21_5
                try clear hfz21_6
                try clear hfz23_0
                try clear hfz23_1
                try clear hfz23_2
                try clear hfz23_3
                try clear hfz23_4
                try clear hfz23_5
                try clear hfz23_6
                try clear hfz31_0
                try clear hfz31_1
                try clear hfz31_2
                try clear hfz31_3
                try clear hfz31_4
                try clear hfz31_5
                try clear hfz31_6
                try clear hfz35_0
                try clear hfz35_1
                try clear hfz35_2
                try clear hfz35_3
                try clear hfz35_4
                try clear hfz35_5
                try clear hfz35_6
                try clear hfz9_0
                try clear hfz9_1
                try clear hfz9_2
                try clear hfz9_3
                try clear hfz9_4
                try clear hfz9_5
                try clear hfz9_6
                try clear p2
                obtain ⟨kq, x98_17, rfl, HA, HJ17, HO_8, HO_10, BK185, HI196, HB⟩ := hcut
                cases kq with
                | zero => exact absurd HA.out (by simp [incunablelaw42_LotOps.j1])
                | succ kj17 =>
                  have H := HA.out
                  clear HA
                  simp only [incunablelaw42_LotOps.j1] at H
                  by_cases c36 : x98_17 = true
                  · subst c36
                    have H1 : (some false) = some r := by rw [if_pos rfl] at H; exact H
                    clear H
                    have H := H1
                    clear H1
                    obtain rfl := Option.some.inj H
                    go_wp2
                    go_ret
                    exact ⟨by first | rfl | (simp [errW_none, errW_some] <;> rfl) | (simp [*, errW_none, errW_some] <;> rfl), by repeat (first | (with_reducible first | exact HB.out | apply below_alloc | apply pw_below_drewN | apply below_drew1 | refine below_set ?_ (IsS30.ge HI196.out) | refine below_set ?_ GE185.out) | exact HB.out)⟩
                  · replace c36 := Bool.eq_false_iff.mpr c36
                    subst c36
                    have H1 : (incunablelaw42_LotOps.l0 kj17 t191 t187 (t187.length : Int) 0 a1_0 a1_1 a1_2 a1_3 a1_4 a1_5 a1_6 a0) = some r := by rw [if_neg (show ¬ (false = true) by decide)] at H; exact H
                    clear H
                    have H := H1
                    clear H1
                    have H' := Aside0.mk H
                    clear H
                    obtain ⟨Ao37, co37, eo37⟩ := Kd.S_slice HO_8.out
                    subst eo37
                    go_wp2
                    go_loopg [101] kj17 (fun kq v101 w' => ∃ (x101_3 : Int) (x197000_3 : Int), v101 = .int .i64 x101_3 ∧ Aside0 (incunablelaw42_LotOps.l0 kq t191 t187 (t187.length : Int) x101_3 a1_0 a1_1 a1_2 a1_3 a1_4 a1_5 a1_6 x197000_3 = some r) ∧ Aside0 (kq ≤ kj17) ∧ Aside0 (Kd.S k43 43 w' w.heap.size (fun k_ => some k_ ≠ ((.slice Ao37 t187.length co37) : Value).ownBlock) v192 t191) ∧ Aside0 (Kd.S k43 43 w' w.heap.size (fun k_ => some k_ ≠ (v192 : Value).ownBlock) (.slice Ao37 t187.length co37) t187) ∧ Aside0 (w'.heap[gb185]? = some (.cells #[.int .i64 a1_0, .int .i64 a1_1, .int .i64 a1_2, .int .i64 a1_3, .int .i64 a1_4, .int .i64 a1_5, .int .i64 a1_6] 35 (0, 0))) ∧ Aside0 (IsS30 w w' gb196 x197000_3) ∧ Aside0 (Below w.heap.size w w'))
                    case atStart => exact ⟨(0), (a0), (by first | rfl | (simp; done) | (simp [*]; done)), H', ⟨Nat.le_refl _⟩, ⟨by (with_reducible repeat (first | apply Kd.S_alloc | apply Kd.S_drewN | apply Kd.S_drew)); exact HO_10.out⟩, ⟨by (with_reducible repeat (first | apply Kd.S_alloc | apply Kd.S_drewN | apply Kd.S_drew)); exact HO_8.out⟩, ⟨by (with_reducible repeat (first | refine blk_drewN ?_ _ | refine blk_drew ?_ | refine blk_alloc ?_ _)); exact BK185.out⟩, ⟨by repeat (first | (with_reducible first | exact HI196.out | apply IsS30.alloc | apply IsS30.drewN | apply IsS30.drew | apply IsS30.set_0 | refine IsS30.far ?_ NB196_185.out _) | exact HI196.out)⟩, ⟨by repeat (first | (with_reducible first | exact HB.out | apply below_alloc | apply pw_below_drewN | apply below_drew1 | refine below_set ?_ (IsS30.ge HI196.out) | refine below_set ?_ GE185.out) | exact HB.out)⟩⟩
                    case round =>
                      clear H'
                      try clear c1
                      try clear c2
                      try clear p2
                      try clear c3
                      try clear c4
                      try clear c5
                      try clear c5b0
                      try clear c5b1
                      try clear c6
                      try clear p6
                      try clear c10
                      try clear c10b0
                      try clear c12
                      try clear c13
                      try clear c17
                      try clear c26
                      try clear c26b0
                      try clear c26b1
                      try clear c27
                      try clear c27b0
                      try clear c27b1
                      try clear c28
                      try clear c28b0
                      try clear c28b1
                      try clear c30
                      try clear c34
                      try clear c36
                      try clear hcz11_0
                      try clear hcz11_1
                      try clear hcz11_2
                      try clear hcz11_3
                      try clear hcz11_4
                      try clear hcz11_5
                      try clear hcz11_6
                      try clear hcz12_0
                      try clear hcz12_1
                      try clear hcz12_2
                      try clear hcz12_3
                      try clear hcz12_4
                      try clear hcz12_5
                      try clear hcz12_6
                      try clear hcz19_0
                      try clear hcz19_1
                      try clear hcz19_2
                      try clear hcz19_3
                      try clear hcz19_4
                      try clear hcz19_5
                      try clear hcz19_6
                      try clear hcz21_0
                      try clear hcz21_1
                      try clear hcz21_2
                      try clear hcz21_3
                      try clear hcz21_4
                      try clear hcz21_5
                      try clear hcz21_6
                      try clear hcz23_0
                      try clear hcz23_1
                      try clear hcz23_2
                      try clear hcz23_3
                      try clear hcz23_4
                      try clear hcz23_5
                      try clear hcz23_6
                      try clear hcz31_0
                      try clear hcz31_1
                      try clear hcz31_2
                      try clear hcz31_3
                      try clear hcz31_4
                      try clear hcz31_5
                      try clear hcz31_6
                      try clear hcz35_0
                      try clear hcz35_1
                      try clear hcz35_2
                      try clear hcz35_3
                      try clear hcz35_4
                      try clear hcz35_5
                      try clear hcz35_6
                      try clear hcz9_0
                      try clear hcz9_1
                      try clear hcz9_2
                      try clear hcz9_3
                      try clear hcz9_4
                      try clear hcz9_5
                      try clear hcz9_6
                      try clear hfz11_0
                      try clear hfz11_1
                      try clear hfz11_2
                      try clear hfz11_3
                      try clear hfz11_4
                      try clear hfz11_5
                      try clear hfz11_6
                      try clear hfz12_0
                      try clear hfz12_1
                      try clear hfz12_2
                      try clear hfz12_3
                      try clear hfz12_4
                      try clear hfz12_5
                      try clear hfz12_6
                      try clear hfz19_0
                      try clear hfz19_1
                      try clear hfz19_2
                      try clear hfz19_3
                      try clear hfz19_4
                      try clear hfz19_5
                      try clear hfz19_6
                      try clear hfz21_0
                      try clear hfz21_1
                      try clear hfz21_2
                      try clear hfz21_3
                      try clear hfz21_4
                      try clear hfz21_5
                      try clear hfz21_6
                      try clear hfz23_0
                      try clear hfz23_1
                      try clear hfz23_2
                      try clear hfz23_3
                      try clear hfz23_4
                      try clear hfz23_5
                      try clear hfz23_6
                      try clear hfz31_0
                      try clear hfz31_1
                      try clear hfz31_2
                      try clear hfz31_3
                      try clear hfz31_4
                      try clear hfz31_5
                      try clear hfz31_6
                      try clear hfz35_0
                      try clear hfz35_1
                      try clear hfz35_2
                      try clear hfz35_3
                      try clear hfz35_4
                      try clear hfz35_5
                      try clear hfz35_6
                      try clear hfz9_0
                      try clear hfz9_1
                      try clear hfz9_2
                      try clear hfz9_3
                      try clear hfz9_4
                      try clear hfz9_5
                      try clear hfz9_6
                      try clear p2
                      try clear p6
                      obtain ⟨x101_3, x197000_3, rfl, HA, HK3, HO_10, HO_99, BK185, HI196, HB⟩ := hrel
                      cases gk with
                      | zero => exact absurd HA.out (by simp [incunablelaw42_LotOps.l0])
                      | succ k3 =>
                        have H := HA.out
                        clear HA
                        simp only [incunablelaw42_LotOps.l0] at H
                        by_cases c38 : x101_3 < (t187.length : Int)
                        · rw [if_pos c38] at H
                          have c38b0 : decide (x101_3 < (t187.length : Int)) = true := decide_eq_true c38
                          clear c38
                          by_cases c39 : 0 ≤ x101_3
                          · rw [if_pos c39] at H
                            have c39b0 : decide (0 ≤ x101_3) = true := decide_eq_true c39
                            clear c39
                            by_cases c40 : x101_3 < (t187.length : Int)
                            · rw [if_pos c40] at H
                              have c40b0 : decide (x101_3 < (t187.length : Int)) = true := decide_eq_true c40
                              clear c40
                              by_cases c41 : x101_3 < (t191.length : Int)
                              · rw [if_pos c41] at H
                                have c41b0 : decide (x101_3 < (t191.length : Int)) = true := decide_eq_true c41
                                clear c41
                                replace H := Option.bind_eq_some_iff.mp H
                                obtain ⟨t200, A420, H⟩ := H
                                replace H : (if t200 = true then ((incunableref42_Lot_Op.f k3 x197000_3 a1_0 a1_1 a1_2 a1_3 a1_4 a1_5 a1_6).bind fun bt201 => ((incunableref34_Same.f k3 ((rd_T43 t187 x101_3).f0) ((rd_T43 t187 x101_3).f1) ((rd_T43 t187 x101_3).f2) bt201.1 bt201.2.1 bt201.2.2.1).bind fun t207 => (if t207 = true then ((op_Right.f k3 ((rd_T43 t187 x101_3).f0) ((rd_T43 t187 x101_3).f1) ((rd_T43 t187 x101_3).f2)).bind fun t208 => (if t208 = true then (if ((rd_T43 t187 x101_3).f1) ≥ a1_1 then (none) else (incunablelaw42_LotOps.l0 k3 t191 t187 (t187.length : Int) (wrap64 (x101_3 + 1)) a1_0 a1_1 a1_2 a1_3 a1_4 a1_5 a1_6 bt201.2.2.2)) else (none))) else (none)))) else (none)) = some r := H
                                have A42 := Aside0.mk A420
                                clear A420
                                by_cases c43 : t200 = true
                                · subst c43
                                  have H1 : ((incunableref42_Lot_Op.f k3 x197000_3 a1_0 a1_1 a1_2 a1_3 a1_4 a1_5 a1_6).bind fun bt201 => ((incunableref34_Same.f k3 ((rd_T43 t187 x101_3).f0) ((rd_T43 t187 x101_3).f1) ((rd_T43 t187 x101_3).f2) bt201.1 bt201.2.1 bt201.2.2.1).bind fun t207 => (if t207 = true then ((op_Right.f k3 ((rd_T43 t187 x101_3).f0) ((rd_T43 t187 x101_3).f1) ((rd_T43 t187 x101_3).f2)).bind fun t208 => (if t208 = true then (if ((rd_T43 t187 x101_3).f1) ≥ a1_1 then (none) else (incunablelaw42_LotOps.l0 k3 t191 t187 (t187.length : Int) (wrap64 (x101_3 + 1)) a1_0 a1_1 a1_2 a1_3 a1_4 a1_5 a1_6 bt201.2.2.2)) else (none))) else (none)))) = some r := by rw [if_pos rfl] at H; exact H
                                  clear H
                                  have H := H1
                                  clear H1
                                  replace H := Option.bind_eq_some_iff.mp H
                                  obtain ⟨⟨t201, t202, t203, t206⟩, A440, H⟩ := H
                                  replace H : ((incunableref34_Same.f k3 ((rd_T43 t187 x101_3).f0) ((rd_T43 t187 x101_3).f1) ((rd_T43 t187 x101_3).f2) t201 t202 t203).bind fun t207 => (if t207 = true then ((op_Right.f k3 ((rd_T43 t187 x101_3).f0) ((rd_T43 t187 x101_3).f1) ((rd_T43 t187 x101_3).f2)).bind fun t208 => (if t208 = true then (if ((rd_T43 t187 x101_3).f1) ≥ a1_1 then (none) else (incunablelaw42_LotOps.l0 k3 t191 t187 (t187.length : Int) (wrap64 (x101_3 + 1)) a1_0 a1_1 a1_2 a1_3 a1_4 a1_5 a1_6 t206)) else (none))) else (none))) = some r := H
                                  have A44 := Aside0.mk A440
                                  clear A440
                                  replace H := Option.bind_eq_some_iff.mp H
                                  obtain ⟨t207, A450, H⟩ := H
                                  replace H : (if t207 = true then ((op_Right.f k3 ((rd_T43 t187 x101_3).f0) ((rd_T43 t187 x101_3).f1) ((rd_T43 t187 x101_3).f2)).bind fun t208 => (if t208 = true then (if ((rd_T43 t187 x101_3).f1) ≥ a1_1 then (none) else (incunablelaw42_LotOps.l0 k3 t191 t187 (t187.length : Int) (wrap64 (x101_3 + 1)) a1_0 a1_1 a1_2 a1_3 a1_4 a1_5 a1_6 t206)) else (none))) else (none)) = some r := H
                                  have A45 := Aside0.mk A450
                                  clear A450
                                  by_cases c46 : t207 = true
                                  · subst c46
                                    have H1 : ((op_Right.f k3 ((rd_T43 t187 x101_3).f0) ((rd_T43 t187 x101_3).f1) ((rd_T43 t187 x101_3).f2)).bind fun t208 => (if t208 = true then (if ((rd_T43 t187 x101_3).f1) ≥ a1_1 then (none) else (incunablelaw42_LotOps.l0 k3 t191 t187 (t187.length : Int) (wrap64 (x101_3 + 1)) a1_0 a1_1 a1_2 a1_3 a1_4 a1_5 a1_6 t206)) else (none))) = some r := by rw [if_pos rfl] at H; exact H
                                    clear H
                                    have H := H1
                                    clear H1
                                    replace H := Option.bind_eq_some_iff.mp H
                                    obtain ⟨t208, A470, H⟩ := H
                                    replace H : (if t208 = true then (if ((rd_T43 t187 x101_3).f1) ≥ a1_1 then (none) else (incunablelaw42_LotOps.l0 k3 t191 t187 (t187.length : Int) (wrap64 (x101_3 + 1)) a1_0 a1_1 a1_2 a1_3 a1_4 a1_5 a1_6 t206)) else (none)) = some r := H
                                    have A47 := Aside0.mk A470
                                    clear A470
                                    by_cases c48 : t208 = true
                                    · subst c48
                                      have H1 : (if ((rd_T43 t187 x101_3).f1) ≥ a1_1 then (none) else (incunablelaw42_LotOps.l0 k3 t191 t187 (t187.length : Int) (wrap64 (x101_3 + 1)) a1_0 a1_1 a1_2 a1_3 a1_4 a1_5 a1_6 t206)) = some r := by rw [if_pos rfl] at H; exact H
                                      clear H
                                      have H := H1
                                      clear H1
                                      by_cases c49 : ((rd_T43 t187 x101_3).f1) ≥ a1_1
                                      · rw [if_pos c49] at H
                                        exact absurd H (by simp)
                                      · rw [if_neg c49] at H
                                        have c49b0 : decide (a1_1 ≤ ((rd_T43 t187 x101_3).f1)) = false := decide_eq_false c49
                                        clear c49
                                        have H' := Aside0.mk H
                                        clear H
                                        have p197 : 0 ≤ (x101_3 : Int) := of_decide_eq_true (by first | (with_reducible assumption) | assumption)
                                        have q197 : x101_3 < (t187.length : Int) := of_decide_eq_true (by first | (with_reducible assumption) | assumption)
                                        obtain ⟨ad197, A197_2, c197_2, e197, hx197_0, hx197_1, hx197_2, hl197_2, hi197_2⟩ := at_T43 (Kd.S_reads' HO_99.out).2.2 x101_3 p197 q197
                                        cases e197
                                        obtain ⟨ce197, hce197, hMe197, hcc197⟩ := Kd.S_get HO_99.out z43 x101_3 p197 (by first | exact q197 | exact of_decide_eq_true (by first | (with_reducible assumption) | assumption) | (have e_ := (Kd.S_reads' HO_99.out).1; omega))
                                        obtain ⟨ve197_2, rfl, ge197_2⟩ := k43_openM hMe197
                                        have hv197_2 := hcc197 2 _ rfl
                                        rw [add_field _ _ 2 (by omega)] at hv197_2
                                        replace hv197_2 := Option.some.inj (hv197_2.symm.trans hx197_2)
                                        rw [hv197_2] at ge197_2
                                        have HL197_2 := Aside0.mk (show Kd.R (Kd.int .u8) 5 _ _ _ _ ((rd_T43 t187 x101_3).f2) from ge197_2)
                                        clear hv197_2 ge197_2
                                        clear hcc197 hce197
                                        have HR197_2 := Aside0.mk hi197_2
                                        have HC197_2 := Aside0.mk hl197_2
                                        clear hi197_2 hl197_2
                                        replace p197 := eq_true p197
                                        replace q197 := eq_true q197
                                        try go_wp2_with (first | ((with_reducible refine gate_dst (N := 14) rfl ?_); (try (refine gate_guard (by rfl) ?_; dsimp only)); refine box_event ?hg (N := 14) ?hd (cs := #[.int .i64 0, .int .i64 0, .slice none 0 0]) (t := 43) ?hr ?_; (case hd => rfl); (case hg => rfl); (case hr => first | (go_simp; done) | (go_simp; rfl)); intro gb198 hg w62 hbox hb; have n0_ := Aside0.mk (Kd.S_below (Kd.S_elderB (by (with_reducible repeat (first | apply Kd.S_alloc | apply Kd.S_drewN | apply Kd.S_drew)); exact HO_10.out) gb198 (Nat.le_of_eq hg.symm)) hb); have n1_ := Aside0.mk (Kd.S_below (Kd.S_elderB (by (with_reducible repeat (first | apply Kd.S_alloc | apply Kd.S_drewN | apply Kd.S_drew)); exact HO_99.out) gb198 (Nat.le_of_eq hg.symm)) hb); have n2_ := Aside0.mk (Kd.R_below (by (with_reducible repeat (first | apply Kd.R_alloc | apply Kd.R_drewN | apply Kd.R_drew)); exact HL197_2.out) hb); have n3_ := Aside0.mk (blk_below (g := gb185) (o := .cells #[.int .i64 a1_0, .int .i64 a1_1, .int .i64 a1_2, .int .i64 a1_3, .int .i64 a1_4, .int .i64 a1_5, .int .i64 a1_6] 35 (0, 0)) (by (with_reducible repeat (first | refine blk_drewN ?_ _ | refine blk_drew ?_ | refine blk_alloc ?_ _)); exact BK185.out) hb); have n4_ := Aside0.mk (IsS30.below (by repeat (first | (with_reducible first | exact HI196.out | apply IsS30.alloc | apply IsS30.drewN | apply IsS30.drew | apply IsS30.set_0 | refine IsS30.far ?_ NB196_185.out _) | exact HI196.out)) hb); have n5_ := Aside0.mk (Kd.C_below (by repeat (first | (with_reducible exact HR197_2.out) | (with_reducible refine Kd.C_alloc ?_ _) | (with_reducible refine Kd.C_drewN ?_ _) | (with_reducible refine Kd.C_drew ?_) | exact HR197_2.out)) hb); have n6_ := Aside0.mk (below_step (by repeat (first | (with_reducible first | exact HB.out | apply below_alloc | apply pw_below_drewN | apply below_drew1 | refine below_set ?_ (IsS30.ge HI196.out) | refine below_set ?_ GE185.out) | exact HB.out)) hb); have n7_ := Aside0.mk (hbox); have n8_ := Aside0.mk ((by rw [hg]; exact (below_size (by repeat (first | (with_reducible first | exact HB.out | apply below_alloc | apply pw_below_drewN | apply below_drew1 | refine below_set ?_ (IsS30.ge HI196.out) | refine below_set ?_ GE185.out) | exact HB.out))) : w.heap.size ≤ gb198)); have n9_ := Aside0.mk ((by rw [hg]; exact (below_size (by repeat (first | (with_reducible first | exact HB.out | apply below_alloc | apply pw_below_drewN | apply below_drew1 | refine below_set ?_ (IsS30.ge HI196.out) | refine below_set ?_ GE185.out) | exact HB.out))) : w.heap.size ≤ gb198)); have n10_ := Aside0.mk ((by rw [hg]; exact Nat.ne_of_lt (blk_lt (g := gb185) (o := .cells #[.int .i64 a1_0, .int .i64 a1_1, .int .i64 a1_2, .int .i64 a1_3, .int .i64 a1_4, .int .i64 a1_5, .int .i64 a1_6] 35 (0, 0)) (by (with_reducible repeat (first | refine blk_drewN ?_ _ | refine blk_drew ?_ | refine blk_alloc ?_ _)); exact BK185.out)) : gb185 ≠ gb198)); have n11_ := Aside0.mk ((by rw [hg]; exact Nat.ne_of_gt (blk_lt (g := gb185) (o := .cells #[.int .i64 a1_0, .int .i64 a1_1, .int .i64 a1_2, .int .i64 a1_3, .int .i64 a1_4, .int .i64 a1_5, .int .i64 a1_6] 35 (0, 0)) (by (with_reducible repeat (first | refine blk_drewN ?_ _ | refine blk_drew ?_ | refine blk_alloc ?_ _)); exact BK185.out)) : gb198 ≠ gb185)); have n12_ := Aside0.mk ((by rw [hg]; exact Nat.ne_of_lt (IsS30.lt (show IsS30 w _ gb196 x197000_3 from by repeat (first | (with_reducible first | exact HI196.out | apply IsS30.alloc | apply IsS30.drewN | apply IsS30.drew | apply IsS30.set_0 | refine IsS30.far ?_ NB196_185.out _) | exact HI196.out))) : gb196 ≠ gb198)); have n13_ := Aside0.mk ((by rw [hg]; exact Nat.ne_of_gt (IsS30.lt (show IsS30 w _ gb196 x197000_3 from by repeat (first | (with_reducible first | exact HI196.out | apply IsS30.alloc | apply IsS30.drewN | apply IsS30.drew | apply IsS30.set_0 | refine IsS30.far ?_ NB196_185.out _) | exact HI196.out))) : gb198 ≠ gb196)); clear HO_10; clear HO_99; clear HL197_2; clear BK185; clear HI196; clear HR197_2; clear HB; have HO_10 := n0_; have HO_99 := n1_; have HL197_2 := n2_; have BK185 := n3_; have HI196 := n4_; have HR197_2 := n5_; have HB := n6_; have BK198 := n7_; have GW198 := n8_; have GE198 := n9_; have NB185_198 := n10_; have NB198_185 := n11_; have NB196_198 := n12_; have NB198_196 := n13_; clear n0_ n1_ n2_ n3_ n4_ n5_ n6_ n7_ n8_ n9_ n10_ n11_ n12_ n13_; clear hb hbox hg; have hnb63 := NB198_185.out; have hnc63 := NB185_198.out; have hnb64 := NB198_196.out; have hnc64 := NB196_198.out; have hcz65_0 : w62.cell? ⟨gb198, 0, none⟩ = some (.int .i64 0) := (blk_cell BK198.out 0).trans rfl; have hcz65_1 : w62.cell? ⟨gb198, 1, none⟩ = some (.int .i64 0) := (blk_cell BK198.out 1).trans rfl; have hcz65_2 : w62.cell? ⟨gb198, 2, none⟩ = some (.slice none 0 0) := (blk_cell BK198.out 2).trans rfl; have hfz65_0 := blk_frozen BK198.out 0; have hfz65_1 := blk_frozen BK198.out 1; have hfz65_2 := blk_frozen BK198.out 2))
                                        have n0_ : Aside0 (Kd.S k43 43 (((w62.setCell ⟨gb198, 0, none⟩ (.int .i64 ((rd_T43 t187 x101_3).f0))).setCell ⟨gb198, 1, none⟩ (.int .i64 ((rd_T43 t187 x101_3).f1))).setCell ⟨gb198, 2, none⟩ (.slice A197_2 ((rd_T43 t187 x101_3).f2).length c197_2)) w.heap.size (fun k_ => some k_ ≠ (.slice (some ad197) t187.length co37 : Value).ownBlock ∧ k_ ≠ gb198) v192 t191) := ⟨by (with_reducible repeat (first | apply Kd.S_alloc | apply Kd.S_drewN | apply Kd.S_drew)); exact Kd.S_mono (Kd.S_far (p := ⟨gb198, 2, none⟩) (Kd.S_far (p := ⟨gb198, 1, none⟩) (Kd.S_far (p := ⟨gb198, 0, none⟩) (Kd.S_mono HO_10.out (fun k_ hk => (⟨hk, hk.2⟩ : _ ∧ k_ ≠ gb198))) (fun _ hk => hk.2) (.int .i64 ((rd_T43 t187 x101_3).f0))) (fun _ hk => hk.2) (.int .i64 ((rd_T43 t187 x101_3).f1))) (fun _ hk => hk.2) (.slice A197_2 ((rd_T43 t187 x101_3).f2).length c197_2)) (fun _ hk => ⟨hk.1.1, hk.1.2⟩)⟩
                                        have n1_ : Aside0 (Kd.S k43 43 (((w62.setCell ⟨gb198, 0, none⟩ (.int .i64 ((rd_T43 t187 x101_3).f0))).setCell ⟨gb198, 1, none⟩ (.int .i64 ((rd_T43 t187 x101_3).f1))).setCell ⟨gb198, 2, none⟩ (.slice A197_2 ((rd_T43 t187 x101_3).f2).length c197_2)) w.heap.size (fun k_ => some k_ ≠ (v192 : Value).ownBlock ∧ k_ ≠ gb198) (.slice (some ad197) t187.length co37) t187) := ⟨by (with_reducible repeat (first | apply Kd.S_alloc | apply Kd.S_drewN | apply Kd.S_drew)); exact Kd.S_mono (Kd.S_far (p := ⟨gb198, 2, none⟩) (Kd.S_far (p := ⟨gb198, 1, none⟩) (Kd.S_far (p := ⟨gb198, 0, none⟩) (Kd.S_mono HO_99.out (fun k_ hk => (⟨hk, hk.2⟩ : _ ∧ k_ ≠ gb198))) (fun _ hk => hk.2) (.int .i64 ((rd_T43 t187 x101_3).f0))) (fun _ hk => hk.2) (.int .i64 ((rd_T43 t187 x101_3).f1))) (fun _ hk => hk.2) (.slice A197_2 ((rd_T43 t187 x101_3).f2).length c197_2)) (fun _ hk => ⟨hk.1.1, hk.1.2⟩)⟩
                                        have n2_ : Aside0 (Kd.R (Kd.int .u8) 5 (((w62.setCell ⟨gb198, 0, none⟩ (.int .i64 ((rd_T43 t187 x101_3).f0))).setCell ⟨gb198, 1, none⟩ (.int .i64 ((rd_T43 t187 x101_3).f1))).setCell ⟨gb198, 2, none⟩ (.slice A197_2 ((rd_T43 t187 x101_3).f2).length c197_2)) w.heap.size (fun k_ => some k_ ≠ (v192 : Value).ownBlock ∧ some k_ ≠ (.slice (some ad197) t187.length co37 : Value).ownBlock) (.slice A197_2 ((rd_T43 t187 x101_3).f2).length c197_2) ((rd_T43 t187 x101_3).f2)) := ⟨by (with_reducible repeat (first | apply Kd.R_alloc | apply Kd.R_drewN | apply Kd.R_drew)); exact Kd.R_mono (Kd.R_far (p := ⟨gb198, 2, none⟩) (Kd.R_far (p := ⟨gb198, 1, none⟩) (Kd.R_far (p := ⟨gb198, 0, none⟩) (Kd.R_types HL197_2.out BK198.out (by decide)) (fun _ hk => hk.2) (.int .i64 ((rd_T43 t187 x101_3).f0))) (fun _ hk => hk.2) (.int .i64 ((rd_T43 t187 x101_3).f1))) (fun _ hk => hk.2) (.slice A197_2 ((rd_T43 t187 x101_3).f2).length c197_2)) (fun _ hk => ⟨hk.1.1, hk.1.2⟩)⟩
                                        have n3_ : Aside0 ((((w62.setCell ⟨gb198, 0, none⟩ (.int .i64 ((rd_T43 t187 x101_3).f0))).setCell ⟨gb198, 1, none⟩ (.int .i64 ((rd_T43 t187 x101_3).f1))).setCell ⟨gb198, 2, none⟩ (.slice A197_2 ((rd_T43 t187 x101_3).f2).length c197_2)).heap[gb185]? = some (.cells #[.int .i64 a1_0, .int .i64 a1_1, .int .i64 a1_2, .int .i64 a1_3, .int .i64 a1_4, .int .i64 a1_5, .int .i64 a1_6] 35 (0, 0))) := ⟨by (with_reducible repeat (first | refine blk_drewN ?_ _ | refine blk_drew ?_ | refine blk_alloc ?_ _)); refine blk_far ?_ NB185_198.out _; (with_reducible repeat (first | refine blk_drewN ?_ _ | refine blk_drew ?_ | refine blk_alloc ?_ _)); refine blk_far ?_ NB185_198.out _; (with_reducible repeat (first | refine blk_drewN ?_ _ | refine blk_drew ?_ | refine blk_alloc ?_ _)); refine blk_far ?_ NB185_198.out _; (with_reducible repeat (first | refine blk_drewN ?_ _ | refine blk_drew ?_ | refine blk_alloc ?_ _)); exact BK185.out⟩
                                        have n4_ : Aside0 ((((w62.setCell ⟨gb198, 0, none⟩ (.int .i64 ((rd_T43 t187 x101_3).f0))).setCell ⟨gb198, 1, none⟩ (.int .i64 ((rd_T43 t187 x101_3).f1))).setCell ⟨gb198, 2, none⟩ (.slice A197_2 ((rd_T43 t187 x101_3).f2).length c197_2)).heap[gb198]? = some (.cells #[.int .i64 ((rd_T43 t187 x101_3).f0), .int .i64 ((rd_T43 t187 x101_3).f1), .slice A197_2 ((rd_T43 t187 x101_3).f2).length c197_2] 43 (0, 0))) := ⟨by (with_reducible repeat (first | refine blk_drewN ?_ _ | refine blk_drew ?_ | refine blk_alloc ?_ _)); refine blk_put (cs := #[.int .i64 ((rd_T43 t187 x101_3).f0), .int .i64 ((rd_T43 t187 x101_3).f1), .slice none 0 0]) ?_ 2 _ rfl; (with_reducible repeat (first | refine blk_drewN ?_ _ | refine blk_drew ?_ | refine blk_alloc ?_ _)); refine blk_put (cs := #[.int .i64 ((rd_T43 t187 x101_3).f0), .int .i64 0, .slice none 0 0]) ?_ 1 _ rfl; (with_reducible repeat (first | refine blk_drewN ?_ _ | refine blk_drew ?_ | refine blk_alloc ?_ _)); refine blk_put (cs := #[.int .i64 0, .int .i64 0, .slice none 0 0]) ?_ 0 _ rfl; (with_reducible repeat (first | refine blk_drewN ?_ _ | refine blk_drew ?_ | refine blk_alloc ?_ _)); exact BK198.out⟩
                                        have n5_ : Aside0 (IsS30 w (((w62.setCell ⟨gb198, 0, none⟩ (.int .i64 ((rd_T43 t187 x101_3).f0))).setCell ⟨gb198, 1, none⟩ (.int .i64 ((rd_T43 t187 x101_3).f1))).setCell ⟨gb198, 2, none⟩ (.slice A197_2 ((rd_T43 t187 x101_3).f2).length c197_2)) gb196 x197000_3) := ⟨by repeat (first | (with_reducible first | exact HI196.out | apply IsS30.alloc | apply IsS30.drewN | apply IsS30.drew | apply IsS30.set_0 | refine IsS30.far ?_ NB196_185.out _ | refine IsS30.far ?_ NB196_198.out _) | exact HI196.out)⟩
                                        have n6_ : Aside0 (Below w.heap.size w (((w62.setCell ⟨gb198, 0, none⟩ (.int .i64 ((rd_T43 t187 x101_3).f0))).setCell ⟨gb198, 1, none⟩ (.int .i64 ((rd_T43 t187 x101_3).f1))).setCell ⟨gb198, 2, none⟩ (.slice A197_2 ((rd_T43 t187 x101_3).f2).length c197_2))) := ⟨by repeat (first | (with_reducible first | exact HB.out | apply below_alloc | apply pw_below_drewN | apply below_drew1 | refine below_set ?_ (IsS30.ge HI196.out) | refine below_set ?_ GE185.out | refine below_set ?_ GE198.out) | exact HB.out)⟩
                                        (try clear HO_10)
                                        (try clear HO_99)
                                        (try clear HL197_2)
                                        (try clear BK185)
                                        (try clear BK198)
                                        (try clear HI196)
                                        (try clear HB)
                                        generalize (((w62.setCell ⟨gb198, 0, none⟩ (.int .i64 ((rd_T43 t187 x101_3).f0))).setCell ⟨gb198, 1, none⟩ (.int .i64 ((rd_T43 t187 x101_3).f1))).setCell ⟨gb198, 2, none⟩ (.slice A197_2 ((rd_T43 t187 x101_3).f2).length c197_2)) = w66 at n0_ n1_ n2_ n3_ n4_ n5_ n6_ ⊢
                                        have HO_10 := n0_
                                        have HO_99 := n1_
                                        have HL197_2 := n2_
                                        have BK185 := n3_
                                        have BK198 := n4_
                                        have HI196 := n5_
                                        have HB := n6_
                                        clear n0_ n1_ n2_ n3_ n4_ n5_ n6_
                                        have n0_ := Aside0.mk (Kd.S_drew HO_10.out)
                                        have n1_ := Aside0.mk (Kd.S_drew HO_99.out)
                                        have n2_ := Aside0.mk (Kd.R_drew HL197_2.out)
                                        have n3_ := Aside0.mk (blk_drew BK185.out)
                                        have n4_ := Aside0.mk (blk_drew BK198.out)
                                        have n5_ := Aside0.mk (IsS30.drew HI196.out)
                                        have n6_ := Aside0.mk (below_drew1 HB.out)
                                        clear HO_10
                                        clear HO_99
                                        clear HL197_2
                                        clear BK185
                                        clear BK198
                                        clear HI196
                                        clear HB
                                        have HO_10 := n0_
                                        have HO_99 := n1_
                                        have HL197_2 := n2_
                                        have BK185 := n3_
                                        have BK198 := n4_
                                        have HI196 := n5_
                                        have HB := n6_
                                        clear n0_ n1_ n2_ n3_ n4_ n5_ n6_
                                        obtain ⟨Ao68, co68, eo68⟩ := Kd.S_slice HO_10.out
                                        (first | subst eo68 | (injection eo68 with f1_ f2_ f3_; have f4_ := f1_.symm; have f5_ := f3_.symm; clear f1_ f2_ f3_; subst f4_; subst f5_))
                                        have p199 : 0 ≤ (x101_3 : Int) := of_decide_eq_true (by first | (with_reducible assumption) | assumption)
                                        have q199 : x101_3 < (t191.length : Int) := of_decide_eq_true (by first | (with_reducible assumption) | assumption)
                                        obtain ⟨ad199, A199_2, c199_2, e199, hx199_0, hx199_1, hx199_2, hl199_2, hi199_2⟩ := at_T43 (Kd.S_reads' HO_10.out).2.2 x101_3 p199 q199
                                        cases e199
                                        obtain ⟨ce199, hce199, hMe199, hcc199⟩ := Kd.S_get HO_10.out z43 x101_3 p199 (by first | exact q199 | exact of_decide_eq_true (by first | (with_reducible assumption) | assumption) | (have e_ := (Kd.S_reads' HO_10.out).1; omega))
                                        obtain ⟨ve199_2, rfl, ge199_2⟩ := k43_openM hMe199
                                        have hv199_2 := hcc199 2 _ rfl
                                        rw [add_field _ _ 2 (by omega)] at hv199_2
                                        replace hv199_2 := Option.some.inj (hv199_2.symm.trans hx199_2)
                                        rw [hv199_2] at ge199_2
                                        have HL199_2 := Aside0.mk (show Kd.R (Kd.int .u8) 5 _ _ _ _ ((rd_T43 t191 x101_3).f2) from ge199_2)
                                        clear hv199_2 ge199_2
                                        clear hcc199 hce199
                                        have HR199_2 := Aside0.mk hi199_2
                                        have HC199_2 := Aside0.mk hl199_2
                                        clear hi199_2 hl199_2
                                        replace p199 := eq_true p199
                                        replace q199 := eq_true q199
                                        refine start_ (n := 27) (S := fun w' => w'.cell? ⟨gb198, 0, none⟩ = some (.int .i64 ((rd_T43 t187 x101_3).f0)) ∧ w'.cell? ⟨gb198, 1, none⟩ = some (.int .i64 ((rd_T43 t187 x101_3).f1)) ∧ w'.cell? ⟨gb198, 2, none⟩ = some (.slice A197_2 ((rd_T43 t187 x101_3).f2).length c197_2) ∧ w'.cell? ⟨gb185, 0, none⟩ = some (.int .i64 a1_0) ∧ w'.cell? ⟨gb185, 1, none⟩ = some (.int .i64 a1_1) ∧ w'.cell? ⟨gb185, 2, none⟩ = some (.int .i64 a1_2) ∧ w'.cell? ⟨gb185, 3, none⟩ = some (.int .i64 a1_3) ∧ w'.cell? ⟨gb185, 4, none⟩ = some (.int .i64 a1_4) ∧ w'.cell? ⟨gb185, 5, none⟩ = some (.int .i64 a1_5) ∧ w'.cell? ⟨gb185, 6, none⟩ = some (.int .i64 a1_6) ∧ w'.cell? (ad199.add ((x101_3).toNat * 3)) = some (.int .i64 ((rd_T43 t191 x101_3).f0)) ∧ w'.cell? ⟨(ad199.add ((x101_3).toNat * 3)).block, (ad199.add ((x101_3).toNat * 3)).off + 1, none⟩ = some (.int .i64 ((rd_T43 t191 x101_3).f1)) ∧ w'.cell? ⟨(ad199.add ((x101_3).toNat * 3)).block, (ad199.add ((x101_3).toNat * 3)).off + 2, none⟩ = some (.slice A199_2 ((rd_T43 t191 x101_3).f2).length c199_2)) (ds := []) #[false, false, false, false, false, false, false, false, false, false, false, false, false, false, false, false, false, false, false, false, false, false, false, false, false, false, false] (by kernel_rfl) rfl rfl ⟨(blk_cell BK198.out 0).trans rfl, (blk_cell BK198.out 1).trans rfl, (blk_cell BK198.out 2).trans rfl, (blk_cell BK185.out 0).trans rfl, (blk_cell BK185.out 1).trans rfl, (blk_cell BK185.out 2).trans rfl, (blk_cell BK185.out 3).trans rfl, (blk_cell BK185.out 4).trans rfl, (blk_cell BK185.out 5).trans rfl, (blk_cell BK185.out 6).trans rfl, hx199_0, hx199_1, hx199_2⟩ (fun hHeld => ?_); refine with_tabW incunablelaw42_LotOps.tab19 incunablelaw42_LotOps.bits19 (fun HT_ HW_ => ?_)
                                        generalize w66.drew = w67 at HO_10 HO_99 HL197_2 BK185 BK198 HI196 HB HL199_2 HR199_2 hx199_0 hx199_1 hx199_2 hHeld ⊢
                                        refine pure_ (i := 1) (N := some 107) (v := ?_) (a' := ?_) #[false, true, false, false, false, false, false, false, false, false, false, false, false, false, false, false, false, false, false, false, false, false, false, false, false, false, false] rfl rfl (any_of HT_.out (by kernel_rfl)) (fun _ _ _ h => h) (Or.inl ⟨by rfl, ?_⟩) ?_ ?_
                                        rotate_left
                                        · intro w'
                                          go_simp
                                          with_reducible rfl
                                        rotate_left
                                        · simp only [Act.put, List.setIfInBounds_toArray, List.set_cons_zero, List.set_cons_succ, i64_w, i32_w]
                                          rfl
                                        refine pure_ (i := 2) (N := some 108) (v := ?_) (a' := ?_) #[false, true, true, false, false, false, false, false, false, false, false, false, false, false, false, false, false, false, false, false, false, false, false, false, false, false, false] rfl rfl (any_of HT_.out (by kernel_rfl)) (fun _ _ _ h => h) (Or.inl ⟨by rfl, ?_⟩) ?_ ?_
                                        rotate_left
                                        · intro w'
                                          go_simp
                                          with_reducible rfl
                                        rotate_left
                                        · simp only [Act.put, List.setIfInBounds_toArray, List.set_cons_zero, List.set_cons_succ, i64_w, i32_w]
                                          rfl
                                        refine pure_ (i := 3) (N := some 109) (v := ?_) (a' := ?_) #[false, true, true, true, false, false, false, false, false, false, false, false, false, false, false, false, false, false, false, false, false, false, false, false, false, false, false] rfl rfl (any_of HT_.out (by kernel_rfl)) (fun _ _ _ h => h) (Or.inl ⟨by rfl, ?_⟩) ?_ ?_
                                        rotate_left
                                        · intro w'
                                          go_simp
                                          with_reducible rfl
                                        rotate_left
                                        · simp only [Act.put, List.setIfInBounds_toArray, List.set_cons_zero, List.set_cons_succ, i64_w, i32_w]
                                          rfl
                                        refine take_ (i := 0) (N := some 106) (v := ?_) (a' := ?_) #[true, true, true, true, false, false, false, false, false, false, false, false, false, false, false, false, false, false, false, false, false, false, false, false, false, false, false] rfl rfl (take_ofW HT_.out HW_.out (by kernel_rfl)) (fun _ _ _ h => h) (Or.inl ⟨by rfl, ?_⟩) hHeld ?_ ?_
                                        rotate_left
                                        · rintro w' ⟨s0, s1, s2, s3, s4, s5, s6, s7, s8, s9, s10, s11, s12⟩
                                          go_simp
                                          with_reducible rfl
                                        rotate_left
                                        · simp only [Act.put, List.setIfInBounds_toArray, List.set_cons_zero, List.set_cons_succ, i64_w, i32_w]
                                          rfl
                                        refine take_ (i := 4) (N := some 110) (v := ?_) (a' := ?_) #[true, true, true, true, true, false, false, false, false, false, false, false, false, false, false, false, false, false, false, false, false, false, false, false, false, false, false] rfl rfl (take_ofW HT_.out HW_.out (by kernel_rfl)) (fun _ _ _ h => h) (Or.inl ⟨by rfl, ?_⟩) hHeld ?_ ?_
                                        rotate_left
                                        · rintro w' ⟨s0, s1, s2, s3, s4, s5, s6, s7, s8, s9, s10, s11, s12⟩
                                          go_simp
                                          with_reducible rfl
                                        rotate_left
                                        · simp only [Act.put, List.setIfInBounds_toArray, List.set_cons_zero, List.set_cons_succ, i64_w, i32_w]
                                          rfl
                                        refine one_ (i := 5) (N := some 111) #[true, true, true, true, true, true, false, false, false, false, false, false, false, false, false, false, false, false, false, false, false, false, false, false, false, false, false] rfl rfl (one_of HT_.out (by kernel_rfl)) (by decide) (fun K hK => ?_)
                                        refine goes_ Try.func14 (by kernel_rfl) rfl #[.agg #[.int .i64 ((rd_T43 t187 x101_3).f0), .int .i64 ((rd_T43 t187 x101_3).f1), .slice A197_2 ((rd_T43 t187 x101_3).f2).length c197_2], .agg #[.int .i64 ((rd_T43 t191 x101_3).f0), .int .i64 ((rd_T43 t191 x101_3).f1), .slice A199_2 ((rd_T43 t191 x101_3).f2).length c199_2]] (by rfl) rfl rfl (by (try simp only [List.map_toArray, List.map_cons, List.map_nil]); first | done | rfl | (simp only [List.length_drop, List.length_take]; rfl)) ?_
                                        with_reducible refine (incunableref34_Same.calls k3 ((rd_T43 t187 x101_3).f0) ((rd_T43 t187 x101_3).f1) _ _ ((rd_T43 t187 x101_3).f2) ((rd_T43 t191 x101_3).f0) ((rd_T43 t191 x101_3).f1) _ _ ((rd_T43 t191 x101_3).f2) true _ ?side1 ?side2 ?side3 ?side4 A42.out).mono ?_
                                        (case side1 => repeat (first | exact ((Kd.R_reads' (by (with_reducible repeat (first | apply Kd.R_alloc | apply Kd.R_drewN | apply Kd.R_drew)); exact HL197_2.out)).2.2) | (with_reducible refine Kd.C_alloc ?_ _) | (with_reducible refine Kd.C_drewN ?_ _) | (with_reducible refine Kd.C_drew ?_)))
                                        (case side2 => exact HC197_2.out)
                                        (case side3 => repeat (first | exact (by repeat (first | (with_reducible exact HR199_2.out) | (with_reducible refine Kd.C_alloc ?_ _) | (with_reducible refine Kd.C_drewN ?_ _) | (with_reducible refine Kd.C_drew ?_) | exact HR199_2.out)) | (with_reducible refine Kd.C_alloc ?_ _) | (with_reducible refine Kd.C_drewN ?_ _) | (with_reducible refine Kd.C_drew ?_)))
                                        (case side4 => exact HC199_2.out)
                                        rintro e w69 ⟨rfl, hb⟩
                                        have HS10_ := (hb.cell (World.block_lt_of_cell? _ _ (hHeld.2.2.2.2.2.2.2.2.2.2.1))).trans (hHeld.2.2.2.2.2.2.2.2.2.2.1)
                                        have HS11_ := (hb.cell (World.block_lt_of_cell? _ _ (hHeld.2.2.2.2.2.2.2.2.2.2.2.1))).trans (hHeld.2.2.2.2.2.2.2.2.2.2.2.1)
                                        have HS12_ := (hb.cell (World.block_lt_of_cell? _ _ (hHeld.2.2.2.2.2.2.2.2.2.2.2.2))).trans (hHeld.2.2.2.2.2.2.2.2.2.2.2.2)
                                        refine ⟨_, rfl, ?_⟩
                                        have n0_ := Aside0.mk (Kd.S_below (by (with_reducible repeat (first | apply Kd.S_alloc | apply Kd.S_drewN | apply Kd.S_drew)); exact HO_10.out) hb)
                                        have n1_ := Aside0.mk (Kd.S_below (by (with_reducible repeat (first | apply Kd.S_alloc | apply Kd.S_drewN | apply Kd.S_drew)); exact HO_99.out) hb)
                                        have n2_ := Aside0.mk (Kd.R_below (by (with_reducible repeat (first | apply Kd.R_alloc | apply Kd.R_drewN | apply Kd.R_drew)); exact HL197_2.out) hb)
                                        have n3_ := Aside0.mk (Kd.R_below (by (with_reducible repeat (first | apply Kd.R_alloc | apply Kd.R_drewN | apply Kd.R_drew)); exact HL199_2.out) hb)
                                        have n4_ := Aside0.mk (blk_below (g := gb185) (o := .cells #[.int .i64 a1_0, .int .i64 a1_1, .int .i64 a1_2, .int .i64 a1_3, .int .i64 a1_4, .int .i64 a1_5, .int .i64 a1_6] 35 (0, 0)) (by (with_reducible repeat (first | refine blk_drewN ?_ _ | refine blk_drew ?_ | refine blk_alloc ?_ _)); exact BK185.out) hb)
                                        have n5_ := Aside0.mk (IsS30.below (by repeat (first | (with_reducible first | exact HI196.out | apply IsS30.alloc | apply IsS30.drewN | apply IsS30.drew | apply IsS30.set_0 | refine IsS30.far ?_ NB196_185.out _ | refine IsS30.far ?_ NB196_198.out _) | exact HI196.out)) hb)
                                        have n6_ := Aside0.mk (blk_below (g := gb198) (o := .cells #[.int .i64 ((rd_T43 t187 x101_3).f0), .int .i64 ((rd_T43 t187 x101_3).f1), .slice A197_2 ((rd_T43 t187 x101_3).f2).length c197_2] 43 (0, 0)) (by (with_reducible repeat (first | refine blk_drewN ?_ _ | refine blk_drew ?_ | refine blk_alloc ?_ _)); exact BK198.out) hb)
                                        have n7_ := Aside0.mk (Kd.C_below (by repeat (first | (with_reducible exact HR199_2.out) | (with_reducible refine Kd.C_alloc ?_ _) | (with_reducible refine Kd.C_drewN ?_ _) | (with_reducible refine Kd.C_drew ?_) | exact HR199_2.out)) hb)
                                        have n8_ := Aside0.mk (below_step (by repeat (first | (with_reducible first | exact HB.out | apply below_alloc | apply pw_below_drewN | apply below_drew1 | refine below_set ?_ (IsS30.ge HI196.out) | refine below_set ?_ GE185.out | refine below_set ?_ GE198.out) | exact HB.out)) hb)
                                        clear HO_10
                                        clear HO_99
                                        clear HL197_2
                                        clear HL199_2
                                        clear BK185
                                        clear HI196
                                        clear BK198
                                        clear HR199_2
                                        clear HB
                                        have HO_10 := n0_
                                        have HO_99 := n1_
                                        have HL197_2 := n2_
                                        have HL199_2 := n3_
                                        have BK185 := n4_
                                        have HI196 := n5_
                                        have BK198 := n6_
                                        have HR199_2 := n7_
                                        have HB := n8_
                                        clear n0_ n1_ n2_ n3_ n4_ n5_ n6_ n7_ n8_
                                        (try clear hb)
                                        (try clear hb2)
                                        (try clear hk)
                                        (try clear hi)
                                        refine hK.out _ _ ⟨(blk_cell BK198.out 0).trans rfl, (blk_cell BK198.out 1).trans rfl, (blk_cell BK198.out 2).trans rfl, (blk_cell BK185.out 0).trans rfl, (blk_cell BK185.out 1).trans rfl, (blk_cell BK185.out 2).trans rfl, (blk_cell BK185.out 3).trans rfl, (blk_cell BK185.out 4).trans rfl, (blk_cell BK185.out 5).trans rfl, (blk_cell BK185.out 6).trans rfl, HS10_, HS11_, HS12_⟩ (fun hHeld => ?_)
                                        clear hK K
                                        refine norm_ (a' := ?_) ?_ ?_
                                        rotate_left
                                        · show Act.put _ (some 111) _ = _
                                          simp only [Act.put, List.setIfInBounds_toArray, List.set_cons_zero, List.set_cons_succ, i64_w, i32_w]
                                          rfl
                                        refine pure_ (i := 6) (N := some 112) (v := ?_) (a' := ?_) #[true, true, true, true, true, true, true, false, false, false, false, false, false, false, false, false, false, false, false, false, false, false, false, false, false, false, false] rfl rfl (any_of HT_.out (by kernel_rfl)) (fun _ _ _ h => h) (Or.inl ⟨by rfl, ?_⟩) ?_ ?_
                                        rotate_left
                                        · intro w'
                                          go_simp
                                          with_reducible rfl
                                        rotate_left
                                        · simp only [Act.put, List.setIfInBounds_toArray, List.set_cons_zero, List.set_cons_succ, i64_w, i32_w]
                                          rfl
                                        refine pure_ (i := 7) (N := some 113) (v := ?_) (a' := ?_) #[true, true, true, true, true, true, true, true, false, false, false, false, false, false, false, false, false, false, false, false, false, false, false, false, false, false, false] rfl rfl (any_of HT_.out (by kernel_rfl)) (fun _ _ _ h => h) (Or.inl ⟨by rfl, ?_⟩) ?_ ?_
                                        rotate_left
                                        · intro w'
                                          go_simp
                                          with_reducible rfl
                                        rotate_left
                                        · simp only [Act.put, List.setIfInBounds_toArray, List.set_cons_zero, List.set_cons_succ, i64_w, i32_w]
                                          rfl
                                        refine pure_ (i := 9) (N := some 115) (v := ?_) (a' := ?_) #[true, true, true, true, true, true, true, true, false, true, false, false, false, false, false, false, false, false, false, false, false, false, false, false, false, false, false] rfl rfl (any_of HT_.out (by kernel_rfl)) (fun _ _ _ h => h) (Or.inl ⟨by rfl, ?_⟩) ?_ ?_
                                        rotate_left
                                        · intro w'
                                          go_simp
                                          with_reducible rfl
                                        rotate_left
                                        · simp only [Act.put, List.setIfInBounds_toArray, List.set_cons_zero, List.set_cons_succ, i64_w, i32_w]
                                          rfl
                                        refine take_ (i := 8) (N := some 114) (v := ?_) (a' := ?_) #[true, true, true, true, true, true, true, true, true, true, false, false, false, false, false, false, false, false, false, false, false, false, false, false, false, false, false] rfl rfl (take_ofW HT_.out HW_.out (by kernel_rfl)) (fun _ _ _ h => h) (Or.inl ⟨by rfl, ?_⟩) hHeld ?_ ?_
                                        rotate_left
                                        · rintro w' ⟨s0, s1, s2, s3, s4, s5, s6, s7, s8, s9, s10, s11, s12⟩
                                          go_simp
                                          with_reducible rfl
                                        rotate_left
                                        · simp only [Act.put, List.setIfInBounds_toArray, List.set_cons_zero, List.set_cons_succ, i64_w, i32_w]
                                          rfl
                                        refine take_ (i := 10) (N := some 116) (v := ?_) (a' := ?_) #[true, true, true, true, true, true, true, true, true, true, true, false, false, false, false, false, false, false, false, false, false, false, false, false, false, false, false] rfl rfl (take_ofW HT_.out HW_.out (by kernel_rfl)) (fun _ _ _ h => h) (Or.inl ⟨by rfl, ?_⟩) hHeld ?_ ?_
                                        rotate_left
                                        · rintro w' ⟨s0, s1, s2, s3, s4, s5, s6, s7, s8, s9, s10, s11, s12⟩
                                          go_simp
                                          with_reducible rfl
                                        rotate_left
                                        · simp only [Act.put, List.setIfInBounds_toArray, List.set_cons_zero, List.set_cons_succ, i64_w, i32_w]
                                          rfl
                                        refine one_ (i := 11) (N := some 117) #[true, true, true, true, true, true, true, true, true, true, true, true, false, false, false, false, false, false, false, false, false, false, false, false, false, false, false] rfl rfl (one_of HT_.out (by kernel_rfl)) (by decide) (fun K hK => ?_)
                                        refine goes_ Try.func18 (by kernel_rfl) rfl #[.pointer (some ⟨gb196, 0, none⟩), .agg #[.int .i64 a1_0, .int .i64 a1_1, .int .i64 a1_2, .int .i64 a1_3, .int .i64 a1_4, .int .i64 a1_5, .int .i64 a1_6]] (by rfl) rfl rfl (by (try simp only [List.map_toArray, List.map_cons, List.map_nil]); first | done | rfl | (simp only [List.length_drop, List.length_take]; rfl)) ?_
                                        with_reducible refine (incunableref42_Lot_Op.calls k3 gb196 x197000_3 a1_0 a1_1 a1_2 a1_3 a1_4 a1_5 a1_6 t201 t202 t203 t206 w _ ?side1 ?side2 A44.out).mono ?_
                                        (case side1 => repeat (first | (with_reducible first | exact HI196.out | apply IsS30.alloc | apply IsS30.drewN | apply IsS30.drew | apply IsS30.set_0 | refine IsS30.far ?_ NB196_185.out _ | refine IsS30.far ?_ NB196_198.out _) | exact HI196.out))
                                        (case side2 => repeat (first | (with_reducible first | exact HB.out | apply below_alloc | apply pw_below_drewN | apply below_drew1 | refine below_set ?_ (IsS30.ge HI196.out) | refine below_set ?_ GE185.out | refine below_set ?_ GE198.out) | exact HB.out))
                                        rintro e w70 ⟨v204, rfl, ho0, hi, hb, hk⟩
                                        have HS10_ := keep_cell hk (hHeld.2.2.2.2.2.2.2.2.2.2.1) (by first | (rw [add_block]; exact Kd.own_blk (IsS30.own_neS HI196.out HO_10.out (by decide))) | (show (Addr.add _ _).block ≠ _; rw [add_block]; exact Kd.own_blk (IsS30.own_neS HI196.out HO_10.out (by decide))) | exact Kd.own_blk (IsS30.own_neS HI196.out HO_10.out (by decide)))
                                        have HS11_ := keep_cell hk (hHeld.2.2.2.2.2.2.2.2.2.2.2.1) (by first | (rw [add_block]; exact Kd.own_blk (IsS30.own_neS HI196.out HO_10.out (by decide))) | (show (Addr.add _ _).block ≠ _; rw [add_block]; exact Kd.own_blk (IsS30.own_neS HI196.out HO_10.out (by decide))) | exact Kd.own_blk (IsS30.own_neS HI196.out HO_10.out (by decide)))
                                        have HS12_ := keep_cell hk (hHeld.2.2.2.2.2.2.2.2.2.2.2.2) (by first | (rw [add_block]; exact Kd.own_blk (IsS30.own_neS HI196.out HO_10.out (by decide))) | (show (Addr.add _ _).block ≠ _; rw [add_block]; exact Kd.own_blk (IsS30.own_neS HI196.out HO_10.out (by decide))) | exact Kd.own_blk (IsS30.own_neS HI196.out HO_10.out (by decide)))
                                        refine ⟨_, rfl, ?_⟩
                                        have n0_ := Aside0.mk (Kd.S_mono (Kd.S_told (Kd.S_oldK (IsS30.apartS (show IsS30 w _ gb196 x197000_3 from by repeat (first | (with_reducible first | exact HI196.out | apply IsS30.alloc | apply IsS30.drewN | apply IsS30.drew | apply IsS30.set_0 | refine IsS30.far ?_ NB196_185.out _ | refine IsS30.far ?_ NB196_198.out _) | exact HI196.out)) (by (with_reducible repeat (first | apply Kd.S_alloc | apply Kd.S_drewN | apply Kd.S_drew)); exact HO_10.out) (by decide)) hk) (Kd.R_base ho0)) (fun _ h_ => h_.1))
                                        have n1_ := Aside0.mk (Kd.S_mono (Kd.S_told (Kd.S_oldK (IsS30.apartS (show IsS30 w _ gb196 x197000_3 from by repeat (first | (with_reducible first | exact HI196.out | apply IsS30.alloc | apply IsS30.drewN | apply IsS30.drew | apply IsS30.set_0 | refine IsS30.far ?_ NB196_185.out _ | refine IsS30.far ?_ NB196_198.out _) | exact HI196.out)) (by (with_reducible repeat (first | apply Kd.S_alloc | apply Kd.S_drewN | apply Kd.S_drew)); exact HO_99.out) (by decide)) hk) (Kd.R_base ho0)) (fun _ h_ => h_.1))
                                        have n2_ := Aside0.mk (KeepBut.blk hk (g' := gb185) (o := .cells #[.int .i64 a1_0, .int .i64 a1_1, .int .i64 a1_2, .int .i64 a1_3, .int .i64 a1_4, .int .i64 a1_5, .int .i64 a1_6] 35 (0, 0)) (by (with_reducible repeat (first | refine blk_drewN ?_ _ | refine blk_drew ?_ | refine blk_alloc ?_ _)); exact BK185.out) NB185_196.out (by simp))
                                        have n3_ := Aside0.mk (Kd.R_mono (Kd.R_told (Kd.R_oldK (IsS30.apart (show IsS30 w _ gb196 x197000_3 from by repeat (first | (with_reducible first | exact HI196.out | apply IsS30.alloc | apply IsS30.drewN | apply IsS30.drew | apply IsS30.set_0 | refine IsS30.far ?_ NB196_185.out _ | refine IsS30.far ?_ NB196_198.out _) | exact HI196.out)) (by (with_reducible repeat (first | apply Kd.R_alloc | apply Kd.R_drewN | apply Kd.R_drew)); exact HL197_2.out) (by decide)) hk) (Kd.R_base ho0)) (fun _ h_ => h_.1))
                                        have n4_ := Aside0.mk (KeepBut.blk hk (g' := gb198) (o := .cells #[.int .i64 ((rd_T43 t187 x101_3).f0), .int .i64 ((rd_T43 t187 x101_3).f1), .slice A197_2 ((rd_T43 t187 x101_3).f2).length c197_2] 43 (0, 0)) (by (with_reducible repeat (first | refine blk_drewN ?_ _ | refine blk_drew ?_ | refine blk_alloc ?_ _)); exact BK198.out) NB198_196.out (by simp))
                                        have n5_ := Aside0.mk (Kd.R_mono (Kd.R_told (Kd.R_oldK (IsS30.apart (show IsS30 w _ gb196 x197000_3 from by repeat (first | (with_reducible first | exact HI196.out | apply IsS30.alloc | apply IsS30.drewN | apply IsS30.drew | apply IsS30.set_0 | refine IsS30.far ?_ NB196_185.out _ | refine IsS30.far ?_ NB196_198.out _) | exact HI196.out)) (by (with_reducible repeat (first | apply Kd.R_alloc | apply Kd.R_drewN | apply Kd.R_drew)); exact HL199_2.out) (by decide)) hk) (Kd.R_base ho0)) (fun _ h_ => h_.1))
                                        have n6_ := Aside0.mk (Kd.R_lower (Kd.R_new' (Kd.R_new' ho0 (Kd.R_lt (by (with_reducible repeat (first | apply Kd.R_alloc | apply Kd.R_drewN | apply Kd.R_drew)); exact HL197_2.out))) (Kd.R_lt (by (with_reducible repeat (first | apply Kd.R_alloc | apply Kd.R_drewN | apply Kd.R_drew)); exact HL199_2.out))) (below_size (by repeat (first | (with_reducible first | exact HB.out | apply below_alloc | apply pw_below_drewN | apply below_drew1 | refine below_set ?_ (IsS30.ge HI196.out) | refine below_set ?_ GE185.out | refine below_set ?_ GE198.out) | exact HB.out))))
                                        have n7_ := Aside0.mk (hb)
                                        have n8_ := Aside0.mk (hi)
                                        clear HO_10
                                        clear HO_99
                                        clear BK185
                                        clear HL197_2
                                        clear BK198
                                        clear HL199_2
                                        clear HB
                                        clear HI196
                                        have HO_10 := n0_
                                        have HO_99 := n1_
                                        have BK185 := n2_
                                        have HL197_2 := n3_
                                        have BK198 := n4_
                                        have HL199_2 := n5_
                                        have HO205 := n6_
                                        have HB := n7_
                                        have HI196 := n8_
                                        clear n0_ n1_ n2_ n3_ n4_ n5_ n6_ n7_ n8_
                                        (try clear hb)
                                        (try clear hb2)
                                        (try clear hk)
                                        (try clear hi)
                                        (try clear ho0)
                                        obtain ⟨Ao71, co71, eo71⟩ := Kd.R_slice HO205.out
                                        (first | subst eo71 | (injection eo71 with f1_ f2_ f3_; have f4_ := f1_.symm; have f5_ := f3_.symm; clear f1_ f2_ f3_; subst f4_; subst f5_))
                                        refine hK.out _ _ ⟨(blk_cell BK198.out 0).trans rfl, (blk_cell BK198.out 1).trans rfl, (blk_cell BK198.out 2).trans rfl, (blk_cell BK185.out 0).trans rfl, (blk_cell BK185.out 1).trans rfl, (blk_cell BK185.out 2).trans rfl, (blk_cell BK185.out 3).trans rfl, (blk_cell BK185.out 4).trans rfl, (blk_cell BK185.out 5).trans rfl, (blk_cell BK185.out 6).trans rfl, HS10_, HS11_, HS12_⟩ (fun hHeld => ?_)
                                        clear hK K
                                        refine norm_ (a' := ?_) ?_ ?_
                                        rotate_left
                                        · show Act.put _ (some 117) _ = _
                                          simp only [Act.put, List.setIfInBounds_toArray, List.set_cons_zero, List.set_cons_succ, i64_w, i32_w]
                                          rfl
                                        refine one_ (i := 12) (N := some 118) #[true, true, true, true, true, true, true, true, true, true, true, true, true, false, false, false, false, false, false, false, false, false, false, false, false, false, false] rfl rfl (one_of HT_.out (by kernel_rfl)) (by decide) (fun K hK => ?_)
                                        refine goes_ Try.func14 (by kernel_rfl) rfl #[.agg #[.int .i64 ((rd_T43 t187 x101_3).f0), .int .i64 ((rd_T43 t187 x101_3).f1), .slice A197_2 ((rd_T43 t187 x101_3).f2).length c197_2], .agg #[.int .i64 t201, .int .i64 t202, .slice Ao71 t203.length co71]] (by rfl) rfl rfl (by (try simp only [List.map_toArray, List.map_cons, List.map_nil]); first | done | rfl | (simp only [List.length_drop, List.length_take]; rfl)) ?_
                                        with_reducible refine (incunableref34_Same.calls k3 ((rd_T43 t187 x101_3).f0) ((rd_T43 t187 x101_3).f1) _ _ ((rd_T43 t187 x101_3).f2) t201 t202 _ _ t203 true _ ?side1 ?side2 ?side3 ?side4 A45.out).mono ?_
                                        (case side1 => repeat (first | exact ((Kd.R_reads' (by (with_reducible repeat (first | apply Kd.R_alloc | apply Kd.R_drewN | apply Kd.R_drew)); exact HL197_2.out)).2.2) | (with_reducible refine Kd.C_alloc ?_ _) | (with_reducible refine Kd.C_drewN ?_ _) | (with_reducible refine Kd.C_drew ?_)))
                                        (case side2 => exact HC197_2.out)
                                        (case side3 => repeat (first | exact (Kd.R_reads' HO205.out).2.2 | (with_reducible refine Kd.C_alloc ?_ _) | (with_reducible refine Kd.C_drewN ?_ _) | (with_reducible refine Kd.C_drew ?_)))
                                        (case side4 => exact (Kd.R_reads' HO205.out).2.1)
                                        rintro e w72 ⟨rfl, hb⟩
                                        have HS10_ := (hb.cell (World.block_lt_of_cell? _ _ (hHeld.2.2.2.2.2.2.2.2.2.2.1))).trans (hHeld.2.2.2.2.2.2.2.2.2.2.1)
                                        have HS11_ := (hb.cell (World.block_lt_of_cell? _ _ (hHeld.2.2.2.2.2.2.2.2.2.2.2.1))).trans (hHeld.2.2.2.2.2.2.2.2.2.2.2.1)
                                        have HS12_ := (hb.cell (World.block_lt_of_cell? _ _ (hHeld.2.2.2.2.2.2.2.2.2.2.2.2))).trans (hHeld.2.2.2.2.2.2.2.2.2.2.2.2)
                                        refine ⟨_, rfl, ?_⟩
                                        have n0_ := Aside0.mk (Kd.S_below (by (with_reducible repeat (first | apply Kd.S_alloc | apply Kd.S_drewN | apply Kd.S_drew)); exact HO_10.out) hb)
                                        have n1_ := Aside0.mk (Kd.S_below (by (with_reducible repeat (first | apply Kd.S_alloc | apply Kd.S_drewN | apply Kd.S_drew)); exact HO_99.out) hb)
                                        have n2_ := Aside0.mk (Kd.R_below (by (with_reducible repeat (first | apply Kd.R_alloc | apply Kd.R_drewN | apply Kd.R_drew)); exact HL197_2.out) hb)
                                        have n3_ := Aside0.mk (Kd.R_below (by (with_reducible repeat (first | apply Kd.R_alloc | apply Kd.R_drewN | apply Kd.R_drew)); exact HL199_2.out) hb)
                                        have n4_ := Aside0.mk (Kd.R_below (by (with_reducible repeat (first | apply Kd.R_alloc | apply Kd.R_drewN | apply Kd.R_drew)); exact HO205.out) hb)
                                        have n5_ := Aside0.mk (blk_below (g := gb185) (o := .cells #[.int .i64 a1_0, .int .i64 a1_1, .int .i64 a1_2, .int .i64 a1_3, .int .i64 a1_4, .int .i64 a1_5, .int .i64 a1_6] 35 (0, 0)) (by (with_reducible repeat (first | refine blk_drewN ?_ _ | refine blk_drew ?_ | refine blk_alloc ?_ _)); exact BK185.out) hb)
                                        have n6_ := Aside0.mk (IsS30.below (by repeat (first | (with_reducible first | exact HI196.out | apply IsS30.alloc | apply IsS30.drewN | apply IsS30.drew | apply IsS30.set_0 | refine IsS30.far ?_ NB196_185.out _ | refine IsS30.far ?_ NB196_198.out _) | exact HI196.out)) hb)
                                        have n7_ := Aside0.mk (blk_below (g := gb198) (o := .cells #[.int .i64 ((rd_T43 t187 x101_3).f0), .int .i64 ((rd_T43 t187 x101_3).f1), .slice A197_2 ((rd_T43 t187 x101_3).f2).length c197_2] 43 (0, 0)) (by (with_reducible repeat (first | refine blk_drewN ?_ _ | refine blk_drew ?_ | refine blk_alloc ?_ _)); exact BK198.out) hb)
                                        have n8_ := Aside0.mk (below_step (by repeat (first | (with_reducible first | exact HB.out | apply below_alloc | apply pw_below_drewN | apply below_drew1 | refine below_set ?_ (IsS30.ge HI196.out) | refine below_set ?_ GE185.out | refine below_set ?_ GE198.out) | exact HB.out)) hb)
                                        clear HO_10
                                        clear HO_99
                                        clear HL197_2
                                        clear HL199_2
                                        clear HO205
                                        clear BK185
                                        clear HI196
                                        clear BK198
                                        clear HB
                                        have HO_10 := n0_
                                        have HO_99 := n1_
                                        have HL197_2 := n2_
                                        have HL199_2 := n3_
                                        have HO205 := n4_
                                        have BK185 := n5_
                                        have HI196 := n6_
                                        have BK198 := n7_
                                        have HB := n8_
                                        clear n0_ n1_ n2_ n3_ n4_ n5_ n6_ n7_ n8_
                                        (try clear hb)
                                        (try clear hb2)
                                        (try clear hk)
                                        (try clear hi)
                                        refine hK.out _ _ ⟨(blk_cell BK198.out 0).trans rfl, (blk_cell BK198.out 1).trans rfl, (blk_cell BK198.out 2).trans rfl, (blk_cell BK185.out 0).trans rfl, (blk_cell BK185.out 1).trans rfl, (blk_cell BK185.out 2).trans rfl, (blk_cell BK185.out 3).trans rfl, (blk_cell BK185.out 4).trans rfl, (blk_cell BK185.out 5).trans rfl, (blk_cell BK185.out 6).trans rfl, HS10_, HS11_, HS12_⟩ (fun hHeld => ?_)
                                        clear hK K
                                        refine norm_ (a' := ?_) ?_ ?_
                                        rotate_left
                                        · show Act.put _ (some 118) _ = _
                                          simp only [Act.put, List.setIfInBounds_toArray, List.set_cons_zero, List.set_cons_succ, i64_w, i32_w]
                                          rfl
                                        refine pure_ (i := 13) (N := some 119) (v := ?_) (a' := ?_) #[true, true, true, true, true, true, true, true, true, true, true, true, true, true, false, false, false, false, false, false, false, false, false, false, false, false, false] rfl rfl (any_of HT_.out (by kernel_rfl)) (fun _ _ _ h => h) (Or.inl ⟨by rfl, ?_⟩) ?_ ?_
                                        rotate_left
                                        · intro w'
                                          go_simp
                                          with_reducible rfl
                                        rotate_left
                                        · simp only [Act.put, List.setIfInBounds_toArray, List.set_cons_zero, List.set_cons_succ, i64_w, i32_w]
                                          rfl
                                        refine pure_ (i := 14) (N := some 120) (v := ?_) (a' := ?_) #[true, true, true, true, true, true, true, true, true, true, true, true, true, true, true, false, false, false, false, false, false, false, false, false, false, false, false] rfl rfl (any_of HT_.out (by kernel_rfl)) (fun _ _ _ h => h) (Or.inl ⟨by rfl, ?_⟩) ?_ ?_
                                        rotate_left
                                        · intro w'
                                          go_simp
                                          with_reducible rfl
                                        rotate_left
                                        · simp only [Act.put, List.setIfInBounds_toArray, List.set_cons_zero, List.set_cons_succ, i64_w, i32_w]
                                          rfl
                                        refine pure_ (i := 15) (N := some 121) (v := ?_) (a' := ?_) #[true, true, true, true, true, true, true, true, true, true, true, true, true, true, true, true, false, false, false, false, false, false, false, false, false, false, false] rfl rfl (any_of HT_.out (by kernel_rfl)) (fun _ _ _ h => h) (Or.inl ⟨by rfl, ?_⟩) ?_ ?_
                                        rotate_left
                                        · intro w'
                                          go_simp
                                          with_reducible rfl
                                        rotate_left
                                        · simp only [Act.put, List.setIfInBounds_toArray, List.set_cons_zero, List.set_cons_succ, i64_w, i32_w]
                                          rfl
                                        refine take_ (i := 16) (N := some 122) (v := ?_) (a' := ?_) #[true, true, true, true, true, true, true, true, true, true, true, true, true, true, true, true, true, false, false, false, false, false, false, false, false, false, false] rfl rfl (take_ofW HT_.out HW_.out (by kernel_rfl)) (fun _ _ _ h => h) (Or.inl ⟨by rfl, ?_⟩) hHeld ?_ ?_
                                        rotate_left
                                        · rintro w' ⟨s0, s1, s2, s3, s4, s5, s6, s7, s8, s9, s10, s11, s12⟩
                                          go_simp
                                          with_reducible rfl
                                        rotate_left
                                        · simp only [Act.put, List.setIfInBounds_toArray, List.set_cons_zero, List.set_cons_succ, i64_w, i32_w]
                                          rfl
                                        refine one_ (i := 17) (N := some 123) #[true, true, true, true, true, true, true, true, true, true, true, true, true, true, true, true, true, true, false, false, false, false, false, false, false, false, false] rfl rfl (one_of HT_.out (by kernel_rfl)) (by decide) (fun K hK => ?_)
                                        refine goes_ Try.func19 (by kernel_rfl) rfl #[.agg #[.int .i64 ((rd_T43 t187 x101_3).f0), .int .i64 ((rd_T43 t187 x101_3).f1), .slice A197_2 ((rd_T43 t187 x101_3).f2).length c197_2]] (by rfl) rfl rfl (by (try simp only [List.map_toArray, List.map_cons, List.map_nil]); first | done | rfl | (simp only [List.length_drop, List.length_take]; rfl)) ?_
                                        with_reducible refine (op_Right.calls k3 ((rd_T43 t187 x101_3).f0) ((rd_T43 t187 x101_3).f1) _ _ ((rd_T43 t187 x101_3).f2) true _ ?side1 ?side2 A47.out).mono ?_
                                        (case side1 => repeat (first | exact ((Kd.R_reads' (by (with_reducible repeat (first | apply Kd.R_alloc | apply Kd.R_drewN | apply Kd.R_drew)); exact HL197_2.out)).2.2) | (with_reducible refine Kd.C_alloc ?_ _) | (with_reducible refine Kd.C_drewN ?_ _) | (with_reducible refine Kd.C_drew ?_)))
                                        (case side2 => exact HC197_2.out)
                                        rintro e w73 ⟨rfl, hb⟩
                                        have HS10_ := (hb.cell (World.block_lt_of_cell? _ _ (hHeld.2.2.2.2.2.2.2.2.2.2.1))).trans (hHeld.2.2.2.2.2.2.2.2.2.2.1)
                                        have HS11_ := (hb.cell (World.block_lt_of_cell? _ _ (hHeld.2.2.2.2.2.2.2.2.2.2.2.1))).trans (hHeld.2.2.2.2.2.2.2.2.2.2.2.1)
                                        have HS12_ := (hb.cell (World.block_lt_of_cell? _ _ (hHeld.2.2.2.2.2.2.2.2.2.2.2.2))).trans (hHeld.2.2.2.2.2.2.2.2.2.2.2.2)
                                        refine ⟨_, rfl, ?_⟩
                                        have n0_ := Aside0.mk (Kd.S_below (by (with_reducible repeat (first | apply Kd.S_alloc | apply Kd.S_drewN | apply Kd.S_drew)); exact HO_10.out) hb)
                                        have n1_ := Aside0.mk (Kd.S_below (by (with_reducible repeat (first | apply Kd.S_alloc | apply Kd.S_drewN | apply Kd.S_drew)); exact HO_99.out) hb)
                                        have n2_ := Aside0.mk (Kd.R_below (by (with_reducible repeat (first | apply Kd.R_alloc | apply Kd.R_drewN | apply Kd.R_drew)); exact HL197_2.out) hb)
                                        have n3_ := Aside0.mk (Kd.R_below (by (with_reducible repeat (first | apply Kd.R_alloc | apply Kd.R_drewN | apply Kd.R_drew)); exact HL199_2.out) hb)
                                        have n4_ := Aside0.mk (Kd.R_below (by (with_reducible repeat (first | apply Kd.R_alloc | apply Kd.R_drewN | apply Kd.R_drew)); exact HO205.out) hb)
                                        have n5_ := Aside0.mk (blk_below (g := gb185) (o := .cells #[.int .i64 a1_0, .int .i64 a1_1, .int .i64 a1_2, .int .i64 a1_3, .int .i64 a1_4, .int .i64 a1_5, .int .i64 a1_6] 35 (0, 0)) (by (with_reducible repeat (first | refine blk_drewN ?_ _ | refine blk_drew ?_ | refine blk_alloc ?_ _)); exact BK185.out) hb)
                                        have n6_ := Aside0.mk (IsS30.below (by repeat (first | (with_reducible first | exact HI196.out | apply IsS30.alloc | apply IsS30.drewN | apply IsS30.drew | apply IsS30.set_0 | refine IsS30.far ?_ NB196_185.out _ | refine IsS30.far ?_ NB196_198.out _) | exact HI196.out)) hb)
                                        have n7_ := Aside0.mk (blk_below (g := gb198) (o := .cells #[.int .i64 ((rd_T43 t187 x101_3).f0), .int .i64 ((rd_T43 t187 x101_3).f1), .slice A197_2 ((rd_T43 t187 x101_3).f2).length c197_2] 43 (0, 0)) (by (with_reducible repeat (first | refine blk_drewN ?_ _ | refine blk_drew ?_ | refine blk_alloc ?_ _)); exact BK198.out) hb)
                                        have n8_ := Aside0.mk (below_step (by repeat (first | (with_reducible first | exact HB.out | apply below_alloc | apply pw_below_drewN | apply below_drew1 | refine below_set ?_ (IsS30.ge HI196.out) | refine below_set ?_ GE185.out | refine below_set ?_ GE198.out) | exact HB.out)) hb)
                                        clear HO_10
                                        clear HO_99
                                        clear HL197_2
                                        clear HL199_2
                                        clear HO205
                                        clear BK185
                                        clear HI196
                                        clear BK198
                                        clear HB
                                        have HO_10 := n0_
                                        have HO_99 := n1_
                                        have HL197_2 := n2_
                                        have HL199_2 := n3_
                                        have HO205 := n4_
                                        have BK185 := n5_
                                        have HI196 := n6_
                                        have BK198 := n7_
                                        have HB := n8_
                                        clear n0_ n1_ n2_ n3_ n4_ n5_ n6_ n7_ n8_
                                        (try clear hb)
                                        (try clear hb2)
                                        (try clear hk)
                                        (try clear hi)
                                        refine hK.out _ _ ⟨(blk_cell BK198.out 0).trans rfl, (blk_cell BK198.out 1).trans rfl, (blk_cell BK198.out 2).trans rfl, (blk_cell BK185.out 0).trans rfl, (blk_cell BK185.out 1).trans rfl, (blk_cell BK185.out 2).trans rfl, (blk_cell BK185.out 3).trans rfl, (blk_cell BK185.out 4).trans rfl, (blk_cell BK185.out 5).trans rfl, (blk_cell BK185.out 6).trans rfl, HS10_, HS11_, HS12_⟩ (fun hHeld => ?_)
                                        clear hK K
                                        refine norm_ (a' := ?_) ?_ ?_
                                        rotate_left
                                        · show Act.put _ (some 123) _ = _
                                          simp only [Act.put, List.setIfInBounds_toArray, List.set_cons_zero, List.set_cons_succ, i64_w, i32_w]
                                          rfl
                                        refine pure_ (i := 18) (N := some 124) (v := ?_) (a' := ?_) #[true, true, true, true, true, true, true, true, true, true, true, true, true, true, true, true, true, true, true, false, false, false, false, false, false, false, false] rfl rfl (any_of HT_.out (by kernel_rfl)) (fun _ _ _ h => h) (Or.inl ⟨by rfl, ?_⟩) ?_ ?_
                                        rotate_left
                                        · intro w'
                                          go_simp
                                          with_reducible rfl
                                        rotate_left
                                        · simp only [Act.put, List.setIfInBounds_toArray, List.set_cons_zero, List.set_cons_succ, i64_w, i32_w]
                                          rfl
                                        refine pure_ (i := 19) (N := some 125) (v := ?_) (a' := ?_) #[true, true, true, true, true, true, true, true, true, true, true, true, true, true, true, true, true, true, true, true, false, false, false, false, false, false, false] rfl rfl (any_of HT_.out (by kernel_rfl)) (fun _ _ _ h => h) (Or.inl ⟨by rfl, ?_⟩) ?_ ?_
                                        rotate_left
                                        · intro w'
                                          go_simp
                                          with_reducible rfl
                                        rotate_left
                                        · simp only [Act.put, List.setIfInBounds_toArray, List.set_cons_zero, List.set_cons_succ, i64_w, i32_w]
                                          rfl
                                        refine pure_ (i := 20) (N := some 126) (v := ?_) (a' := ?_) #[true, true, true, true, true, true, true, true, true, true, true, true, true, true, true, true, true, true, true, true, true, false, false, false, false, false, false] rfl rfl (any_of HT_.out (by kernel_rfl)) (fun _ _ _ h => h) (Or.inl ⟨by rfl, ?_⟩) ?_ ?_
                                        rotate_left
                                        · intro w'
                                          go_simp
                                          with_reducible rfl
                                        rotate_left
                                        · simp only [Act.put, List.setIfInBounds_toArray, List.set_cons_zero, List.set_cons_succ, i64_w, i32_w]
                                          rfl
                                        refine pure_ (i := 21) (N := some 127) (v := ?_) (a' := ?_) #[true, true, true, true, true, true, true, true, true, true, true, true, true, true, true, true, true, true, true, true, true, true, false, false, false, false, false] rfl rfl (any_of HT_.out (by kernel_rfl)) (fun _ _ _ h => h) (Or.inl ⟨by rfl, ?_⟩) ?_ ?_
                                        rotate_left
                                        · intro w'
                                          go_simp
                                          with_reducible rfl
                                        rotate_left
                                        · simp only [Act.put, List.setIfInBounds_toArray, List.set_cons_zero, List.set_cons_succ, i64_w, i32_w]
                                          rfl
                                        refine pure_ (i := 23) (N := some 129) (v := ?_) (a' := ?_) #[true, true, true, true, true, true, true, true, true, true, true, true, true, true, true, true, true, true, true, true, true, true, false, true, false, false, false] rfl rfl (any_of HT_.out (by kernel_rfl)) (fun _ _ _ h => h) (Or.inl ⟨by rfl, ?_⟩) ?_ ?_
                                        rotate_left
                                        · intro w'
                                          go_simp
                                          with_reducible rfl
                                        rotate_left
                                        · simp only [Act.put, List.setIfInBounds_toArray, List.set_cons_zero, List.set_cons_succ, i64_w, i32_w]
                                          rfl
                                        refine take_ (i := 22) (N := some 128) (v := ?_) (a' := ?_) #[true, true, true, true, true, true, true, true, true, true, true, true, true, true, true, true, true, true, true, true, true, true, true, true, false, false, false] rfl rfl (take_ofW HT_.out HW_.out (by kernel_rfl)) (fun _ _ _ h => h) (Or.inl ⟨by rfl, ?_⟩) hHeld ?_ ?_
                                        rotate_left
                                        · rintro w' ⟨s0, s1, s2, s3, s4, s5, s6, s7, s8, s9, s10, s11, s12⟩
                                          go_simp
                                          with_reducible rfl
                                        rotate_left
                                        · simp only [Act.put, List.setIfInBounds_toArray, List.set_cons_zero, List.set_cons_succ, i64_w, i32_w]
                                          rfl
                                        refine take_ (i := 24) (N := some 130) (v := ?_) (a' := ?_) #[true, true, true, true, true, true, true, true, true, true, true, true, true, true, true, true, true, true, true, true, true, true, true, true, true, false, false] rfl rfl (take_ofW HT_.out HW_.out (by kernel_rfl)) (fun _ _ _ h => h) (Or.inl ⟨by rfl, ?_⟩) hHeld ?_ ?_
                                        rotate_left
                                        · rintro w' ⟨s0, s1, s2, s3, s4, s5, s6, s7, s8, s9, s10, s11, s12⟩
                                          go_simp
                                          with_reducible rfl
                                        rotate_left
                                        · simp only [Act.put, List.setIfInBounds_toArray, List.set_cons_zero, List.set_cons_succ, i64_w, i32_w]
                                          rfl
                                        refine pure_ (i := 25) (N := some 131) (v := ?_) (a' := ?_) #[true, true, true, true, true, true, true, true, true, true, true, true, true, true, true, true, true, true, true, true, true, true, true, true, true, true, false] rfl rfl (any_of HT_.out (by kernel_rfl)) (fun _ _ _ h => h) (Or.inl ⟨by rfl, ?_⟩) ?_ ?_
                                        rotate_left
                                        · intro w'
                                          go_simp
                                          with_reducible rfl
                                        rotate_left
                                        · simp only [Act.put, List.setIfInBounds_toArray, List.set_cons_zero, List.set_cons_succ, i64_w, i32_w]
                                          rfl
                                        refine pure_ (i := 26) (N := some 132) (v := ?_) (a' := ?_) #[true, true, true, true, true, true, true, true, true, true, true, true, true, true, true, true, true, true, true, true, true, true, true, true, true, true, true] rfl rfl (any_of HT_.out (by kernel_rfl)) (fun _ _ _ h => h) (Or.inl ⟨by rfl, ?_⟩) ?_ ?_
                                        rotate_left
                                        · intro w'
                                          go_simp
                                          with_reducible rfl
                                        rotate_left
                                        · simp only [Act.put, List.setIfInBounds_toArray, List.set_cons_zero, List.set_cons_succ, i64_w, i32_w]
                                          rfl
                                        refine done_ (done_of HT_.out (by kernel_rfl)) ?_
                                        try go_wp2
                                        go_roundg k3
                                        case measure => have := HJ5.out; have := HJ17.out; have := HK3.out; omega
                                        case rel => exact ⟨(wrap64 (x101_3 + 1)), (t206), (by first | rfl | (simp; done) | (simp [*]; done)), H', ⟨by have := HJ5.out; have := HJ17.out; have := HK3.out; omega⟩, ⟨by (with_reducible repeat (first | apply Kd.S_alloc | apply Kd.S_drewN | apply Kd.S_drew)); exact Kd.S_mono HO_10.out (fun _ hk => hk.1.1)⟩, ⟨by (with_reducible repeat (first | apply Kd.S_alloc | apply Kd.S_drewN | apply Kd.S_drew)); exact Kd.S_mono HO_99.out (fun _ hk => hk.1.1)⟩, ⟨by (with_reducible repeat (first | refine blk_drewN ?_ _ | refine blk_drew ?_ | refine blk_alloc ?_ _)); exact BK185.out⟩, ⟨by repeat (first | (with_reducible first | exact HI196.out | apply IsS30.alloc | apply IsS30.drewN | apply IsS30.drew | apply IsS30.set_0 | refine IsS30.far ?_ NB196_185.out _ | refine IsS30.far ?_ NB196_198.out _) | exact HI196.out)⟩, ⟨by repeat (first | (with_reducible first | exact HB.out | apply below_alloc | apply pw_below_drewN | apply below_drew1 | refine below_set ?_ (IsS30.ge HI196.out) | refine below_set ?_ GE185.out | refine below_set ?_ GE198.out) | exact HB.out)⟩⟩
                                    · rw [if_neg c48] at H
                                      exact absurd H (by simp)
                                  · rw [if_neg c46] at H
                                    exact absurd H (by simp)
                                · rw [if_neg c43] at H
                                  exact absurd H (by simp)
                              · rw [if_neg c41] at H
                                exact absurd H (by simp)
                            · rw [if_neg c40] at H
                              exact absurd H (by simp)
                          · rw [if_neg c39] at H
                            exact absurd H (by simp)
                        · rw [if_neg c38] at H
                          have c38b0 : decide (x101_3 < (t187.length : Int)) = false := decide_eq_false c38
                          clear c38
                          obtain rfl := Option.some.inj H
                          go_wp2
                          go_ret
                          exact ⟨by first | rfl | (simp [errW_none, errW_some] <;> rfl) | (simp [*, errW_none, errW_some] <;> rfl), by repeat (first | (with_reducible first | exact HB.out | apply below_alloc | apply pw_below_drewN | apply below_drew1 | refine below_set ?_ (IsS30.ge HI196.out) | refine below_set ?_ GE185.out) | exact HB.out)⟩
            · replace c17 := Bool.eq_false_iff.mpr c17
              subst c17
              have H1 : (if t190 = 2 then (if t194 = 2 then (some ((wrap64 ((t187.length : Int) + (t191.length : Int))) == 0)) else (some false)) else (some false)) = some r := by rw [if_neg (show ¬ (false = true) by decide)] at H; exact H
              clear H
              have H := H1
              clear H1
              by_cases c105 : t190 = 2
              · rw [if_pos c105] at H
                have c105b0 : (t190 == 2) = true := beq_iff_eq.mpr c105
                have c105b1 : (t190 != 2) = false := bne_eq_false_iff_eq.mpr c105
                clear c105
                by_cases c106 : t194 = 2
                · rw [if_pos c106] at H
                  have c106b0 : (t194 == 2) = true := beq_iff_eq.mpr c106
                  have c106b1 : (t194 != 2) = false := bne_eq_false_iff_eq.mpr c106
                  clear c106
                  obtain rfl := Option.some.inj H
                  have hcz107_0 : wc.cell? ⟨gb185, 0, none⟩ = some (.int .i64 a1_0) := (blk_cell BK185.out 0).trans rfl
                  have hcz107_1 : wc.cell? ⟨gb185, 1, none⟩ = some (.int .i64 a1_1) := (blk_cell BK185.out 1).trans rfl
                  have hcz107_2 : wc.cell? ⟨gb185, 2, none⟩ = some (.int .i64 a1_2) := (blk_cell BK185.out 2).trans rfl
                  have hcz107_3 : wc.cell? ⟨gb185, 3, none⟩ = some (.int .i64 a1_3) := (blk_cell BK185.out 3).trans rfl
                  have hcz107_4 : wc.cell? ⟨gb185, 4, none⟩ = some (.int .i64 a1_4) := (blk_cell BK185.out 4).trans rfl
                  have hcz107_5 : wc.cell? ⟨gb185, 5, none⟩ = some (.int .i64 a1_5) := (blk_cell BK185.out 5).trans rfl
                  have hcz107_6 : wc.cell? ⟨gb185, 6, none⟩ = some (.int .i64 a1_6) := (blk_cell BK185.out 6).trans rfl
                  have hfz107_0 := blk_frozen BK185.out 0
                  have hfz107_1 := blk_frozen BK185.out 1
                  have hfz107_2 := blk_frozen BK185.out 2
                  have hfz107_3 := blk_frozen BK185.out 3
                  have hfz107_4 := blk_frozen BK185.out 4
                  have hfz107_5 := blk_frozen BK185.out 5
                  have hfz107_6 := blk_frozen BK185.out 6
                  go_wp2_with (first | ((with_reducible refine gate_callee (f := 12) rfl ?_); refine goesL_ (some 50) rfl rfl Try.func12 (by kernel_rfl) rfl #[.int .u64 a0, .agg #[.int .i64 a1_0, .int .i64 a1_1, .int .i64 a1_2, .int .i64 a1_3, .int .i64 a1_4, .int .i64 a1_5, .int .i64 a1_6]] rfl (by (try simp only [List.map_toArray, List.map_cons, List.map_nil]); first | done | rfl | (simp only [List.length_drop, List.length_take]; rfl)) ?_; (with_reducible refine (lot_Ops.calls kj5 a0 a1_0 a1_1 a1_2 a1_3 a1_4 a1_5 a1_6 t187 t190 _ A14.out).mono ?_); rintro e w108 ⟨v188, rfl, ho0, hb⟩; refine ⟨_, rfl, ?_⟩; have n0_ := Aside0.mk (Kd.S_lower ho0 (below_size (by repeat (first | (with_reducible first | exact HB.out | apply below_alloc | apply pw_below_drewN | apply below_drew1 | refine below_set ?_ GE185.out) | exact HB.out)))); have n1_ := Aside0.mk (blk_below (g := gb185) (o := .cells #[.int .i64 a1_0, .int .i64 a1_1, .int .i64 a1_2, .int .i64 a1_3, .int .i64 a1_4, .int .i64 a1_5, .int .i64 a1_6] 35 (0, 0)) (by (with_reducible repeat (first | refine blk_drewN ?_ _ | refine blk_drew ?_ | refine blk_alloc ?_ _)); exact BK185.out) hb); have n2_ := Aside0.mk (below_step (by repeat (first | (with_reducible first | exact HB.out | apply below_alloc | apply pw_below_drewN | apply below_drew1 | refine below_set ?_ GE185.out) | exact HB.out)) hb); clear BK185; clear HB; have HO189 := n0_; have BK185 := n1_; have HB := n2_; clear n0_ n1_ n2_; (try clear hb); (try clear hb2); (try clear hk); (try clear hi); (try clear ho0); have hcz109_0 : w108.cell? ⟨gb185, 0, none⟩ = some (.int .i64 a1_0) := (blk_cell BK185.out 0).trans rfl; have hcz109_1 : w108.cell? ⟨gb185, 1, none⟩ = some (.int .i64 a1_1) := (blk_cell BK185.out 1).trans rfl; have hcz109_2 : w108.cell? ⟨gb185, 2, none⟩ = some (.int .i64 a1_2) := (blk_cell BK185.out 2).trans rfl; have hcz109_3 : w108.cell? ⟨gb185, 3, none⟩ = some (.int .i64 a1_3) := (blk_cell BK185.out 3).trans rfl; have hcz109_4 : w108.cell? ⟨gb185, 4, none⟩ = some (.int .i64 a1_4) := (blk_cell BK185.out 4).trans rfl; have hcz109_5 : w108.cell? ⟨gb185, 5, none⟩ = some (.int .i64 a1_5) := (blk_cell BK185.out 5).trans rfl; have hcz109_6 : w108.cell? ⟨gb185, 6, none⟩ = some (.int .i64 a1_6) := (blk_cell BK185.out 6).trans rfl; have hfz109_0 := blk_frozen BK185.out 0; have hfz109_1 := blk_frozen BK185.out 1; have hfz109_2 := blk_frozen BK185.out 2; have hfz109_3 := blk_frozen BK185.out 3; have hfz109_4 := blk_frozen BK185.out 4; have hfz109_5 := blk_frozen BK185.out 5; have hfz109_6 := blk_frozen BK185.out 6) | ((with_reducible refine gate_callee (f := 12) rfl ?_); refine goesL_ (some 56) rfl rfl Try.func12 (by kernel_rfl) rfl #[.int .u64 a0, .agg #[.int .i64 a1_0, .int .i64 a1_1, .int .i64 a1_2, .int .i64 a1_3, .int .i64 a1_4, .int .i64 a1_5, .int .i64 a1_6]] rfl (by (try simp only [List.map_toArray, List.map_cons, List.map_nil]); first | done | rfl | (simp only [List.length_drop, List.length_take]; rfl)) ?_; (with_reducible refine (lot_Ops.calls kj5 a0 a1_0 a1_1 a1_2 a1_3 a1_4 a1_5 a1_6 t191 t194 _ A15.out).mono ?_); rintro e w110 ⟨v192, rfl, ho0, hb⟩; refine ⟨_, rfl, ?_⟩; have n0_ := Aside0.mk (Kd.S_elder' (by (with_reducible repeat (first | apply Kd.S_alloc | apply Kd.S_drewN | apply Kd.S_drew)); exact HO189.out) (Kd.S_base ho0) hb); have n1_ := Aside0.mk (Kd.S_lower (Kd.S_new' ho0 (Kd.S_lt (by (with_reducible repeat (first | apply Kd.S_alloc | apply Kd.S_drewN | apply Kd.S_drew)); exact HO189.out))) (below_size (by repeat (first | (with_reducible first | exact HB.out | apply below_alloc | apply pw_below_drewN | apply below_drew1 | refine below_set ?_ GE185.out) | exact HB.out)))); have n2_ := Aside0.mk (blk_below (g := gb185) (o := .cells #[.int .i64 a1_0, .int .i64 a1_1, .int .i64 a1_2, .int .i64 a1_3, .int .i64 a1_4, .int .i64 a1_5, .int .i64 a1_6] 35 (0, 0)) (by (with_reducible repeat (first | refine blk_drewN ?_ _ | refine blk_drew ?_ | refine blk_alloc ?_ _)); exact BK185.out) hb); have n3_ := Aside0.mk (below_step (by repeat (first | (with_reducible first | exact HB.out | apply below_alloc | apply pw_below_drewN | apply below_drew1 | refine below_set ?_ GE185.out) | exact HB.out)) hb); clear HO189; clear BK185; clear HB; have HO189 := n0_; have HO193 := n1_; have BK185 := n2_; have HB := n3_; clear n0_ n1_ n2_ n3_; (try clear hb); (try clear hb2); (try clear hk); (try clear hi); (try clear ho0); have hcz111_0 : w110.cell? ⟨gb185, 0, none⟩ = some (.int .i64 a1_0) := (blk_cell BK185.out 0).trans rfl; have hcz111_1 : w110.cell? ⟨gb185, 1, none⟩ = some (.int .i64 a1_1) := (blk_cell BK185.out 1).trans rfl; have hcz111_2 : w110.cell? ⟨gb185, 2, none⟩ = some (.int .i64 a1_2) := (blk_cell BK185.out 2).trans rfl; have hcz111_3 : w110.cell? ⟨gb185, 3, none⟩ = some (.int .i64 a1_3) := (blk_cell BK185.out 3).trans rfl; have hcz111_4 : w110.cell? ⟨gb185, 4, none⟩ = some (.int .i64 a1_4) := (blk_cell BK185.out 4).trans rfl; have hcz111_5 : w110.cell? ⟨gb185, 5, none⟩ = some (.int .i64 a1_5) := (blk_cell BK185.out 5).trans rfl; have hcz111_6 : w110.cell? ⟨gb185, 6, none⟩ = some (.int .i64 a1_6) := (blk_cell BK185.out 6).trans rfl; have hfz111_0 := blk_frozen BK185.out 0; have hfz111_1 := blk_frozen BK185.out 1; have hfz111_2 := blk_frozen BK185.out 2; have hfz111_3 := blk_frozen BK185.out 3; have hfz111_4 := blk_frozen BK185.out 4; have hfz111_5 := blk_frozen BK185.out 5; have hfz111_6 := blk_frozen BK185.out 6) | ((with_reducible refine gate_callee (f := 17) rfl ?_); refine goesL_ (some 60) rfl rfl Try.func17 (by kernel_rfl) rfl #[.agg #[.int .i64 a1_0, .int .i64 a1_1, .int .i64 a1_2, .int .i64 a1_3, .int .i64 a1_4, .int .i64 a1_5, .int .i64 a1_6]] rfl (by (try simp only [List.map_toArray, List.map_cons, List.map_nil]); first | done | rfl | (simp only [List.length_drop, List.length_take]; rfl)) ?_; (with_reducible refine (incunableref42_May.calls kj5 a1_0 a1_1 a1_2 a1_3 a1_4 a1_5 a1_6 false _ A16.out).mono ?_); rintro e w112 ⟨rfl, hb⟩; refine ⟨_, rfl, ?_⟩; have n0_ := Aside0.mk (Kd.S_below (by (with_reducible repeat (first | apply Kd.S_alloc | apply Kd.S_drewN | apply Kd.S_drew)); exact HO189.out) hb); have n1_ := Aside0.mk (Kd.S_below (by (with_reducible repeat (first | apply Kd.S_alloc | apply Kd.S_drewN | apply Kd.S_drew)); exact HO193.out) hb); have n2_ := Aside0.mk (blk_below (g := gb185) (o := .cells #[.int .i64 a1_0, .int .i64 a1_1, .int .i64 a1_2, .int .i64 a1_3, .int .i64 a1_4, .int .i64 a1_5, .int .i64 a1_6] 35 (0, 0)) (by (with_reducible repeat (first | refine blk_drewN ?_ _ | refine blk_drew ?_ | refine blk_alloc ?_ _)); exact BK185.out) hb); have n3_ := Aside0.mk (below_step (by repeat (first | (with_reducible first | exact HB.out | apply below_alloc | apply pw_below_drewN | apply below_drew1 | refine below_set ?_ GE185.out) | exact HB.out)) hb); clear HO189; clear HO193; clear BK185; clear HB; have HO189 := n0_; have HO193 := n1_; have BK185 := n2_; have HB := n3_; clear n0_ n1_ n2_ n3_; (try clear hb); (try clear hb2); (try clear hk); (try clear hi); obtain ⟨Ao113, co113, eo113⟩ := Kd.S_slice HO189.out; subst eo113; obtain ⟨Ao114, co114, eo114⟩ := Kd.S_slice HO193.out; subst eo114))
                  go_ret
                  exact ⟨by first | rfl | (simp [errW_none, errW_some] <;> rfl) | (simp [*, errW_none, errW_some] <;> rfl), by repeat (first | (with_reducible first | exact HB.out | apply below_alloc | apply pw_below_drewN | apply below_drew1 | refine below_set ?_ GE185.out) | exact HB.out)⟩
                · rw [if_neg c106] at H
                  have c106b0 : (t194 == 2) = false := beq_eq_false_iff_ne.mpr c106
                  have c106b1 : (t194 != 2) = true := bne_iff_ne.mpr c106
                  obtain rfl := Option.some.inj H
                  have hcz115_0 : wc.cell? ⟨gb185, 0, none⟩ = some (.int .i64 a1_0) := (blk_cell BK185.out 0).trans rfl
                  have hcz115_1 : wc.cell? ⟨gb185, 1, none⟩ = some (.int .i64 a1_1) := (blk_cell BK185.out 1).trans rfl
                  have hcz115_2 : wc.cell? ⟨gb185, 2, none⟩ = some (.int .i64 a1_2) := (blk_cell BK185.out 2).trans rfl
                  have hcz115_3 : wc.cell? ⟨gb185, 3, none⟩ = some (.int .i64 a1_3) := (blk_cell BK185.out 3).trans rfl
                  have hcz115_4 : wc.cell? ⟨gb185, 4, none⟩ = some (.int .i64 a1_4) := (blk_cell BK185.out 4).trans rfl
                  have hcz115_5 : wc.cell? ⟨gb185, 5, none⟩ = some (.int .i64 a1_5) := (blk_cell BK185.out 5).trans rfl
                  have hcz115_6 : wc.cell? ⟨gb185, 6, none⟩ = some (.int .i64 a1_6) := (blk_cell BK185.out 6).trans rfl
                  have hfz115_0 := blk_frozen BK185.out 0
                  have hfz115_1 := blk_frozen BK185.out 1
                  have hfz115_2 := blk_frozen BK185.out 2
                  have hfz115_3 := blk_frozen BK185.out 3
                  have hfz115_4 := blk_frozen BK185.out 4
                  have hfz115_5 := blk_frozen BK185.out 5
                  have hfz115_6 := blk_frozen BK185.out 6
                  go_wp2_with (first | ((with_reducible refine gate_callee (f := 12) rfl ?_); refine goesL_ (some 50) rfl rfl Try.func12 (by kernel_rfl) rfl #[.int .u64 a0, .agg #[.int .i64 a1_0, .int .i64 a1_1, .int .i64 a1_2, .int .i64 a1_3, .int .i64 a1_4, .int .i64 a1_5, .int .i64 a1_6]] rfl (by (try simp only [List.map_toArray, List.map_cons, List.map_nil]); first | done | rfl | (simp only [List.length_drop, List.length_take]; rfl)) ?_; (with_reducible refine (lot_Ops.calls kj5 a0 a1_0 a1_1 a1_2 a1_3 a1_4 a1_5 a1_6 t187 t190 _ A14.out).mono ?_); rintro e w116 ⟨v188, rfl, ho0, hb⟩; refine ⟨_, rfl, ?_⟩; have n0_ := Aside0.mk (Kd.S_lower ho0 (below_size (by repeat (first | (with_reducible first | exact HB.out | apply below_alloc | apply pw_below_drewN | apply below_drew1 | refine below_set ?_ GE185.out) | exact HB.out)))); have n1_ := Aside0.mk (blk_below (g := gb185) (o := .cells #[.int .i64 a1_0, .int .i64 a1_1, .int .i64 a1_2, .int .i64 a1_3, .int .i64 a1_4, .int .i64 a1_5, .int .i64 a1_6] 35 (0, 0)) (by (with_reducible repeat (first | refine blk_drewN ?_ _ | refine blk_drew ?_ | refine blk_alloc ?_ _)); exact BK185.out) hb); have n2_ := Aside0.mk (below_step (by repeat (first | (with_reducible first | exact HB.out | apply below_alloc | apply pw_below_drewN | apply below_drew1 | refine below_set ?_ GE185.out) | exact HB.out)) hb); clear BK185; clear HB; have HO189 := n0_; have BK185 := n1_; have HB := n2_; clear n0_ n1_ n2_; (try clear hb); (try clear hb2); (try clear hk); (try clear hi); (try clear ho0); have hcz117_0 : w116.cell? ⟨gb185, 0, none⟩ = some (.int .i64 a1_0) := (blk_cell BK185.out 0).trans rfl; have hcz117_1 : w116.cell? ⟨gb185, 1, none⟩ = some (.int .i64 a1_1) := (blk_cell BK185.out 1).trans rfl; have hcz117_2 : w116.cell? ⟨gb185, 2, none⟩ = some (.int .i64 a1_2) := (blk_cell BK185.out 2).trans rfl; have hcz117_3 : w116.cell? ⟨gb185, 3, none⟩ = some (.int .i64 a1_3) := (blk_cell BK185.out 3).trans rfl; have hcz117_4 : w116.cell? ⟨gb185, 4, none⟩ = some (.int .i64 a1_4) := (blk_cell BK185.out 4).trans rfl; have hcz117_5 : w116.cell? ⟨gb185, 5, none⟩ = some (.int .i64 a1_5) := (blk_cell BK185.out 5).trans rfl; have hcz117_6 : w116.cell? ⟨gb185, 6, none⟩ = some (.int .i64 a1_6) := (blk_cell BK185.out 6).trans rfl; have hfz117_0 := blk_frozen BK185.out 0; have hfz117_1 := blk_frozen BK185.out 1; have hfz117_2 := blk_frozen BK185.out 2; have hfz117_3 := blk_frozen BK185.out 3; have hfz117_4 := blk_frozen BK185.out 4; have hfz117_5 := blk_frozen BK185.out 5; have hfz117_6 := blk_frozen BK185.out 6) | ((with_reducible refine gate_callee (f := 12) rfl ?_); refine goesL_ (some 56) rfl rfl Try.func12 (by kernel_rfl) rfl #[.int .u64 a0, .agg #[.int .i64 a1_0, .int .i64 a1_1, .int .i64 a1_2, .int .i64 a1_3, .int .i64 a1_4, .int .i64 a1_5, .int .i64 a1_6]] rfl (by (try simp only [List.map_toArray, List.map_cons, List.map_nil]); first | done | rfl | (simp only [List.length_drop, List.length_take]; rfl)) ?_; (with_reducible refine (lot_Ops.calls kj5 a0 a1_0 a1_1 a1_2 a1_3 a1_4 a1_5 a1_6 t191 t194 _ A15.out).mono ?_); rintro e w118 ⟨v192, rfl, ho0, hb⟩; refine ⟨_, rfl, ?_⟩; have n0_ := Aside0.mk (Kd.S_elder' (by (with_reducible repeat (first | apply Kd.S_alloc | apply Kd.S_drewN | apply Kd.S_drew)); exact HO189.out) (Kd.S_base ho0) hb); have n1_ := Aside0.mk (Kd.S_lower (Kd.S_new' ho0 (Kd.S_lt (by (with_reducible repeat (first | apply Kd.S_alloc | apply Kd.S_drewN | apply Kd.S_drew)); exact HO189.out))) (below_size (by repeat (first | (with_reducible first | exact HB.out | apply below_alloc | apply pw_below_drewN | apply below_drew1 | refine below_set ?_ GE185.out) | exact HB.out)))); have n2_ := Aside0.mk (blk_below (g := gb185) (o := .cells #[.int .i64 a1_0, .int .i64 a1_1, .int .i64 a1_2, .int .i64 a1_3, .int .i64 a1_4, .int .i64 a1_5, .int .i64 a1_6] 35 (0, 0)) (by (with_reducible repeat (first | refine blk_drewN ?_ _ | refine blk_drew ?_ | refine blk_alloc ?_ _)); exact BK185.out) hb); have n3_ := Aside0.mk (below_step (by repeat (first | (with_reducible first | exact HB.out | apply below_alloc | apply pw_below_drewN | apply below_drew1 | refine below_set ?_ GE185.out) | exact HB.out)) hb); clear HO189; clear BK185; clear HB; have HO189 := n0_; have HO193 := n1_; have BK185 := n2_; have HB := n3_; clear n0_ n1_ n2_ n3_; (try clear hb); (try clear hb2); (try clear hk); (try clear hi); (try clear ho0); have hcz119_0 : w118.cell? ⟨gb185, 0, none⟩ = some (.int .i64 a1_0) := (blk_cell BK185.out 0).trans rfl; have hcz119_1 : w118.cell? ⟨gb185, 1, none⟩ = some (.int .i64 a1_1) := (blk_cell BK185.out 1).trans rfl; have hcz119_2 : w118.cell? ⟨gb185, 2, none⟩ = some (.int .i64 a1_2) := (blk_cell BK185.out 2).trans rfl; have hcz119_3 : w118.cell? ⟨gb185, 3, none⟩ = some (.int .i64 a1_3) := (blk_cell BK185.out 3).trans rfl; have hcz119_4 : w118.cell? ⟨gb185, 4, none⟩ = some (.int .i64 a1_4) := (blk_cell BK185.out 4).trans rfl; have hcz119_5 : w118.cell? ⟨gb185, 5, none⟩ = some (.int .i64 a1_5) := (blk_cell BK185.out 5).trans rfl; have hcz119_6 : w118.cell? ⟨gb185, 6, none⟩ = some (.int .i64 a1_6) := (blk_cell BK185.out 6).trans rfl; have hfz119_0 := blk_frozen BK185.out 0; have hfz119_1 := blk_frozen BK185.out 1; have hfz119_2 := blk_frozen BK185.out 2; have hfz119_3 := blk_frozen BK185.out 3; have hfz119_4 := blk_frozen BK185.out 4; have hfz119_5 := blk_frozen BK185.out 5; have hfz119_6 := blk_frozen BK185.out 6) | ((with_reducible refine gate_callee (f := 17) rfl ?_); refine goesL_ (some 60) rfl rfl Try.func17 (by kernel_rfl) rfl #[.agg #[.int .i64 a1_0, .int .i64 a1_1, .int .i64 a1_2, .int .i64 a1_3, .int .i64 a1_4, .int .i64 a1_5, .int .i64 a1_6]] rfl (by (try simp only [List.map_toArray, List.map_cons, List.map_nil]); first | done | rfl | (simp only [List.length_drop, List.length_take]; rfl)) ?_; (with_reducible refine (incunableref42_May.calls kj5 a1_0 a1_1 a1_2 a1_3 a1_4 a1_5 a1_6 false _ A16.out).mono ?_); rintro e w120 ⟨rfl, hb⟩; refine ⟨_, rfl, ?_⟩; have n0_ := Aside0.mk (Kd.S_below (by (with_reducible repeat (first | apply Kd.S_alloc | apply Kd.S_drewN | apply Kd.S_drew)); exact HO189.out) hb); have n1_ := Aside0.mk (Kd.S_below (by (with_reducible repeat (first | apply Kd.S_alloc | apply Kd.S_drewN | apply Kd.S_drew)); exact HO193.out) hb); have n2_ := Aside0.mk (blk_below (g := gb185) (o := .cells #[.int .i64 a1_0, .int .i64 a1_1, .int .i64 a1_2, .int .i64 a1_3, .int .i64 a1_4, .int .i64 a1_5, .int .i64 a1_6] 35 (0, 0)) (by (with_reducible repeat (first | refine blk_drewN ?_ _ | refine blk_drew ?_ | refine blk_alloc ?_ _)); exact BK185.out) hb); have n3_ := Aside0.mk (below_step (by repeat (first | (with_reducible first | exact HB.out | apply below_alloc | apply pw_below_drewN | apply below_drew1 | refine below_set ?_ GE185.out) | exact HB.out)) hb); clear HO189; clear HO193; clear BK185; clear HB; have HO189 := n0_; have HO193 := n1_; have BK185 := n2_; have HB := n3_; clear n0_ n1_ n2_ n3_; (try clear hb); (try clear hb2); (try clear hk); (try clear hi)))
                  go_ret
                  exact ⟨by first | rfl | (simp [errW_none, errW_some] <;> rfl) | (simp [*, errW_none, errW_some] <;> rfl), by repeat (first | (with_reducible first | exact HB.out | apply below_alloc | apply pw_below_drewN | apply below_drew1 | refine below_set ?_ GE185.out) | exact HB.out)⟩
              · rw [if_neg c105] at H
                have c105b0 : (t190 == 2) = false := beq_eq_false_iff_ne.mpr c105
                have c105b1 : (t190 != 2) = true := bne_iff_ne.mpr c105
                obtain rfl := Option.some.inj H
                have hcz121_0 : wc.cell? ⟨gb185, 0, none⟩ = some (.int .i64 a1_0) := (blk_cell BK185.out 0).trans rfl
                have hcz121_1 : wc.cell? ⟨gb185, 1, none⟩ = some (.int .i64 a1_1) := (blk_cell BK185.out 1).trans rfl
                have hcz121_2 : wc.cell? ⟨gb185, 2, none⟩ = some (.int .i64 a1_2) := (blk_cell BK185.out 2).trans rfl
                have hcz121_3 : wc.cell? ⟨gb185, 3, none⟩ = some (.int .i64 a1_3) := (blk_cell BK185.out 3).trans rfl
                have hcz121_4 : wc.cell? ⟨gb185, 4, none⟩ = some (.int .i64 a1_4) := (blk_cell BK185.out 4).trans rfl
                have hcz121_5 : wc.cell? ⟨gb185, 5, none⟩ = some (.int .i64 a1_5) := (blk_cell BK185.out 5).trans rfl
                have hcz121_6 : wc.cell? ⟨gb185, 6, none⟩ = some (.int .i64 a1_6) := (blk_cell BK185.out 6).trans rfl
                have hfz121_0 := blk_frozen BK185.out 0
                have hfz121_1 := blk_frozen BK185.out 1
                have hfz121_2 := blk_frozen BK185.out 2
                have hfz121_3 := blk_frozen BK185.out 3
                have hfz121_4 := blk_frozen BK185.out 4
                have hfz121_5 := blk_frozen BK185.out 5
                have hfz121_6 := blk_frozen BK185.out 6
                go_wp2_with (first | ((with_reducible refine gate_callee (f := 12) rfl ?_); refine goesL_ (some 50) rfl rfl Try.func12 (by kernel_rfl) rfl #[.int .u64 a0, .agg #[.int .i64 a1_0, .int .i64 a1_1, .int .i64 a1_2, .int .i64 a1_3, .int .i64 a1_4, .int .i64 a1_5, .int .i64 a1_6]] rfl (by (try simp only [List.map_toArray, List.map_cons, List.map_nil]); first | done | rfl | (simp only [List.length_drop, List.length_take]; rfl)) ?_; (with_reducible refine (lot_Ops.calls kj5 a0 a1_0 a1_1 a1_2 a1_3 a1_4 a1_5 a1_6 t187 t190 _ A14.out).mono ?_); rintro e w122 ⟨v188, rfl, ho0, hb⟩; refine ⟨_, rfl, ?_⟩; have n0_ := Aside0.mk (Kd.S_lower ho0 (below_size (by repeat (first | (with_reducible first | exact HB.out | apply below_alloc | apply pw_below_drewN | apply below_drew1 | refine below_set ?_ GE185.out) | exact HB.out)))); have n1_ := Aside0.mk (blk_below (g := gb185) (o := .cells #[.int .i64 a1_0, .int .i64 a1_1, .int .i64 a1_2, .int .i64 a1_3, .int .i64 a1_4, .int .i64 a1_5, .int .i64 a1_6] 35 (0, 0)) (by (with_reducible repeat (first | refine blk_drewN ?_ _ | refine blk_drew ?_ | refine blk_alloc ?_ _)); exact BK185.out) hb); have n2_ := Aside0.mk (below_step (by repeat (first | (with_reducible first | exact HB.out | apply below_alloc | apply pw_below_drewN | apply below_drew1 | refine below_set ?_ GE185.out) | exact HB.out)) hb); clear BK185; clear HB; have HO189 := n0_; have BK185 := n1_; have HB := n2_; clear n0_ n1_ n2_; (try clear hb); (try clear hb2); (try clear hk); (try clear hi); (try clear ho0); have hcz123_0 : w122.cell? ⟨gb185, 0, none⟩ = some (.int .i64 a1_0) := (blk_cell BK185.out 0).trans rfl; have hcz123_1 : w122.cell? ⟨gb185, 1, none⟩ = some (.int .i64 a1_1) := (blk_cell BK185.out 1).trans rfl; have hcz123_2 : w122.cell? ⟨gb185, 2, none⟩ = some (.int .i64 a1_2) := (blk_cell BK185.out 2).trans rfl; have hcz123_3 : w122.cell? ⟨gb185, 3, none⟩ = some (.int .i64 a1_3) := (blk_cell BK185.out 3).trans rfl; have hcz123_4 : w122.cell? ⟨gb185, 4, none⟩ = some (.int .i64 a1_4) := (blk_cell BK185.out 4).trans rfl; have hcz123_5 : w122.cell? ⟨gb185, 5, none⟩ = some (.int .i64 a1_5) := (blk_cell BK185.out 5).trans rfl; have hcz123_6 : w122.cell? ⟨gb185, 6, none⟩ = some (.int .i64 a1_6) := (blk_cell BK185.out 6).trans rfl; have hfz123_0 := blk_frozen BK185.out 0; have hfz123_1 := blk_frozen BK185.out 1; have hfz123_2 := blk_frozen BK185.out 2; have hfz123_3 := blk_frozen BK185.out 3; have hfz123_4 := blk_frozen BK185.out 4; have hfz123_5 := blk_frozen BK185.out 5; have hfz123_6 := blk_frozen BK185.out 6) | ((with_reducible refine gate_callee (f := 12) rfl ?_); refine goesL_ (some 56) rfl rfl Try.func12 (by kernel_rfl) rfl #[.int .u64 a0, .agg #[.int .i64 a1_0, .int .i64 a1_1, .int .i64 a1_2, .int .i64 a1_3, .int .i64 a1_4, .int .i64 a1_5, .int .i64 a1_6]] rfl (by (try simp only [List.map_toArray, List.map_cons, List.map_nil]); first | done | rfl | (simp only [List.length_drop, List.length_take]; rfl)) ?_; (with_reducible refine (lot_Ops.calls kj5 a0 a1_0 a1_1 a1_2 a1_3 a1_4 a1_5 a1_6 t191 t194 _ A15.out).mono ?_); rintro e w124 ⟨v192, rfl, ho0, hb⟩; refine ⟨_, rfl, ?_⟩; have n0_ := Aside0.mk (Kd.S_elder' (by (with_reducible repeat (first | apply Kd.S_alloc | apply Kd.S_drewN | apply Kd.S_drew)); exact HO189.out) (Kd.S_base ho0) hb); have n1_ := Aside0.mk (Kd.S_lower (Kd.S_new' ho0 (Kd.S_lt (by (with_reducible repeat (first | apply Kd.S_alloc | apply Kd.S_drewN | apply Kd.S_drew)); exact HO189.out))) (below_size (by repeat (first | (with_reducible first | exact HB.out | apply below_alloc | apply pw_below_drewN | apply below_drew1 | refine below_set ?_ GE185.out) | exact HB.out)))); have n2_ := Aside0.mk (blk_below (g := gb185) (o := .cells #[.int .i64 a1_0, .int .i64 a1_1, .int .i64 a1_2, .int .i64 a1_3, .int .i64 a1_4, .int .i64 a1_5, .int .i64 a1_6] 35 (0, 0)) (by (with_reducible repeat (first | refine blk_drewN ?_ _ | refine blk_drew ?_ | refine blk_alloc ?_ _)); exact BK185.out) hb); have n3_ := Aside0.mk (below_step (by repeat (first | (with_reducible first | exact HB.out | apply below_alloc | apply pw_below_drewN | apply below_drew1 | refine below_set ?_ GE185.out) | exact HB.out)) hb); clear HO189; clear BK185; clear HB; have HO189 := n0_; have HO193 := n1_; have BK185 := n2_; have HB := n3_; clear n0_ n1_ n2_ n3_; (try clear hb); (try clear hb2); (try clear hk); (try clear hi); (try clear ho0); have hcz125_0 : w124.cell? ⟨gb185, 0, none⟩ = some (.int .i64 a1_0) := (blk_cell BK185.out 0).trans rfl; have hcz125_1 : w124.cell? ⟨gb185, 1, none⟩ = some (.int .i64 a1_1) := (blk_cell BK185.out 1).trans rfl; have hcz125_2 : w124.cell? ⟨gb185, 2, none⟩ = some (.int .i64 a1_2) := (blk_cell BK185.out 2).trans rfl; have hcz125_3 : w124.cell? ⟨gb185, 3, none⟩ = some (.int .i64 a1_3) := (blk_cell BK185.out 3).trans rfl; have hcz125_4 : w124.cell? ⟨gb185, 4, none⟩ = some (.int .i64 a1_4) := (blk_cell BK185.out 4).trans rfl; have hcz125_5 : w124.cell? ⟨gb185, 5, none⟩ = some (.int .i64 a1_5) := (blk_cell BK185.out 5).trans rfl; have hcz125_6 : w124.cell? ⟨gb185, 6, none⟩ = some (.int .i64 a1_6) := (blk_cell BK185.out 6).trans rfl; have hfz125_0 := blk_frozen BK185.out 0; have hfz125_1 := blk_frozen BK185.out 1; have hfz125_2 := blk_frozen BK185.out 2; have hfz125_3 := blk_frozen BK185.out 3; have hfz125_4 := blk_frozen BK185.out 4; have hfz125_5 := blk_frozen BK185.out 5; have hfz125_6 := blk_frozen BK185.out 6) | ((with_reducible refine gate_callee (f := 17) rfl ?_); refine goesL_ (some 60) rfl rfl Try.func17 (by kernel_rfl) rfl #[.agg #[.int .i64 a1_0, .int .i64 a1_1, .int .i64 a1_2, .int .i64 a1_3, .int .i64 a1_4, .int .i64 a1_5, .int .i64 a1_6]] rfl (by (try simp only [List.map_toArray, List.map_cons, List.map_nil]); first | done | rfl | (simp only [List.length_drop, List.length_take]; rfl)) ?_; (with_reducible refine (incunableref42_May.calls kj5 a1_0 a1_1 a1_2 a1_3 a1_4 a1_5 a1_6 false _ A16.out).mono ?_); rintro e w126 ⟨rfl, hb⟩; refine ⟨_, rfl, ?_⟩; have n0_ := Aside0.mk (Kd.S_below (by (with_reducible repeat (first | apply Kd.S_alloc | apply Kd.S_drewN | apply Kd.S_drew)); exact HO189.out) hb); have n1_ := Aside0.mk (Kd.S_below (by (with_reducible repeat (first | apply Kd.S_alloc | apply Kd.S_drewN | apply Kd.S_drew)); exact HO193.out) hb); have n2_ := Aside0.mk (blk_below (g := gb185) (o := .cells #[.int .i64 a1_0, .int .i64 a1_1, .int .i64 a1_2, .int .i64 a1_3, .int .i64 a1_4, .int .i64 a1_5, .int .i64 a1_6] 35 (0, 0)) (by (with_reducible repeat (first | refine blk_drewN ?_ _ | refine blk_drew ?_ | refine blk_alloc ?_ _)); exact BK185.out) hb); have n3_ := Aside0.mk (below_step (by repeat (first | (with_reducible first | exact HB.out | apply below_alloc | apply pw_below_drewN | apply below_drew1 | refine below_set ?_ GE185.out) | exact HB.out)) hb); clear HO189; clear HO193; clear BK185; clear HB; have HO189 := n0_; have HO193 := n1_; have BK185 := n2_; have HB := n3_; clear n0_ n1_ n2_ n3_; (try clear hb); (try clear hb2); (try clear hk); (try clear hi)))
                go_ret
                exact ⟨by first | rfl | (simp [errW_none, errW_some] <;> rfl) | (simp [*, errW_none, errW_some] <;> rfl), by repeat (first | (with_reducible first | exact HB.out | apply below_alloc | apply pw_below_drewN | apply below_drew1 | refine below_set ?_ GE185.out) | exact HB.out)⟩
    · exact absurd rfl c5
  · replace c4 := Bool.eq_false_iff.mpr c4
    subst c4
    have H1 : (some false) = some r := by rw [if_neg (show ¬ (false = true) by decide)] at H; exact H
    clear H
    have H := H1
    clear H1
    obtain rfl := Option.some.inj H
    go_enter Try.func5, Try.ntmps5
    go_wp2_with (first | ((with_reducible refine gate_dst (N := 3) rfl ?_); (try (refine gate_guard (by rfl) ?_; dsimp only)); refine box_event ?hg (N := 3) ?hd (cs := #[.int .i64 a1_0, .int .i64 a1_1, .int .i64 a1_2, .int .i64 a1_3, .int .i64 a1_4, .int .i64 a1_5, .int .i64 a1_6]) (t := 35) ?hr ?_; (case hd => rfl); (case hg => rfl); (case hr => first | (go_simp; done) | (go_simp; rfl)); intro gb185 hg w130 hbox hb; have n0_ := Aside0.mk (below_step (by repeat (first | (with_reducible first | exact HB.out | apply below_alloc | apply pw_below_drewN | apply below_drew1) | exact HB.out)) hb); have n1_ := Aside0.mk (hbox); have n2_ := Aside0.mk ((by rw [hg]; exact (below_size (by repeat (first | (with_reducible first | exact HB.out | apply below_alloc | apply pw_below_drewN | apply below_drew1) | exact HB.out))) : w.heap.size ≤ gb185)); have n3_ := Aside0.mk ((by rw [hg]; exact (below_size (by repeat (first | (with_reducible first | exact HB.out | apply below_alloc | apply pw_below_drewN | apply below_drew1) | exact HB.out))) : w.heap.size ≤ gb185)); clear HB; have HB := n0_; have BK185 := n1_; have GW185 := n2_; have GE185 := n3_; clear n0_ n1_ n2_ n3_; clear hb hbox hg) | ((with_reducible refine gate_callee (f := 6) rfl ?_); refine goesL_ (some 15) rfl rfl Try.func6 (by kernel_rfl) rfl #[] rfl (by (try simp only [List.map_toArray, List.map_cons, List.map_nil]); first | done | rfl | (simp only [List.length_drop, List.length_take]; rfl)) ?_; (with_reducible refine (incunablelaw42_awake.calls  false _ A3.out).mono ?_); rintro e w131 ⟨rfl, hb⟩; refine ⟨_, rfl, ?_⟩; have n0_ := Aside0.mk (blk_below (g := gb185) (o := .cells #[.int .i64 a1_0, .int .i64 a1_1, .int .i64 a1_2, .int .i64 a1_3, .int .i64 a1_4, .int .i64 a1_5, .int .i64 a1_6] 35 (0, 0)) (by (with_reducible repeat (first | refine blk_drewN ?_ _ | refine blk_drew ?_ | refine blk_alloc ?_ _)); exact BK185.out) hb); have n1_ := Aside0.mk (below_step (by repeat (first | (with_reducible first | exact HB.out | apply below_alloc | apply pw_below_drewN | apply below_drew1 | refine below_set ?_ GE185.out) | exact HB.out)) hb); clear BK185; clear HB; have BK185 := n0_; have HB := n1_; clear n0_ n1_; (try clear hb); (try clear hb2); (try clear hk); (try clear hi)))
    go_ret
    exact ⟨by first | rfl | (simp [errW_none, errW_some] <;> rfl) | (simp [*, errW_none, errW_some] <;> rfl), by repeat (first | (with_reducible first | exact HB.out | apply below_alloc | apply pw_below_drewN | apply below_drew1 | refine below_set ?_ GE185.out) | exact HB.out)⟩

end Go.Proofs.Ytgdkikclniamlaa.M
