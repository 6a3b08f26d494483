/-
  L2pFits: the law's walk (a template of the print, mended by wip/l2p_mv.py).
-/
import Derived.Test.YtjcmpfiklmpoaaaAw
namespace Go.Proofs.Ytjcmpfiklmpoaaa.M
open Go.RowKit Go.Proofs.YtjcmpfiklmpoaaaW.PrintWords Go.Proofs.YtjcmpfiklmpoaaaW.PrintLast Go.Proofs.YtjcmpfiklmpoaaaW.PrintMore
attribute [local go_sem] max2_int min2_int max_two min_two max_three min_three max_four min_four   -- for this text's walks alone
set_option linter.unusedVariables false
set_option linter.unusedSimpArgs false
set_option maxHeartbeats 8000000 in
theorem l2p_Set_nil (a1 a2 : Int) (w : World) : Calls Try.prog 9 #[.pointer none, .int .i64 a1, .int .i64 a2] w fun e w' => e = .returned (.int .i64 1) ∧ Drawn0 w w' := by
  go_enter Try.func9, Try.ntmps9
  go_wp2_with (first | (go_at_call 21; (with_reducible refine l2p_is_nil.mono ?_); rintro e w' ⟨rfl, ⟨nd, rfl⟩⟩))
  go_ret
  exact ⟨by first | rfl | (simp; done) | (simp [*]; done), by repeat (first | exact Drawn0.refl _ | apply Drawn0.step | exact ⟨_, rfl⟩)⟩
/-! ### incunablelaw27_L2pFits: function 4 -/
mutual
def incunablelaw27_L2pFits.l0 : Nat → List (S32) → Int → Int → St → Option (Bool)
  | 0, _, _, _, _ => none
  | k + 1, x65, x66, x67, x173000 => if x67 < x66 then (if 0 ≤ x67 then (if x67 < (x65.length : Int) then ((l2p_Map_Row.f x173000 ((rd_T32 x65 x67).f1)).bind fun bt175 => (if ((rd_T32 x65 x67).f0) = 1 then ((l2p_Map_Set.f bt175.2.2 ((rd_T32 x65 x67).f1) ((rd_T32 x65 x67).f2)).bind fun bt178 => ((l2p_Map_Row.f bt178.2 ((rd_T32 x65 x67).f1)).bind fun bt180 => (if bt178.1 = 0 then (if bt180.2.1 = true then (if bt180.1 = ((rd_T32 x65 x67).f2) then (incunablelaw27_L2pFits.j1 k bt175.1 bt175.2.1 bt178.1 x65 x66 x67 false bt180.2.2 ((rd_T32 x65 x67).f0) ((rd_T32 x65 x67).f1) ((rd_T32 x65 x67).f2)) else (incunablelaw27_L2pFits.j1 k bt175.1 bt175.2.1 bt178.1 x65 x66 x67 true bt180.2.2 ((rd_T32 x65 x67).f0) ((rd_T32 x65 x67).f1) ((rd_T32 x65 x67).f2))) else (incunablelaw27_L2pFits.j1 k bt175.1 bt175.2.1 bt178.1 x65 x66 x67 true bt180.2.2 ((rd_T32 x65 x67).f0) ((rd_T32 x65 x67).f1) ((rd_T32 x65 x67).f2))) else (if (bt180.2.1 != bt175.2.1) = true then (incunablelaw27_L2pFits.j1 k bt175.1 bt175.2.1 bt178.1 x65 x66 x67 true bt180.2.2 ((rd_T32 x65 x67).f0) ((rd_T32 x65 x67).f1) ((rd_T32 x65 x67).f2)) else (incunablelaw27_L2pFits.j1 k bt175.1 bt175.2.1 bt178.1 x65 x66 x67 (bt180.1 != bt175.1) bt180.2.2 ((rd_T32 x65 x67).f0) ((rd_T32 x65 x67).f1) ((rd_T32 x65 x67).f2)))))) else (if ((rd_T32 x65 x67).f0) = 2 then ((l2p_Map_Drop.f bt175.2.2 ((rd_T32 x65 x67).f1)).bind fun bt186 => (if (bt186.1 != bt175.2.1) = true then (some false) else ((l2p_Map_Row.f bt186.2 ((rd_T32 x65 x67).f1)).bind fun bt188 => (if bt188.2.1 = true then (some false) else (incunablelaw27_L2pFits.j2 k x65 x66 x67 bt188.2.2))))) else (incunablelaw27_L2pFits.j2 k x65 x66 x67 bt175.2.2)))) else (none)) else (none)) else (some true)
def incunablelaw27_L2pFits.j2 : Nat → List (S32) → Int → Int → St → Option (Bool)
  | 0, _, _, _, _ => none
  | k + 1, x65, x66, x67, x173000 => incunablelaw27_L2pFits.l1 k 0 x65 x66 x67 0 x173000
def incunablelaw27_L2pFits.l1 : Nat → Int → List (S32) → Int → Int → Int → St → Option (Bool)
  | 0, _, _, _, _, _, _ => none
  | k + 1, x19, x65, x66, x67, x157, x173000 => if x157 < 4 then ((l2p_Map_Valid.f x173000 x157).bind fun bt193 => ((l2p_Map_Rows.f k bt193.2 x157).bind fun bt195 => (incunablelaw27_L2pFits.l2 k (wrap64 (x19 + bt193.1)) x157 x65 x66 x67 x157 bt195.1 (bt195.1.length : Int) 0 bt195.2))) else ((l2p_Map_Len.f x173000).bind fun bt191 => (if x19 = bt191.1 then (incunablelaw27_L2pFits.l0 k x65 x66 (wrap64 (x67 + 1)) bt191.2) else (some false)))
def incunablelaw27_L2pFits.l2 : Nat → Int → Int → List (S32) → Int → Int → Int → List Int → Int → Int → St → Option (Bool)
  | 0, _, _, _, _, _, _, _, _, _, _ => none
  | k + 1, x19, x20, x65, x66, x67, x157, x167, x168, x169, x173000 => if x169 < x168 then (if 0 ≤ x169 then (if x169 < (x167.length : Int) then ((l2p_Map_Sector.f x173000 (rd x167 x169)).bind fun bt200 => ((l2p_Map_Row.f bt200.2.2 bt200.1).bind fun bt203 => (if bt200.2.1 = true then (if bt203.2.1 = true then (if bt203.1 = (rd x167 x169) then (if (wrap64 (Int.tdiv (rd x167 x169) 6)) = x20 then (incunablelaw27_L2pFits.l2 k x19 x20 x65 x66 x67 x157 x167 x168 (wrap64 (x169 + 1)) bt203.2.2) else (some false)) else (some false)) else (some false)) else (some false)))) else (none)) else (none)) else (incunablelaw27_L2pFits.l1 k x19 x65 x66 x67 (wrap64 (x157 + 1)) x173000)
def incunablelaw27_L2pFits.j1 : Nat → Int → Bool → Int → List (S32) → Int → Int → Bool → St → Int → Int → Int → Option (Bool)
  | 0, _, _, _, _, _, _, _, _, _, _, _ => none
  | k + 1, x10, x11, x12, x65, x66, x67, x120, x173000, x175000, x175001, x175002 => if x120 = true then (some false) else ((l2p_Map_Sector.f x173000 x10).bind fun bt183 => (if x12 = 0 then (if x11 = true then (if x10 = x175002 then (incunablelaw27_L2pFits.j2 k x65 x66 x67 bt183.2.2) else (if bt183.2.1 = true then (some false) else (incunablelaw27_L2pFits.j2 k x65 x66 x67 bt183.2.2))) else (incunablelaw27_L2pFits.j2 k x65 x66 x67 bt183.2.2)) else (incunablelaw27_L2pFits.j2 k x65 x66 x67 bt183.2.2)))
end
def incunablelaw27_L2pFits.f (k : Nat) (l0 : List (S32)) : Option (Bool) := (incunablelaw27_awake.f k).bind fun t170 => (if t170 = true then (if (l0.length : Int) > 60 then (some true) else ((l2p_New.f 12 4 6).bind fun t171 => (if 0 = 0 then (incunablelaw27_L2pFits.l0 k l0 (l0.length : Int) 0 t171) else (some false)))) else (some false))
set_option maxHeartbeats 8000000 in
set_option maxRecDepth 100000 in
theorem incunablelaw27_L2pFits.calls (k : Nat) (A0 : Option Addr) (c0 : Nat) (l0 : List (S32)) (r : Bool) (w : World) (hr0 : Kd.C k32 w A0 l0.length l0) (hc0 : l0.length ≤ c0) (h : incunablelaw27_L2pFits.f k l0 = some r) :
    Calls Try.prog 4 #[.slice A0 l0.length c0] w fun e w' => e = .returned (.bool r) ∧ Below w.heap.size w w' := by
  have hu32 := Try.underlying32
  have HR0 := Aside0.mk hr0
  have HC0 := Aside0.mk hc0
  clear hr0 hc0
  have HB := Aside0.mk (Below.refl w.heap.size w)
  have H : ((incunablelaw27_awake.f k).bind fun t170 => (if t170 = true then (if (l0.length : Int) > 60 then (some true) else ((l2p_New.f 12 4 6).bind fun t171 => (if 0 = 0 then (incunablelaw27_L2pFits.l0 k l0 (l0.length : Int) 0 t171) else (some false)))) else (some false))) = some r := h
  clear h
  replace H := Option.bind_eq_some_iff.mp H
  obtain ⟨t170, A20, H⟩ := H
  replace H : (if t170 = true then (if (l0.length : Int) > 60 then (some true) else ((l2p_New.f 12 4 6).bind fun t171 => (if 0 = 0 then (incunablelaw27_L2pFits.l0 k l0 (l0.length : Int) 0 t171) else (some false)))) else (some false)) = some r := H
  have A2 := Aside0.mk A20
  clear A20
  by_cases c3 : t170 = true
  · subst c3
    have H1 : (if (l0.length : Int) > 60 then (some true) else ((l2p_New.f 12 4 6).bind fun t171 => (if 0 = 0 then (incunablelaw27_L2pFits.l0 k l0 (l0.length : Int) 0 t171) else (some false)))) = some r := by rw [if_pos rfl] at H; exact H
    clear H
    have H := H1
    clear H1
    by_cases c4 : (l0.length : Int) > 60
    · rw [if_pos c4] at H
      have c4b0 : decide (60 < (l0.length : Int)) = true := decide_eq_true c4
      have c4b1 : decide (60 < l0.length) = true := decide_eq_true (by omega)
      clear c4
      obtain rfl := Option.some.inj H
      go_enter Try.func4, Try.ntmps4
      go_wp2_with (first | ((with_reducible refine gate_callee (f := 6) rfl ?_); refine goesL_ (some 27) rfl rfl Try.func6 (by kernel_rfl) rfl #[] rfl (by (try simp only [List.map_toArray, List.map_cons, List.map_nil]); first | done | rfl | (simp only [List.length_drop, List.length_take]; rfl)) ?_; (with_reducible refine (incunablelaw27_awake.calls k  true _ A2.out).mono ?_); rintro e w5 ⟨rfl, hb⟩; refine ⟨_, rfl, ?_⟩; have n0_ := Aside0.mk (below_step (by repeat (first | (with_reducible first | exact HB.out | apply below_alloc | apply pw_below_drewN | apply below_drew1) | exact HB.out)) hb); clear HB; have HB := n0_; clear n0_; (try clear hb); (try clear hb2); (try clear hk); (try clear hi)) | (go_at_call 13; (with_reducible refine (l2p_Row_nil 0 _).mono ?_); rintro e w' ⟨rfl, ⟨nd, rfl⟩⟩) | (go_at_call 9; (with_reducible refine (l2p_Set_nil 0 0 _).mono ?_); rintro e w' ⟨rfl, ⟨nd, rfl⟩⟩) | (go_at_call 11; (with_reducible refine (l2p_Drop_nil 0 _).mono ?_); rintro e w' ⟨rfl, ⟨nd, rfl⟩⟩) | (go_at_call 18; (with_reducible refine (l2p_Valid_nil 0 _).mono ?_); rintro e w' ⟨rfl, ⟨nd, rfl⟩⟩) | (go_at_call 19; (with_reducible refine (l2p_Len_nil _).mono ?_); rintro e w' ⟨rfl, ⟨nd, rfl⟩⟩) | (go_at_call 16; (with_reducible refine (l2p_Rows_nil 0 _).mono ?_); rintro e w' ⟨rfl, ⟨nd, rfl⟩⟩))
      go_ret
      exact ⟨by first | rfl | (simp [errW_none, errW_some] <;> rfl) | (simp [*, errW_none, errW_some] <;> rfl), by repeat (first | (with_reducible first | exact HB.out | apply below_alloc | apply pw_below_drewN | apply below_drew1) | exact HB.out)⟩
    · rw [if_neg c4] at H
      have c4b0 : decide (60 < (l0.length : Int)) = false := decide_eq_false c4
      have c4b1 : decide (60 < l0.length) = false := decide_eq_false (by omega)
      clear c4
      replace H := Option.bind_eq_some_iff.mp H
      obtain ⟨t171, A60, H⟩ := H
      replace H : (if 0 = 0 then (incunablelaw27_L2pFits.l0 k l0 (l0.length : Int) 0 t171) else (some false)) = some r := H
      have A6 := Aside0.mk A60
      clear A60
      by_cases c7 : 0 = 0
      · rw [if_pos c7] at H
        have c7b0 : (0 == 0) = true := beq_iff_eq.mpr c7
        have c7b1 : (0 != 0) = false := bne_eq_false_iff_eq.mpr c7
        clear c7
        have H' := Aside0.mk H
        clear H
        go_enter Try.func4, Try.ntmps4
        go_wp2_with (first | ((with_reducible refine gate_callee (f := 6) rfl ?_); refine goesL_ (some 27) rfl rfl Try.func6 (by kernel_rfl) rfl #[] rfl (by (try simp only [List.map_toArray, List.map_cons, List.map_nil]); first | done | rfl | (simp only [List.length_drop, List.length_take]; rfl)) ?_; (with_reducible refine (incunablelaw27_awake.calls k  true _ A2.out).mono ?_); rintro e w8 ⟨rfl, hb⟩; refine ⟨_, rfl, ?_⟩; have n0_ := Aside0.mk (below_step (by repeat (first | (with_reducible first | exact HB.out | apply below_alloc | apply pw_below_drewN | apply below_drew1) | exact HB.out)) hb); clear HB; have HB := n0_; clear n0_; (try clear hb); (try clear hb2); (try clear hk); (try clear hi)) | ((with_reducible refine gate_callee (f := 7) rfl ?_); refine goesL_ (some 60) rfl rfl Try.func7 (by kernel_rfl) rfl #[.int .i64 12, .int .i64 4, .int .i64 6] rfl (by (try simp only [List.map_toArray, List.map_cons, List.map_nil]); first | done | rfl | (simp only [List.length_drop, List.length_take]; rfl)) ?_; (with_reducible refine (l2p_New.calls 12 4 6 t171 w _ ?side1 A6.out).mono ?_); (case side1 => repeat (first | (with_reducible first | exact HB.out | apply below_alloc | apply pw_below_drewN | apply below_drew1) | exact HB.out)); rintro e w9 ⟨g172, rfl, hi, hb, hb2⟩; refine ⟨_, rfl, ?_⟩; have n0_ := Aside0.mk (hb); have n1_ := Aside0.mk (hi); clear HB; have HB := n0_; have HI172 := n1_; clear n0_ n1_; (try clear hb); (try clear hb2); (try clear hk); (try clear hi)) | (go_at_call 13; (with_reducible refine (l2p_Row_nil 0 _).mono ?_); rintro e w' ⟨rfl, ⟨nd, rfl⟩⟩) | (go_at_call 9; (with_reducible refine (l2p_Set_nil 0 0 _).mono ?_); rintro e w' ⟨rfl, ⟨nd, rfl⟩⟩) | (go_at_call 11; (with_reducible refine (l2p_Drop_nil 0 _).mono ?_); rintro e w' ⟨rfl, ⟨nd, rfl⟩⟩) | (go_at_call 18; (with_reducible refine (l2p_Valid_nil 0 _).mono ?_); rintro e w' ⟨rfl, ⟨nd, rfl⟩⟩) | (go_at_call 19; (with_reducible refine (l2p_Len_nil _).mono ?_); rintro e w' ⟨rfl, ⟨nd, rfl⟩⟩) | (go_at_call 16; (with_reducible refine (l2p_Rows_nil 0 _).mono ?_); rintro e w' ⟨rfl, ⟨nd, rfl⟩⟩))
        go_loopg [67] k (fun kq v67 w' => ∃ (x67_1 : Int) (x173000_1 : St), v67 = .int .i64 x67_1 ∧ Aside0 (incunablelaw27_L2pFits.l0 kq l0 (l0.length : Int) x67_1 x173000_1 = some r) ∧ Aside0 (kq ≤ k) ∧ Aside0 (IsS49 w w' g172 x173000_1) ∧ Aside0 (Below w.heap.size w w'))
        case atStart => exact ⟨(0), (t171), (by first | rfl | (simp; done) | (simp [*]; done)), H', ⟨Nat.le_refl _⟩, ⟨by repeat (first | (with_reducible first | exact HI172.out | apply IsS49.alloc | apply IsS49.drewN | apply IsS49.drew | apply IsS49.set_0) | exact HI172.out)⟩, ⟨by repeat (first | (with_reducible first | exact HB.out | apply below_alloc | apply pw_below_drewN | apply below_drew1 | refine below_set ?_ (IsS49.ge HI172.out)) | exact HB.out)⟩⟩
        case round =>
          clear H'
          try clear p2
          try clear c3
          try clear c4
          try clear c4b0
          try clear c4b1
          try clear c6
          try clear c7
          try clear c7b0
          try clear c7b1
          obtain ⟨x67_1, x173000_1, rfl, HA, HK1, HI172, HB⟩ := hrel
          cases gk with
          | zero => exact absurd HA.out (by simp [incunablelaw27_L2pFits.l0])
          | succ k1 =>
            have H := HA.out
            clear HA
            simp only [incunablelaw27_L2pFits.l0] at H
            by_cases c10 : x67_1 < (l0.length : Int)
            · rw [if_pos c10] at H
              have c10b0 : decide (x67_1 < (l0.length : Int)) = true := decide_eq_true c10
              clear c10
              by_cases c11 : 0 ≤ x67_1
              · rw [if_pos c11] at H
                have c11b0 : decide (0 ≤ x67_1) = true := decide_eq_true c11
                clear c11
                by_cases c12 : x67_1 < (l0.length : Int)
                · rw [if_pos c12] at H
                  have c12b0 : decide (x67_1 < (l0.length : Int)) = true := decide_eq_true c12
                  clear c12
                  replace H := Option.bind_eq_some_iff.mp H
                  obtain ⟨⟨t175, t176, t177⟩, A130, H⟩ := H
                  replace H : (if ((rd_T32 l0 x67_1).f0) = 1 then ((l2p_Map_Set.f t177 ((rd_T32 l0 x67_1).f1) ((rd_T32 l0 x67_1).f2)).bind fun bt178 => ((l2p_Map_Row.f bt178.2 ((rd_T32 l0 x67_1).f1)).bind fun bt180 => (if bt178.1 = 0 then (if bt180.2.1 = true then (if bt180.1 = ((rd_T32 l0 x67_1).f2) then (incunablelaw27_L2pFits.j1 k1 t175 t176 bt178.1 l0 (l0.length : Int) x67_1 false bt180.2.2 ((rd_T32 l0 x67_1).f0) ((rd_T32 l0 x67_1).f1) ((rd_T32 l0 x67_1).f2)) else (incunablelaw27_L2pFits.j1 k1 t175 t176 bt178.1 l0 (l0.length : Int) x67_1 true bt180.2.2 ((rd_T32 l0 x67_1).f0) ((rd_T32 l0 x67_1).f1) ((rd_T32 l0 x67_1).f2))) else (incunablelaw27_L2pFits.j1 k1 t175 t176 bt178.1 l0 (l0.length : Int) x67_1 true bt180.2.2 ((rd_T32 l0 x67_1).f0) ((rd_T32 l0 x67_1).f1) ((rd_T32 l0 x67_1).f2))) else (if (bt180.2.1 != t176) = true then (incunablelaw27_L2pFits.j1 k1 t175 t176 bt178.1 l0 (l0.length : Int) x67_1 true bt180.2.2 ((rd_T32 l0 x67_1).f0) ((rd_T32 l0 x67_1).f1) ((rd_T32 l0 x67_1).f2)) else (incunablelaw27_L2pFits.j1 k1 t175 t176 bt178.1 l0 (l0.length : Int) x67_1 (bt180.1 != t175) bt180.2.2 ((rd_T32 l0 x67_1).f0) ((rd_T32 l0 x67_1).f1) ((rd_T32 l0 x67_1).f2)))))) else (if ((rd_T32 l0 x67_1).f0) = 2 then ((l2p_Map_Drop.f t177 ((rd_T32 l0 x67_1).f1)).bind fun bt186 => (if (bt186.1 != t176) = true then (some false) else ((l2p_Map_Row.f bt186.2 ((rd_T32 l0 x67_1).f1)).bind fun bt188 => (if bt188.2.1 = true then (some false) else (incunablelaw27_L2pFits.j2 k1 l0 (l0.length : Int) x67_1 bt188.2.2))))) else (incunablelaw27_L2pFits.j2 k1 l0 (l0.length : Int) x67_1 t177))) = some r := H
                  have A13 := Aside0.mk A130
                  clear A130
                  have HC14 := Aside0.mk H
                  clear H
                  have p173 : 0 ≤ (x67_1 : Int) := of_decide_eq_true (by first | (with_reducible assumption) | assumption)
                  have q173 : x67_1 < (l0.length : Int) := of_decide_eq_true (by first | (with_reducible assumption) | assumption)
                  obtain ⟨ad173, e173, hx173_0, hx173_1, hx173_2⟩ := at_T32 HR0.out x67_1 p173 q173
                  cases e173
                  replace hx173_0 := (HB.out.cell (World.block_lt_of_cell? w _ hx173_0)).trans hx173_0
                  replace hx173_1 := (HB.out.cell (World.block_lt_of_cell? w _ hx173_1)).trans hx173_1
                  replace hx173_2 := (HB.out.cell (World.block_lt_of_cell? w _ hx173_2)).trans hx173_2
                  replace p173 := eq_true p173
                  replace q173 := eq_true q173
                  go_upto_block 2 with (first | ((with_reducible refine gate_dst (N := 9) rfl ?_); refine box_event ?hg (N := 9) ?hd (cs := #[.int .i64 0, .int .i64 0, .int .i64 0]) (t := 32) ?hr ?_; (case hd => rfl); (case hg => rfl); (case hr => first | (go_simp; done) | (go_simp; rfl)); intro gb174 hg w15 hbox hb; have n0_ := Aside0.mk (IsS49.below (by repeat (first | (with_reducible first | exact HI172.out | apply IsS49.alloc | apply IsS49.drewN | apply IsS49.drew | apply IsS49.set_0) | exact HI172.out)) hb); have n1_ := Aside0.mk (below_step (by repeat (first | (with_reducible first | exact HB.out | apply below_alloc | apply pw_below_drewN | apply below_drew1 | refine below_set ?_ (IsS49.ge HI172.out)) | exact HB.out)) hb); have n2_ := Aside0.mk (hbox); have n3_ := Aside0.mk ((by rw [hg]; exact (below_size (by repeat (first | (with_reducible first | exact HB.out | apply below_alloc | apply pw_below_drewN | apply below_drew1 | refine below_set ?_ (IsS49.ge HI172.out)) | exact HB.out))) : w.heap.size ≤ gb174)); have n4_ := Aside0.mk ((by rw [hg]; exact (below_size (by repeat (first | (with_reducible first | exact HB.out | apply below_alloc | apply pw_below_drewN | apply below_drew1 | refine below_set ?_ (IsS49.ge HI172.out)) | exact HB.out))) : w.heap.size ≤ gb174)); have n5_ := Aside0.mk ((by rw [hg]; exact Nat.ne_of_lt (IsS49.lt (show IsS49 w _ g172 x173000_1 from by repeat (first | (with_reducible first | exact HI172.out | apply IsS49.alloc | apply IsS49.drewN | apply IsS49.drew | apply IsS49.set_0) | exact HI172.out))) : g172 ≠ gb174)); have n6_ := Aside0.mk ((by rw [hg]; exact Nat.ne_of_gt (IsS49.lt (show IsS49 w _ g172 x173000_1 from by repeat (first | (with_reducible first | exact HI172.out | apply IsS49.alloc | apply IsS49.drewN | apply IsS49.drew | apply IsS49.set_0) | exact HI172.out))) : gb174 ≠ g172)); clear HI172; clear HB; have HI172 := n0_; have HB := n1_; have BK174 := n2_; have GW174 := n3_; have GE174 := n4_; have NB172_174 := n5_; have NB174_172 := n6_; clear n0_ n1_ n2_ n3_ n4_ n5_ n6_; clear hb hbox hg; have hnb16 := NB174_172.out; have hnc16 := NB172_174.out; have hcz17_0 : w15.cell? ⟨gb174, 0, none⟩ = some (.int .i64 0) := (blk_cell BK174.out 0).trans rfl; have hcz17_1 : w15.cell? ⟨gb174, 1, none⟩ = some (.int .i64 0) := (blk_cell BK174.out 1).trans rfl; have hcz17_2 : w15.cell? ⟨gb174, 2, none⟩ = some (.int .i64 0) := (blk_cell BK174.out 2).trans rfl; have hfz17_0 := blk_frozen BK174.out 0; have hfz17_1 := blk_frozen BK174.out 1; have hfz17_2 := blk_frozen BK174.out 2) | ((with_reducible refine gate_store (t := 32) (p := 9) rfl ?_); refine store_event (t := 32) (p := 9) (v := ?vo_) (w1 := ((w15.setCell ⟨gb174, 0, none⟩ (.int .i64 ((rd_T32 l0 x67_1).f0))).setCell ⟨gb174, 1, none⟩ (.int .i64 ((rd_T32 l0 x67_1).f1))).setCell ⟨gb174, 2, none⟩ (.int .i64 ((rd_T32 l0 x67_1).f2))) ?hg ?ho ?hn ?hr ?_; (case ho => rfl); (case hg => rfl); (case hn => rfl); (case hr => first | (go_simp; done) | (go_simp; rfl)); intro w15s hw; have m0_ : Aside0 (w15s.heap[gb174]? = some (.cells #[.int .i64 ((rd_T32 l0 x67_1).f0), .int .i64 ((rd_T32 l0 x67_1).f1), .int .i64 ((rd_T32 l0 x67_1).f2)] 32 (0, 0))) := ⟨by rw [hw]; exact blk_put (blk_put (blk_put BK174.out 0 _ rfl) 1 _ rfl) 2 _ rfl⟩; have m1_ : Aside0 (IsS49 w w15s g172 x173000_1) := ⟨by rw [hw]; exact IsS49.far3 HI172.out BK174.out (by decide) (by decide) _ _ _⟩; have m2_ : Aside0 (Below w.heap.size w w15s) := ⟨by rw [hw]; exact below_set (below_set (below_set HB.out GE174.out) GE174.out) GE174.out⟩; clear BK174; clear HI172; clear HB; have BK174 := m0_; have HI172 := m1_; have HB := m2_; clear m0_ m1_ m2_ hw; (try clear hcz17_0 hcz17_1 hcz17_2 hfz17_0 hfz17_1 hfz17_2); have hys174_0 : w15s.cell? ⟨gb174, 0, none⟩ = some (.int .i64 ((rd_T32 l0 x67_1).f0)) := (blk_cell BK174.out 0).trans rfl; have hzs174_0 := blk_frozen BK174.out 0; have hys174_1 : w15s.cell? ⟨gb174, 1, none⟩ = some (.int .i64 ((rd_T32 l0 x67_1).f1)) := (blk_cell BK174.out 1).trans rfl; have hzs174_1 := blk_frozen BK174.out 1; have hys174_2 : w15s.cell? ⟨gb174, 2, none⟩ = some (.int .i64 ((rd_T32 l0 x67_1).f2)) := (blk_cell BK174.out 2).trans rfl; have hzs174_2 := blk_frozen BK174.out 2) | ((with_reducible refine gate_callee (f := 13) rfl ?_); refine goesL_ (some 75) rfl rfl Try.func13 (by kernel_rfl) rfl #[.pointer (some ⟨g172, 0, none⟩), .int .i64 ((rd_T32 l0 x67_1).f1)] rfl (by (try simp only [List.map_toArray, List.map_cons, List.map_nil]); first | done | rfl | (simp only [List.length_drop, List.length_take]; rfl)) ?_; (with_reducible refine (l2p_Map_Row.calls g172 x173000_1 ((rd_T32 l0 x67_1).f1) t175 t176 t177 w _ ?side1 ?side2 A13.out).mono ?_); (case side1 => repeat (first | (with_reducible first | exact HI172.out | apply IsS49.alloc | apply IsS49.drewN | apply IsS49.drew | apply IsS49.set_0 | refine IsS49.far ?_ NB172_174.out _) | exact HI172.out)); (case side2 => repeat (first | (with_reducible first | exact HB.out | apply below_alloc | apply pw_below_drewN | apply below_drew1 | refine below_set ?_ (IsS49.ge HI172.out) | refine below_set ?_ GE174.out) | exact HB.out)); rintro e w18 ⟨rfl, hi, hb, hk⟩; refine ⟨_, rfl, ?_⟩; have n0_ := Aside0.mk (KeepBut.blk hk (g' := gb174) (o := .cells #[.int .i64 ((rd_T32 l0 x67_1).f0), .int .i64 ((rd_T32 l0 x67_1).f1), .int .i64 ((rd_T32 l0 x67_1).f2)] 32 (0, 0)) (by (with_reducible repeat (first | refine blk_drewN ?_ _ | refine blk_drew ?_ | refine blk_alloc ?_ _)); (with_reducible repeat (first | refine blk_drewN ?_ _ | refine blk_drew ?_ | refine blk_alloc ?_ _)); (with_reducible repeat (first | refine blk_drewN ?_ _ | refine blk_drew ?_ | refine blk_alloc ?_ _)); (with_reducible repeat (first | refine blk_drewN ?_ _ | refine blk_drew ?_ | refine blk_alloc ?_ _)); exact BK174.out) NB174_172.out (by simp)); have n1_ := Aside0.mk (hb); have n2_ := Aside0.mk (hi); clear BK174; clear HB; clear HI172; have BK174 := n0_; have HB := n1_; have HI172 := n2_; clear n0_ n1_ n2_; (try clear hb); (try clear hb2); (try clear hk); (try clear hi); have hcz19_0 : w18.cell? ⟨gb174, 0, none⟩ = some (.int .i64 ((rd_T32 l0 x67_1).f0)) := (blk_cell BK174.out 0).trans rfl; have hcz19_1 : w18.cell? ⟨gb174, 1, none⟩ = some (.int .i64 ((rd_T32 l0 x67_1).f1)) := (blk_cell BK174.out 1).trans rfl; have hcz19_2 : w18.cell? ⟨gb174, 2, none⟩ = some (.int .i64 ((rd_T32 l0 x67_1).f2)) := (blk_cell BK174.out 2).trans rfl; have hfz19_0 := blk_frozen BK174.out 0; have hfz19_1 := blk_frozen BK174.out 1; have hfz19_2 := blk_frozen BK174.out 2))
                  (try simp only [Act.put, List.setIfInBounds_toArray, List.set_cons_zero, List.set_cons_succ])
                  go_cut [] (fun wc => ∃ (kq : Nat) (x173000_13 : St), Aside0 (incunablelaw27_L2pFits.j2 kq l0 (l0.length : Int) x67_1 x173000_13 = some r) ∧ Aside0 (kq ≤ k1) ∧ Aside0 (wc.heap[gb174]? = some (.cells #[.int .i64 ((rd_T32 l0 x67_1).f0), .int .i64 ((rd_T32 l0 x67_1).f1), .int .i64 ((rd_T32 l0 x67_1).f2)] 32 (0, 0))) ∧ Aside0 (IsS49 w wc g172 x173000_13) ∧ Aside0 (Below w.heap.size w wc))
                  case first =>
                    have H := HC14.out
                    clear HC14
                    by_cases c20 : ((rd_T32 l0 x67_1).f0) = 1
                    · rw [if_pos c20] at H
                      have c20b0 : (((rd_T32 l0 x67_1).f0) == 1) = true := beq_iff_eq.mpr c20
                      have c20b1 : (((rd_T32 l0 x67_1).f0) != 1) = false := bne_eq_false_iff_eq.mpr c20
                      clear c20
                      (first | rw [c20b0] | (simp only [i64_w, i32_w]; rw [c20b0]) | skip)
                      replace H := Option.bind_eq_some_iff.mp H
                      obtain ⟨⟨t178, t179⟩, A210, H⟩ := H
                      replace H : ((l2p_Map_Row.f t179 ((rd_T32 l0 x67_1).f1)).bind fun bt180 => (if t178 = 0 then (if bt180.2.1 = true then (if bt180.1 = ((rd_T32 l0 x67_1).f2) then (incunablelaw27_L2pFits.j1 k1 t175 t176 t178 l0 (l0.length : Int) x67_1 false bt180.2.2 ((rd_T32 l0 x67_1).f0) ((rd_T32 l0 x67_1).f1) ((rd_T32 l0 x67_1).f2)) else (incunablelaw27_L2pFits.j1 k1 t175 t176 t178 l0 (l0.length : Int) x67_1 true bt180.2.2 ((rd_T32 l0 x67_1).f0) ((rd_T32 l0 x67_1).f1) ((rd_T32 l0 x67_1).f2))) else (incunablelaw27_L2pFits.j1 k1 t175 t176 t178 l0 (l0.length : Int) x67_1 true bt180.2.2 ((rd_T32 l0 x67_1).f0) ((rd_T32 l0 x67_1).f1) ((rd_T32 l0 x67_1).f2))) else (if (bt180.2.1 != t176) = true then (incunablelaw27_L2pFits.j1 k1 t175 t176 t178 l0 (l0.length : Int) x67_1 true bt180.2.2 ((rd_T32 l0 x67_1).f0) ((rd_T32 l0 x67_1).f1) ((rd_T32 l0 x67_1).f2)) else (incunablelaw27_L2pFits.j1 k1 t175 t176 t178 l0 (l0.length : Int) x67_1 (bt180.1 != t175) bt180.2.2 ((rd_T32 l0 x67_1).f0) ((rd_T32 l0 x67_1).f1) ((rd_T32 l0 x67_1).f2))))) = some r := H
                      have A21 := Aside0.mk A210
                      clear A210
                      replace H := Option.bind_eq_some_iff.mp H
                      obtain ⟨⟨t180, t181, t182⟩, A220, H⟩ := H
                      replace H : (if t178 = 0 then (if t181 = true then (if t180 = ((rd_T32 l0 x67_1).f2) then (incunablelaw27_L2pFits.j1 k1 t175 t176 t178 l0 (l0.length : Int) x67_1 false t182 ((rd_T32 l0 x67_1).f0) ((rd_T32 l0 x67_1).f1) ((rd_T32 l0 x67_1).f2)) else (incunablelaw27_L2pFits.j1 k1 t175 t176 t178 l0 (l0.length : Int) x67_1 true t182 ((rd_T32 l0 x67_1).f0) ((rd_T32 l0 x67_1).f1) ((rd_T32 l0 x67_1).f2))) else (incunablelaw27_L2pFits.j1 k1 t175 t176 t178 l0 (l0.length : Int) x67_1 true t182 ((rd_T32 l0 x67_1).f0) ((rd_T32 l0 x67_1).f1) ((rd_T32 l0 x67_1).f2))) else (if (t181 != t176) = true then (incunablelaw27_L2pFits.j1 k1 t175 t176 t178 l0 (l0.length : Int) x67_1 true t182 ((rd_T32 l0 x67_1).f0) ((rd_T32 l0 x67_1).f1) ((rd_T32 l0 x67_1).f2)) else (incunablelaw27_L2pFits.j1 k1 t175 t176 t178 l0 (l0.length : Int) x67_1 (t180 != t175) t182 ((rd_T32 l0 x67_1).f0) ((rd_T32 l0 x67_1).f1) ((rd_T32 l0 x67_1).f2)))) = some r := H
                      have A22 := Aside0.mk A220
                      clear A220
                      have HC23 := Aside0.mk H
                      clear H
                      have hnb24 := NB174_172.out
                      have hnc24 := NB172_174.out
                      have hcz25_0 : w18.cell? ⟨gb174, 0, none⟩ = some (.int .i64 ((rd_T32 l0 x67_1).f0)) := (blk_cell BK174.out 0).trans rfl
                      have hcz25_1 : w18.cell? ⟨gb174, 1, none⟩ = some (.int .i64 ((rd_T32 l0 x67_1).f1)) := (blk_cell BK174.out 1).trans rfl
                      have hcz25_2 : w18.cell? ⟨gb174, 2, none⟩ = some (.int .i64 ((rd_T32 l0 x67_1).f2)) := (blk_cell BK174.out 2).trans rfl
                      have hfz25_0 := blk_frozen BK174.out 0
                      have hfz25_1 := blk_frozen BK174.out 1
                      have hfz25_2 := blk_frozen BK174.out 2
                      go_upto_region 20 with (first | ((with_reducible refine gate_callee (f := 9) rfl ?_); refine goesL_ (some 87) rfl rfl Try.func9 (by kernel_rfl) rfl #[.pointer (some ⟨g172, 0, none⟩), .int .i64 ((rd_T32 l0 x67_1).f1), .int .i64 ((rd_T32 l0 x67_1).f2)] rfl (by (try simp only [List.map_toArray, List.map_cons, List.map_nil]); first | done | rfl | (simp only [List.length_drop, List.length_take]; rfl)) ?_; (with_reducible refine (l2p_Map_Set.calls g172 t177 ((rd_T32 l0 x67_1).f1) ((rd_T32 l0 x67_1).f2) t178 t179 w _ ?side1 ?side2 A21.out).mono ?_); (case side1 => repeat (first | (with_reducible first | exact HI172.out | apply IsS49.alloc | apply IsS49.drewN | apply IsS49.drew | apply IsS49.set_0 | refine IsS49.far ?_ NB172_174.out _) | exact HI172.out)); (case side2 => repeat (first | (with_reducible first | exact HB.out | apply below_alloc | apply pw_below_drewN | apply below_drew1 | refine below_set ?_ (IsS49.ge HI172.out) | refine below_set ?_ GE174.out) | exact HB.out)); rintro e w26 ⟨rfl, hi, hb, hk⟩; refine ⟨_, rfl, ?_⟩; have n0_ := Aside0.mk (KeepT.blk hk (by (with_reducible repeat (first | refine blk_drewN ?_ _ | refine blk_drew ?_ | refine blk_alloc ?_ _)); exact BK174.out) (by decide) (by decide)); have n1_ := Aside0.mk (hb); have n2_ := Aside0.mk (hi); clear BK174; clear HB; clear HI172; have BK174 := n0_; have HB := n1_; have HI172 := n2_; clear n0_ n1_ n2_; (try clear hb); (try clear hb2); (try clear hk); (try clear hi); have hcz27_0 : w26.cell? ⟨gb174, 0, none⟩ = some (.int .i64 ((rd_T32 l0 x67_1).f0)) := (blk_cell BK174.out 0).trans rfl; have hcz27_1 : w26.cell? ⟨gb174, 1, none⟩ = some (.int .i64 ((rd_T32 l0 x67_1).f1)) := (blk_cell BK174.out 1).trans rfl; have hcz27_2 : w26.cell? ⟨gb174, 2, none⟩ = some (.int .i64 ((rd_T32 l0 x67_1).f2)) := (blk_cell BK174.out 2).trans rfl; have hfz27_0 := blk_frozen BK174.out 0; have hfz27_1 := blk_frozen BK174.out 1; have hfz27_2 := blk_frozen BK174.out 2) | ((with_reducible refine gate_callee (f := 13) rfl ?_); refine goesL_ (some 92) rfl rfl Try.func13 (by kernel_rfl) rfl #[.pointer (some ⟨g172, 0, none⟩), .int .i64 ((rd_T32 l0 x67_1).f1)] rfl (by (try simp only [List.map_toArray, List.map_cons, List.map_nil]); first | done | rfl | (simp only [List.length_drop, List.length_take]; rfl)) ?_; (with_reducible refine (l2p_Map_Row.calls g172 t179 ((rd_T32 l0 x67_1).f1) t180 t181 t182 w _ ?side1 ?side2 A22.out).mono ?_); (case side1 => repeat (first | (with_reducible first | exact HI172.out | apply IsS49.alloc | apply IsS49.drewN | apply IsS49.drew | apply IsS49.set_0 | refine IsS49.far ?_ NB172_174.out _) | exact HI172.out)); (case side2 => repeat (first | (with_reducible first | exact HB.out | apply below_alloc | apply pw_below_drewN | apply below_drew1 | refine below_set ?_ (IsS49.ge HI172.out) | refine below_set ?_ GE174.out) | exact HB.out)); rintro e w28 ⟨rfl, hi, hb, hk⟩; refine ⟨_, rfl, ?_⟩; have n0_ := Aside0.mk (KeepBut.blk hk (g' := gb174) (o := .cells #[.int .i64 ((rd_T32 l0 x67_1).f0), .int .i64 ((rd_T32 l0 x67_1).f1), .int .i64 ((rd_T32 l0 x67_1).f2)] 32 (0, 0)) (by (with_reducible repeat (first | refine blk_drewN ?_ _ | refine blk_drew ?_ | refine blk_alloc ?_ _)); exact BK174.out) NB174_172.out (by simp)); have n1_ := Aside0.mk (hb); have n2_ := Aside0.mk (hi); clear BK174; clear HB; clear HI172; have BK174 := n0_; have HB := n1_; have HI172 := n2_; clear n0_ n1_ n2_; (try clear hb); (try clear hb2); (try clear hk); (try clear hi)))
                      (try simp only [Act.put, List.setIfInBounds_toArray, List.set_cons_zero, List.set_cons_succ])
                      go_cut [120] (fun v120 wc => ∃ (kq : Nat) (x120_22 : Bool), v120 = .bool x120_22 ∧ Aside0 (incunablelaw27_L2pFits.j1 kq t175 t176 t178 l0 (l0.length : Int) x67_1 x120_22 t182 ((rd_T32 l0 x67_1).f0) ((rd_T32 l0 x67_1).f1) ((rd_T32 l0 x67_1).f2) = some r) ∧ Aside0 (kq ≤ k1) ∧ Aside0 (wc.heap[gb174]? = some (.cells #[.int .i64 ((rd_T32 l0 x67_1).f0), .int .i64 ((rd_T32 l0 x67_1).f1), .int .i64 ((rd_T32 l0 x67_1).f2)] 32 (0, 0))) ∧ Aside0 (IsS49 w wc g172 t182) ∧ Aside0 (Below w.heap.size w wc))
                      case first =>
                        have H := HC23.out
                        clear HC23
                        by_cases c29 : t178 = 0
                        · rw [if_pos c29] at H
                          have c29b0 : (t178 == 0) = true := beq_iff_eq.mpr c29
                          have c29b1 : (t178 != 0) = false := bne_eq_false_iff_eq.mpr c29
                          clear c29
                          (first | rw [c29b0] | (simp only [i64_w, i32_w]; rw [c29b0]) | skip)
                          by_cases c30 : t181 = true
                          · subst c30
                            have H1 : (if t180 = ((rd_T32 l0 x67_1).f2) then (incunablelaw27_L2pFits.j1 k1 t175 t176 t178 l0 (l0.length : Int) x67_1 false t182 ((rd_T32 l0 x67_1).f0) ((rd_T32 l0 x67_1).f1) ((rd_T32 l0 x67_1).f2)) else (incunablelaw27_L2pFits.j1 k1 t175 t176 t178 l0 (l0.length : Int) x67_1 true t182 ((rd_T32 l0 x67_1).f0) ((rd_T32 l0 x67_1).f1) ((rd_T32 l0 x67_1).f2))) = some r := by rw [if_pos rfl] at H; exact H
                            clear H
                            have H := H1
                            clear H1
                            by_cases c31 : t180 = ((rd_T32 l0 x67_1).f2)
                            · rw [if_pos c31] at H
                              have c31b0 : (t180 == ((rd_T32 l0 x67_1).f2)) = true := beq_iff_eq.mpr c31
                              have c31b1 : (t180 != ((rd_T32 l0 x67_1).f2)) = false := bne_eq_false_iff_eq.mpr c31
                              clear c31
                              have H' := Aside0.mk H
                              clear H
                              have hnb32 := NB174_172.out
                              have hnc32 := NB172_174.out
                              have hcz33_0 : w28.cell? ⟨gb174, 0, none⟩ = some (.int .i64 ((rd_T32 l0 x67_1).f0)) := (blk_cell BK174.out 0).trans rfl
                              have hcz33_1 : w28.cell? ⟨gb174, 1, none⟩ = some (.int .i64 ((rd_T32 l0 x67_1).f1)) := (blk_cell BK174.out 1).trans rfl
                              have hcz33_2 : w28.cell? ⟨gb174, 2, none⟩ = some (.int .i64 ((rd_T32 l0 x67_1).f2)) := (blk_cell BK174.out 2).trans rfl
                              have hfz33_0 := blk_frozen BK174.out 0
                              have hfz33_1 := blk_frozen BK174.out 1
                              have hfz33_2 := blk_frozen BK174.out 2
                              go_wp2
                              go_meet
                              case rel => exact ⟨_, (false), (by first | rfl | (simp; done) | (simp [*]; done)), H', ⟨by have := HK1.out; first | omega | exact Nat.le_refl _⟩, ⟨by (with_reducible repeat (first | refine blk_drewN ?_ _ | refine blk_drew ?_ | refine blk_alloc ?_ _)); exact BK174.out⟩, ⟨by repeat (first | (with_reducible first | exact HI172.out | apply IsS49.alloc | apply IsS49.drewN | apply IsS49.drew | apply IsS49.set_0 | refine IsS49.far ?_ NB172_174.out _) | exact HI172.out)⟩, ⟨by repeat (first | (with_reducible first | exact HB.out | apply below_alloc | apply pw_below_drewN | apply below_drew1 | refine below_set ?_ (IsS49.ge HI172.out) | refine below_set ?_ GE174.out) | exact HB.out)⟩⟩
                            · rw [if_neg c31] at H
                              have c31b0 : (t180 == ((rd_T32 l0 x67_1).f2)) = false := beq_eq_false_iff_ne.mpr c31
                              have c31b1 : (t180 != ((rd_T32 l0 x67_1).f2)) = true := bne_iff_ne.mpr c31
                              have H' := Aside0.mk H
                              clear H
                              have hnb34 := NB174_172.out
                              have hnc34 := NB172_174.out
                              have hcz35_0 : w28.cell? ⟨gb174, 0, none⟩ = some (.int .i64 ((rd_T32 l0 x67_1).f0)) := (blk_cell BK174.out 0).trans rfl
                              have hcz35_1 : w28.cell? ⟨gb174, 1, none⟩ = some (.int .i64 ((rd_T32 l0 x67_1).f1)) := (blk_cell BK174.out 1).trans rfl
                              have hcz35_2 : w28.cell? ⟨gb174, 2, none⟩ = some (.int .i64 ((rd_T32 l0 x67_1).f2)) := (blk_cell BK174.out 2).trans rfl
                              have hfz35_0 := blk_frozen BK174.out 0
                              have hfz35_1 := blk_frozen BK174.out 1
                              have hfz35_2 := blk_frozen BK174.out 2
                              go_wp2
                              go_meet
                              case rel => exact ⟨_, (true), (by first | rfl | (simp; done) | (simp [*]; done)), H', ⟨by have := HK1.out; first | omega | exact Nat.le_refl _⟩, ⟨by (with_reducible repeat (first | refine blk_drewN ?_ _ | refine blk_drew ?_ | refine blk_alloc ?_ _)); exact BK174.out⟩, ⟨by repeat (first | (with_reducible first | exact HI172.out | apply IsS49.alloc | apply IsS49.drewN | apply IsS49.drew | apply IsS49.set_0 | refine IsS49.far ?_ NB172_174.out _) | exact HI172.out)⟩, ⟨by repeat (first | (with_reducible first | exact HB.out | apply below_alloc | apply pw_below_drewN | apply below_drew1 | refine below_set ?_ (IsS49.ge HI172.out) | refine below_set ?_ GE174.out) | exact HB.out)⟩⟩
                          · replace c30 := Bool.eq_false_iff.mpr c30
                            subst c30
                            have H1 : (incunablelaw27_L2pFits.j1 k1 t175 t176 t178 l0 (l0.length : Int) x67_1 true t182 ((rd_T32 l0 x67_1).f0) ((rd_T32 l0 x67_1).f1) ((rd_T32 l0 x67_1).f2)) = some r := by rw [if_neg (show ¬ (false = true) by decide)] at H; exact H
                            clear H
                            have H := H1
                            clear H1
                            have H' := Aside0.mk H
                            clear H
                            go_wp2
                            go_meet
                            case rel => exact ⟨_, (true), (by first | rfl | (simp; done) | (simp [*]; done)), H', ⟨by have := HK1.out; first | omega | exact Nat.le_refl _⟩, ⟨by (with_reducible repeat (first | refine blk_drewN ?_ _ | refine blk_drew ?_ | refine blk_alloc ?_ _)); exact BK174.out⟩, ⟨by repeat (first | (with_reducible first | exact HI172.out | apply IsS49.alloc | apply IsS49.drewN | apply IsS49.drew | apply IsS49.set_0 | refine IsS49.far ?_ NB172_174.out _) | exact HI172.out)⟩, ⟨by repeat (first | (with_reducible first | exact HB.out | apply below_alloc | apply pw_below_drewN | apply below_drew1 | refine below_set ?_ (IsS49.ge HI172.out) | refine below_set ?_ GE174.out) | exact HB.out)⟩⟩
                        · rw [if_neg c29] at H
                          have c29b0 : (t178 == 0) = false := beq_eq_false_iff_ne.mpr c29
                          have c29b1 : (t178 != 0) = true := bne_iff_ne.mpr c29
                          (first | rw [c29b0] | (simp only [i64_w, i32_w]; rw [c29b0]) | skip)
                          by_cases c36 : (t181 != t176) = true
                          · rw [if_pos c36] at H
                            have c36b0 : (t181 != t176) = true := c36
                            (try (have c36b1 : decide (t181 = t176) = false := by simpa using c36))
                            (try (have c36b2 : (t181 == t176) = false := by simpa using c36))
                            (try (have c36b3 : ¬ (t181 = t176) := by simpa using c36))
                            clear c36
                            have H' := Aside0.mk H
                            clear H
                            go_wp2
                            go_meet
                            case rel => exact ⟨_, (true), (by first | rfl | (simp; done) | (simp [*]; done)), H', ⟨by have := HK1.out; first | omega | exact Nat.le_refl _⟩, ⟨by (with_reducible repeat (first | refine blk_drewN ?_ _ | refine blk_drew ?_ | refine blk_alloc ?_ _)); exact BK174.out⟩, ⟨by repeat (first | (with_reducible first | exact HI172.out | apply IsS49.alloc | apply IsS49.drewN | apply IsS49.drew | apply IsS49.set_0 | refine IsS49.far ?_ NB172_174.out _) | exact HI172.out)⟩, ⟨by repeat (first | (with_reducible first | exact HB.out | apply below_alloc | apply pw_below_drewN | apply below_drew1 | refine below_set ?_ (IsS49.ge HI172.out) | refine below_set ?_ GE174.out) | exact HB.out)⟩⟩
                          · rw [if_neg c36] at H
                            have c36b0 : (t181 != t176) = false := by simpa using c36
                            (try (have c36b1 : decide (t181 = t176) = true := by simpa using c36))
                            (try (have c36b2 : (t181 == t176) = true := by simpa using c36))
                            clear c36
                            have H' := Aside0.mk H
                            clear H
                            go_wp2
                            go_meet
                            case rel => exact ⟨_, ((t180 != t175)), (by first | rfl | (simp; done) | (simp [*]; done)), H', ⟨by have := HK1.out; first | omega | exact Nat.le_refl _⟩, ⟨by (with_reducible repeat (first | refine blk_drewN ?_ _ | refine blk_drew ?_ | refine blk_alloc ?_ _)); exact BK174.out⟩, ⟨by repeat (first | (with_reducible first | exact HI172.out | apply IsS49.alloc | apply IsS49.drewN | apply IsS49.drew | apply IsS49.set_0 | refine IsS49.far ?_ NB172_174.out _) | exact HI172.out)⟩, ⟨by repeat (first | (with_reducible first | exact HB.out | apply below_alloc | apply pw_below_drewN | apply below_drew1 | refine below_set ?_ (IsS49.ge HI172.out) | refine below_set ?_ GE174.out) | exact HB.out)⟩⟩
                      case rest =>
                        clear HC23
                        try clear c1
                        try clear p1
                        try clear q1
                        try clear hx1
                        try clear c2
                        try clear p2
                        try clear c3
                        try clear c4
                        try clear c4b0
                        try clear c4b1
                        try clear c6
                        try clear c7
                        try clear c7b0
                        try clear c7b1
                        try clear c9
                        try clear c10
                        try clear c10b0
                        try clear c11
                        try clear c11b0
                        try clear c12
                        try clear c12b0
                        try clear c13
                        try clear c16
                        try clear p17
                        try clear q17
                        try clear hx17
                        try clear c20
                        try clear c20b0
                        try clear c20b1
                        try clear c24
                        try clear c29
                        try clear c29b0
                        try clear c29b1
                        try clear c30
                        try clear c31
                        try clear c31b0
                        try clear c31b1
                        try clear c32
                        try clear c34
                        try clear c36
                        try clear c36b0
                        try clear c36b1
                        try clear c36b2
                        try clear hcz17_0
                        try clear hcz17_1
                        try clear hcz17_2
                        try clear hcz19_0
                        try clear hcz19_1
                        try clear hcz19_2
                        try clear hcz25_0
                        try clear hcz25_1
                        try clear hcz25_2
                        try clear hcz27_0
                        try clear hcz27_1
                        try clear hcz27_2
                        try clear hcz33_0
                        try clear hcz33_1
                        try clear hcz33_2
                        try clear hcz35_0
                        try clear hcz35_1
                        try clear hcz35_2
                        try clear hfz17_0
                        try clear hfz17_1
                        try clear hfz17_2
                        try clear hfz19_0
                        try clear hfz19_1
                        try clear hfz19_2
                        try clear hfz25_0
                        try clear hfz25_1
                        try clear hfz25_2
                        try clear hfz27_0
                        try clear hfz27_1
                        try clear hfz27_2
                        try clear hfz33_0
                        try clear hfz33_1
                        try clear hfz33_2
                        try clear hfz35_0
                        try clear hfz35_1
                        try clear hfz35_2
                        try clear hx173_0
                        try clear hx173_1
                        try clear hx173_2
                        try clear p173
                        try clear p2
                        try clear q173
                        obtain ⟨kq, x120_22, rfl, HA, HJ22, BK174, HI172, HB⟩ := hcut
                        cases kq with
                        | zero => exact absurd HA.out (by simp [incunablelaw27_L2pFits.j1])
                        | succ kj22 =>
                          have H := HA.out
                          clear HA
                          simp only [incunablelaw27_L2pFits.j1] at H
                          by_cases c37 : x120_22 = true
                          · subst c37
                            have H1 : (some false) = some r := by rw [if_pos rfl] at H; exact H
                            clear H
                            have H := H1
                            clear H1
                            obtain rfl := Option.some.inj H
                            go_wp2
                            go_ret
                            exact ⟨by first | rfl | (simp [errW_none, errW_some] <;> rfl) | (simp [*, errW_none, errW_some] <;> rfl), by repeat (first | (with_reducible first | exact HB.out | apply below_alloc | apply pw_below_drewN | apply below_drew1 | refine below_set ?_ (IsS49.ge HI172.out) | refine below_set ?_ GE174.out) | exact HB.out)⟩
                          · replace c37 := Bool.eq_false_iff.mpr c37
                            subst c37
                            have H1 : ((l2p_Map_Sector.f t182 t175).bind fun bt183 => (if t178 = 0 then (if t176 = true then (if t175 = ((rd_T32 l0 x67_1).f2) then (incunablelaw27_L2pFits.j2 kj22 l0 (l0.length : Int) x67_1 bt183.2.2) else (if bt183.2.1 = true then (some false) else (incunablelaw27_L2pFits.j2 kj22 l0 (l0.length : Int) x67_1 bt183.2.2))) else (incunablelaw27_L2pFits.j2 kj22 l0 (l0.length : Int) x67_1 bt183.2.2)) else (incunablelaw27_L2pFits.j2 kj22 l0 (l0.length : Int) x67_1 bt183.2.2))) = some r := by rw [if_neg (show ¬ (false = true) by decide)] at H; exact H
                            clear H
                            have H := H1
                            clear H1
                            replace H := Option.bind_eq_some_iff.mp H
                            obtain ⟨⟨t183, t184, t185⟩, A380, H⟩ := H
                            replace H : (if t178 = 0 then (if t176 = true then (if t175 = ((rd_T32 l0 x67_1).f2) then (incunablelaw27_L2pFits.j2 kj22 l0 (l0.length : Int) x67_1 t185) else (if t184 = true then (some false) else (incunablelaw27_L2pFits.j2 kj22 l0 (l0.length : Int) x67_1 t185))) else (incunablelaw27_L2pFits.j2 kj22 l0 (l0.length : Int) x67_1 t185)) else (incunablelaw27_L2pFits.j2 kj22 l0 (l0.length : Int) x67_1 t185)) = some r := H
                            have A38 := Aside0.mk A380
                            clear A380
                            by_cases c39 : t178 = 0
                            · rw [if_pos c39] at H
                              have c39b0 : (t178 == 0) = true := beq_iff_eq.mpr c39
                              have c39b1 : (t178 != 0) = false := bne_eq_false_iff_eq.mpr c39
                              clear c39
                              by_cases c40 : t176 = true
                              · subst c40
                                have H1 : (if t175 = ((rd_T32 l0 x67_1).f2) then (incunablelaw27_L2pFits.j2 kj22 l0 (l0.length : Int) x67_1 t185) else (if t184 = true then (some false) else (incunablelaw27_L2pFits.j2 kj22 l0 (l0.length : Int) x67_1 t185))) = some r := by rw [if_pos rfl] at H; exact H
                                clear H
                                have H := H1
                                clear H1
                                by_cases c41 : t175 = ((rd_T32 l0 x67_1).f2)
                                · rw [if_pos c41] at H
                                  have c41b0 : (t175 == ((rd_T32 l0 x67_1).f2)) = true := beq_iff_eq.mpr c41
                                  have c41b1 : (t175 != ((rd_T32 l0 x67_1).f2)) = false := bne_eq_false_iff_eq.mpr c41
                                  clear c41
                                  have H' := Aside0.mk H
                                  clear H
                                  go_wp2_with (first | ((with_reducible refine gate_callee (f := 20) rfl ?_); refine goesL_ (some 124) rfl rfl Try.func20 (by kernel_rfl) rfl #[.pointer (some ⟨g172, 0, none⟩), .int .i64 t175] rfl (by (try simp only [List.map_toArray, List.map_cons, List.map_nil]); first | done | rfl | (simp only [List.length_drop, List.length_take]; rfl)) ?_; (with_reducible refine (l2p_Map_Sector.calls g172 t182 t175 t183 t184 t185 w _ ?side1 ?side2 A38.out).mono ?_); (case side1 => repeat (first | (with_reducible first | exact HI172.out | apply IsS49.alloc | apply IsS49.drewN | apply IsS49.drew | apply IsS49.set_0 | refine IsS49.far ?_ NB172_174.out _) | exact HI172.out)); (case side2 => repeat (first | (with_reducible first | exact HB.out | apply below_alloc | apply pw_below_drewN | apply below_drew1 | refine below_set ?_ (IsS49.ge HI172.out) | refine below_set ?_ GE174.out) | exact HB.out)); rintro e w42 ⟨rfl, hi, hb, hk⟩; refine ⟨_, rfl, ?_⟩; have n0_ := Aside0.mk (KeepBut.blk hk (g' := gb174) (o := .cells #[.int .i64 ((rd_T32 l0 x67_1).f0), .int .i64 ((rd_T32 l0 x67_1).f1), .int .i64 ((rd_T32 l0 x67_1).f2)] 32 (0, 0)) (by (with_reducible repeat (first | refine blk_drewN ?_ _ | refine blk_drew ?_ | refine blk_alloc ?_ _)); exact BK174.out) NB174_172.out (by simp)); have n1_ := Aside0.mk (hb); have n2_ := Aside0.mk (hi); clear BK174; clear HB; clear HI172; have BK174 := n0_; have HB := n1_; have HI172 := n2_; clear n0_ n1_ n2_; (try clear hb); (try clear hb2); (try clear hk); (try clear hi); have hnb43 := NB174_172.out; have hnc43 := NB172_174.out; have hcz44_0 : w42.cell? ⟨gb174, 0, none⟩ = some (.int .i64 ((rd_T32 l0 x67_1).f0)) := (blk_cell BK174.out 0).trans rfl; have hcz44_1 : w42.cell? ⟨gb174, 1, none⟩ = some (.int .i64 ((rd_T32 l0 x67_1).f1)) := (blk_cell BK174.out 1).trans rfl; have hcz44_2 : w42.cell? ⟨gb174, 2, none⟩ = some (.int .i64 ((rd_T32 l0 x67_1).f2)) := (blk_cell BK174.out 2).trans rfl; have hfz44_0 := blk_frozen BK174.out 0; have hfz44_1 := blk_frozen BK174.out 1; have hfz44_2 := blk_frozen BK174.out 2))
                                  go_meet
                                  case rel => exact ⟨_, (t185), H', ⟨by have := HK1.out; have := HJ22.out; first | omega | exact Nat.le_refl _⟩, ⟨by (with_reducible repeat (first | refine blk_drewN ?_ _ | refine blk_drew ?_ | refine blk_alloc ?_ _)); exact BK174.out⟩, ⟨by repeat (first | (with_reducible first | exact HI172.out | apply IsS49.alloc | apply IsS49.drewN | apply IsS49.drew | apply IsS49.set_0 | refine IsS49.far ?_ NB172_174.out _) | exact HI172.out)⟩, ⟨by repeat (first | (with_reducible first | exact HB.out | apply below_alloc | apply pw_below_drewN | apply below_drew1 | refine below_set ?_ (IsS49.ge HI172.out) | refine below_set ?_ GE174.out) | exact HB.out)⟩⟩
                                · rw [if_neg c41] at H
                                  have c41b0 : (t175 == ((rd_T32 l0 x67_1).f2)) = false := beq_eq_false_iff_ne.mpr c41
                                  have c41b1 : (t175 != ((rd_T32 l0 x67_1).f2)) = true := bne_iff_ne.mpr c41
                                  by_cases c45 : t184 = true
                                  · subst c45
                                    have H1 : (some false) = some r := by rw [if_pos rfl] at H; exact H
                                    clear H
                                    have H := H1
                                    clear H1
                                    obtain rfl := Option.some.inj H
                                    go_wp2_with (first | ((with_reducible refine gate_callee (f := 20) rfl ?_); refine goesL_ (some 124) rfl rfl Try.func20 (by kernel_rfl) rfl #[.pointer (some ⟨g172, 0, none⟩), .int .i64 t175] rfl (by (try simp only [List.map_toArray, List.map_cons, List.map_nil]); first | done | rfl | (simp only [List.length_drop, List.length_take]; rfl)) ?_; (with_reducible refine (l2p_Map_Sector.calls g172 t182 t175 t183 true t185 w _ ?side1 ?side2 A38.out).mono ?_); (case side1 => repeat (first | (with_reducible first | exact HI172.out | apply IsS49.alloc | apply IsS49.drewN | apply IsS49.drew | apply IsS49.set_0 | refine IsS49.far ?_ NB172_174.out _) | exact HI172.out)); (case side2 => repeat (first | (with_reducible first | exact HB.out | apply below_alloc | apply pw_below_drewN | apply below_drew1 | refine below_set ?_ (IsS49.ge HI172.out) | refine below_set ?_ GE174.out) | exact HB.out)); rintro e w46 ⟨rfl, hi, hb, hk⟩; refine ⟨_, rfl, ?_⟩; have n0_ := Aside0.mk (KeepBut.blk hk (g' := gb174) (o := .cells #[.int .i64 ((rd_T32 l0 x67_1).f0), .int .i64 ((rd_T32 l0 x67_1).f1), .int .i64 ((rd_T32 l0 x67_1).f2)] 32 (0, 0)) (by (with_reducible repeat (first | refine blk_drewN ?_ _ | refine blk_drew ?_ | refine blk_alloc ?_ _)); exact BK174.out) NB174_172.out (by simp)); have n1_ := Aside0.mk (hb); have n2_ := Aside0.mk (hi); clear BK174; clear HB; clear HI172; have BK174 := n0_; have HB := n1_; have HI172 := n2_; clear n0_ n1_ n2_; (try clear hb); (try clear hb2); (try clear hk); (try clear hi); have hnb47 := NB174_172.out; have hnc47 := NB172_174.out; have hcz48_0 : w46.cell? ⟨gb174, 0, none⟩ = some (.int .i64 ((rd_T32 l0 x67_1).f0)) := (blk_cell BK174.out 0).trans rfl; have hcz48_1 : w46.cell? ⟨gb174, 1, none⟩ = some (.int .i64 ((rd_T32 l0 x67_1).f1)) := (blk_cell BK174.out 1).trans rfl; have hcz48_2 : w46.cell? ⟨gb174, 2, none⟩ = some (.int .i64 ((rd_T32 l0 x67_1).f2)) := (blk_cell BK174.out 2).trans rfl; have hfz48_0 := blk_frozen BK174.out 0; have hfz48_1 := blk_frozen BK174.out 1; have hfz48_2 := blk_frozen BK174.out 2))
                                    go_ret
                                    exact ⟨by first | rfl | (simp [errW_none, errW_some] <;> rfl) | (simp [*, errW_none, errW_some] <;> rfl), by repeat (first | (with_reducible first | exact HB.out | apply below_alloc | apply pw_below_drewN | apply below_drew1 | refine below_set ?_ (IsS49.ge HI172.out) | refine below_set ?_ GE174.out) | exact HB.out)⟩
                                  · replace c45 := Bool.eq_false_iff.mpr c45
                                    subst c45
                                    have H1 : (incunablelaw27_L2pFits.j2 kj22 l0 (l0.length : Int) x67_1 t185) = some r := by rw [if_neg (show ¬ (false = true) by decide)] at H; exact H
                                    clear H
                                    have H := H1
                                    clear H1
                                    have H' := Aside0.mk H
                                    clear H
                                    go_wp2_with (first | ((with_reducible refine gate_callee (f := 20) rfl ?_); refine goesL_ (some 124) rfl rfl Try.func20 (by kernel_rfl) rfl #[.pointer (some ⟨g172, 0, none⟩), .int .i64 t175] rfl (by (try simp only [List.map_toArray, List.map_cons, List.map_nil]); first | done | rfl | (simp only [List.length_drop, List.length_take]; rfl)) ?_; (with_reducible refine (l2p_Map_Sector.calls g172 t182 t175 t183 false t185 w _ ?side1 ?side2 A38.out).mono ?_); (case side1 => repeat (first | (with_reducible first | exact HI172.out | apply IsS49.alloc | apply IsS49.drewN | apply IsS49.drew | apply IsS49.set_0 | refine IsS49.far ?_ NB172_174.out _) | exact HI172.out)); (case side2 => repeat (first | (with_reducible first | exact HB.out | apply below_alloc | apply pw_below_drewN | apply below_drew1 | refine below_set ?_ (IsS49.ge HI172.out) | refine below_set ?_ GE174.out) | exact HB.out)); rintro e w49 ⟨rfl, hi, hb, hk⟩; refine ⟨_, rfl, ?_⟩; have n0_ := Aside0.mk (KeepBut.blk hk (g' := gb174) (o := .cells #[.int .i64 ((rd_T32 l0 x67_1).f0), .int .i64 ((rd_T32 l0 x67_1).f1), .int .i64 ((rd_T32 l0 x67_1).f2)] 32 (0, 0)) (by (with_reducible repeat (first | refine blk_drewN ?_ _ | refine blk_drew ?_ | refine blk_alloc ?_ _)); exact BK174.out) NB174_172.out (by simp)); have n1_ := Aside0.mk (hb); have n2_ := Aside0.mk (hi); clear BK174; clear HB; clear HI172; have BK174 := n0_; have HB := n1_; have HI172 := n2_; clear n0_ n1_ n2_; (try clear hb); (try clear hb2); (try clear hk); (try clear hi); have hnb50 := NB174_172.out; have hnc50 := NB172_174.out; have hcz51_0 : w49.cell? ⟨gb174, 0, none⟩ = some (.int .i64 ((rd_T32 l0 x67_1).f0)) := (blk_cell BK174.out 0).trans rfl; have hcz51_1 : w49.cell? ⟨gb174, 1, none⟩ = some (.int .i64 ((rd_T32 l0 x67_1).f1)) := (blk_cell BK174.out 1).trans rfl; have hcz51_2 : w49.cell? ⟨gb174, 2, none⟩ = some (.int .i64 ((rd_T32 l0 x67_1).f2)) := (blk_cell BK174.out 2).trans rfl; have hfz51_0 := blk_frozen BK174.out 0; have hfz51_1 := blk_frozen BK174.out 1; have hfz51_2 := blk_frozen BK174.out 2))
                                    go_meet
                                    case rel => exact ⟨_, (t185), H', ⟨by have := HK1.out; have := HJ22.out; first | omega | exact Nat.le_refl _⟩, ⟨by (with_reducible repeat (first | refine blk_drewN ?_ _ | refine blk_drew ?_ | refine blk_alloc ?_ _)); exact BK174.out⟩, ⟨by repeat (first | (with_reducible first | exact HI172.out | apply IsS49.alloc | apply IsS49.drewN | apply IsS49.drew | apply IsS49.set_0 | refine IsS49.far ?_ NB172_174.out _) | exact HI172.out)⟩, ⟨by repeat (first | (with_reducible first | exact HB.out | apply below_alloc | apply pw_below_drewN | apply below_drew1 | refine below_set ?_ (IsS49.ge HI172.out) | refine below_set ?_ GE174.out) | exact HB.out)⟩⟩
                              · replace c40 := Bool.eq_false_iff.mpr c40
                                subst c40
                                have H1 : (incunablelaw27_L2pFits.j2 kj22 l0 (l0.length : Int) x67_1 t185) = some r := by rw [if_neg (show ¬ (false = true) by decide)] at H; exact H
                                clear H
                                have H := H1
                                clear H1
                                have H' := Aside0.mk H
                                clear H
                                go_wp2_with (first | ((with_reducible refine gate_callee (f := 20) rfl ?_); refine goesL_ (some 124) rfl rfl Try.func20 (by kernel_rfl) rfl #[.pointer (some ⟨g172, 0, none⟩), .int .i64 t175] rfl (by (try simp only [List.map_toArray, List.map_cons, List.map_nil]); first | done | rfl | (simp only [List.length_drop, List.length_take]; rfl)) ?_; (with_reducible refine (l2p_Map_Sector.calls g172 t182 t175 t183 t184 t185 w _ ?side1 ?side2 A38.out).mono ?_); (case side1 => repeat (first | (with_reducible first | exact HI172.out | apply IsS49.alloc | apply IsS49.drewN | apply IsS49.drew | apply IsS49.set_0 | refine IsS49.far ?_ NB172_174.out _) | exact HI172.out)); (case side2 => repeat (first | (with_reducible first | exact HB.out | apply below_alloc | apply pw_below_drewN | apply below_drew1 | refine below_set ?_ (IsS49.ge HI172.out) | refine below_set ?_ GE174.out) | exact HB.out)); rintro e w52 ⟨rfl, hi, hb, hk⟩; refine ⟨_, rfl, ?_⟩; have n0_ := Aside0.mk (KeepBut.blk hk (g' := gb174) (o := .cells #[.int .i64 ((rd_T32 l0 x67_1).f0), .int .i64 ((rd_T32 l0 x67_1).f1), .int .i64 ((rd_T32 l0 x67_1).f2)] 32 (0, 0)) (by (with_reducible repeat (first | refine blk_drewN ?_ _ | refine blk_drew ?_ | refine blk_alloc ?_ _)); exact BK174.out) NB174_172.out (by simp)); have n1_ := Aside0.mk (hb); have n2_ := Aside0.mk (hi); clear BK174; clear HB; clear HI172; have BK174 := n0_; have HB := n1_; have HI172 := n2_; clear n0_ n1_ n2_; (try clear hb); (try clear hb2); (try clear hk); (try clear hi)))
                                go_meet
                                case rel => exact ⟨_, (t185), H', ⟨by have := HK1.out; have := HJ22.out; first | omega | exact Nat.le_refl _⟩, ⟨by (with_reducible repeat (first | refine blk_drewN ?_ _ | refine blk_drew ?_ | refine blk_alloc ?_ _)); exact BK174.out⟩, ⟨by repeat (first | (with_reducible first | exact HI172.out | apply IsS49.alloc | apply IsS49.drewN | apply IsS49.drew | apply IsS49.set_0 | refine IsS49.far ?_ NB172_174.out _) | exact HI172.out)⟩, ⟨by repeat (first | (with_reducible first | exact HB.out | apply below_alloc | apply pw_below_drewN | apply below_drew1 | refine below_set ?_ (IsS49.ge HI172.out) | refine below_set ?_ GE174.out) | exact HB.out)⟩⟩
                            · rw [if_neg c39] at H
                              have c39b0 : (t178 == 0) = false := beq_eq_false_iff_ne.mpr c39
                              have c39b1 : (t178 != 0) = true := bne_iff_ne.mpr c39
                              have H' := Aside0.mk H
                              clear H
                              go_wp2_with (first | ((with_reducible refine gate_callee (f := 20) rfl ?_); refine goesL_ (some 124) rfl rfl Try.func20 (by kernel_rfl) rfl #[.pointer (some ⟨g172, 0, none⟩), .int .i64 t175] rfl (by (try simp only [List.map_toArray, List.map_cons, List.map_nil]); first | done | rfl | (simp only [List.length_drop, List.length_take]; rfl)) ?_; (with_reducible refine (l2p_Map_Sector.calls g172 t182 t175 t183 t184 t185 w _ ?side1 ?side2 A38.out).mono ?_); (case side1 => repeat (first | (with_reducible first | exact HI172.out | apply IsS49.alloc | apply IsS49.drewN | apply IsS49.drew | apply IsS49.set_0 | refine IsS49.far ?_ NB172_174.out _) | exact HI172.out)); (case side2 => repeat (first | (with_reducible first | exact HB.out | apply below_alloc | apply pw_below_drewN | apply below_drew1 | refine below_set ?_ (IsS49.ge HI172.out) | refine below_set ?_ GE174.out) | exact HB.out)); rintro e w53 ⟨rfl, hi, hb, hk⟩; refine ⟨_, rfl, ?_⟩; have n0_ := Aside0.mk (KeepBut.blk hk (g' := gb174) (o := .cells #[.int .i64 ((rd_T32 l0 x67_1).f0), .int .i64 ((rd_T32 l0 x67_1).f1), .int .i64 ((rd_T32 l0 x67_1).f2)] 32 (0, 0)) (by (with_reducible repeat (first | refine blk_drewN ?_ _ | refine blk_drew ?_ | refine blk_alloc ?_ _)); exact BK174.out) NB174_172.out (by simp)); have n1_ := Aside0.mk (hb); have n2_ := Aside0.mk (hi); clear BK174; clear HB; clear HI172; have BK174 := n0_; have HB := n1_; have HI172 := n2_; clear n0_ n1_ n2_; (try clear hb); (try clear hb2); (try clear hk); (try clear hi)))
                              go_meet
                              case rel => exact ⟨_, (t185), H', ⟨by have := HK1.out; have := HJ22.out; first | omega | exact Nat.le_refl _⟩, ⟨by (with_reducible repeat (first | refine blk_drewN ?_ _ | refine blk_drew ?_ | refine blk_alloc ?_ _)); exact BK174.out⟩, ⟨by repeat (first | (with_reducible first | exact HI172.out | apply IsS49.alloc | apply IsS49.drewN | apply IsS49.drew | apply IsS49.set_0 | refine IsS49.far ?_ NB172_174.out _) | exact HI172.out)⟩, ⟨by repeat (first | (with_reducible first | exact HB.out | apply below_alloc | apply pw_below_drewN | apply below_drew1 | refine below_set ?_ (IsS49.ge HI172.out) | refine below_set ?_ GE174.out) | exact HB.out)⟩⟩
                    · rw [if_neg c20] at H
                      have c20b0 : (((rd_T32 l0 x67_1).f0) == 1) = false := beq_eq_false_iff_ne.mpr c20
                      have c20b1 : (((rd_T32 l0 x67_1).f0) != 1) = true := bne_iff_ne.mpr c20
                      (first | rw [c20b0] | (simp only [i64_w, i32_w]; rw [c20b0]) | skip)
                      by_cases c54 : ((rd_T32 l0 x67_1).f0) = 2
                      · rw [if_pos c54] at H
                        have c54b0 : (((rd_T32 l0 x67_1).f0) == 2) = true := beq_iff_eq.mpr c54
                        have c54b1 : (((rd_T32 l0 x67_1).f0) != 2) = false := bne_eq_false_iff_eq.mpr c54
                        clear c54
                        replace H := Option.bind_eq_some_iff.mp H
                        obtain ⟨⟨t186, t187⟩, A550, H⟩ := H
                        replace H : (if (t186 != t176) = true then (some false) else ((l2p_Map_Row.f t187 ((rd_T32 l0 x67_1).f1)).bind fun bt188 => (if bt188.2.1 = true then (some false) else (incunablelaw27_L2pFits.j2 k1 l0 (l0.length : Int) x67_1 bt188.2.2)))) = some r := H
                        have A55 := Aside0.mk A550
                        clear A550
                        by_cases c56 : (t186 != t176) = true
                        · rw [if_pos c56] at H
                          have c56b0 : (t186 != t176) = true := c56
                          (try (have c56b1 : decide (t186 = t176) = false := by simpa using c56))
                          (try (have c56b2 : (t186 == t176) = false := by simpa using c56))
                          (try (have c56b3 : ¬ (t186 = t176) := by simpa using c56))
                          clear c56
                          obtain rfl := Option.some.inj H
                          have hnb57 := NB174_172.out
                          have hnc57 := NB172_174.out
                          have hcz58_0 : w18.cell? ⟨gb174, 0, none⟩ = some (.int .i64 ((rd_T32 l0 x67_1).f0)) := (blk_cell BK174.out 0).trans rfl
                          have hcz58_1 : w18.cell? ⟨gb174, 1, none⟩ = some (.int .i64 ((rd_T32 l0 x67_1).f1)) := (blk_cell BK174.out 1).trans rfl
                          have hcz58_2 : w18.cell? ⟨gb174, 2, none⟩ = some (.int .i64 ((rd_T32 l0 x67_1).f2)) := (blk_cell BK174.out 2).trans rfl
                          have hfz58_0 := blk_frozen BK174.out 0
                          have hfz58_1 := blk_frozen BK174.out 1
                          have hfz58_2 := blk_frozen BK174.out 2
                          go_wp2_with (first | ((with_reducible refine gate_callee (f := 11) rfl ?_); refine goesL_ (some 146) rfl rfl Try.func11 (by kernel_rfl) rfl #[.pointer (some ⟨g172, 0, none⟩), .int .i64 ((rd_T32 l0 x67_1).f1)] rfl (by (try simp only [List.map_toArray, List.map_cons, List.map_nil]); first | done | rfl | (simp only [List.length_drop, List.length_take]; rfl)) ?_; (with_reducible refine (l2p_Map_Drop.calls g172 t177 ((rd_T32 l0 x67_1).f1) t186 t187 w _ ?side1 ?side2 A55.out).mono ?_); (case side1 => repeat (first | (with_reducible first | exact HI172.out | apply IsS49.alloc | apply IsS49.drewN | apply IsS49.drew | apply IsS49.set_0 | refine IsS49.far ?_ NB172_174.out _) | exact HI172.out)); (case side2 => repeat (first | (with_reducible first | exact HB.out | apply below_alloc | apply pw_below_drewN | apply below_drew1 | refine below_set ?_ (IsS49.ge HI172.out) | refine below_set ?_ GE174.out) | exact HB.out)); rintro e w59 ⟨rfl, hi, hb, hk⟩; refine ⟨_, rfl, ?_⟩; have n0_ := Aside0.mk (KeepT.blk hk (by (with_reducible repeat (first | refine blk_drewN ?_ _ | refine blk_drew ?_ | refine blk_alloc ?_ _)); exact BK174.out) (by decide) (by decide)); have n1_ := Aside0.mk (hb); have n2_ := Aside0.mk (hi); clear BK174; clear HB; clear HI172; have BK174 := n0_; have HB := n1_; have HI172 := n2_; clear n0_ n1_ n2_; (try clear hb); (try clear hb2); (try clear hk); (try clear hi)))
                          go_ret
                          exact ⟨by first | rfl | (simp [errW_none, errW_some] <;> rfl) | (simp [*, errW_none, errW_some] <;> rfl), by repeat (first | (with_reducible first | exact HB.out | apply below_alloc | apply pw_below_drewN | apply below_drew1 | refine below_set ?_ (IsS49.ge HI172.out) | refine below_set ?_ GE174.out) | exact HB.out)⟩
                        · rw [if_neg c56] at H
                          have c56b0 : (t186 != t176) = false := by simpa using c56
                          (try (have c56b1 : decide (t186 = t176) = true := by simpa using c56))
                          (try (have c56b2 : (t186 == t176) = true := by simpa using c56))
                          clear c56
                          replace H := Option.bind_eq_some_iff.mp H
                          obtain ⟨⟨t188, t189, t190⟩, A600, H⟩ := H
                          replace H : (if t189 = true then (some false) else (incunablelaw27_L2pFits.j2 k1 l0 (l0.length : Int) x67_1 t190)) = some r := H
                          have A60 := Aside0.mk A600
                          clear A600
                          by_cases c61 : t189 = true
                          · subst c61
                            have H1 : (some false) = some r := by rw [if_pos rfl] at H; exact H
                            clear H
                            have H := H1
                            clear H1
                            obtain rfl := Option.some.inj H
                            have hnb62 := NB174_172.out
                            have hnc62 := NB172_174.out
                            have hcz63_0 : w18.cell? ⟨gb174, 0, none⟩ = some (.int .i64 ((rd_T32 l0 x67_1).f0)) := (blk_cell BK174.out 0).trans rfl
                            have hcz63_1 : w18.cell? ⟨gb174, 1, none⟩ = some (.int .i64 ((rd_T32 l0 x67_1).f1)) := (blk_cell BK174.out 1).trans rfl
                            have hcz63_2 : w18.cell? ⟨gb174, 2, none⟩ = some (.int .i64 ((rd_T32 l0 x67_1).f2)) := (blk_cell BK174.out 2).trans rfl
                            have hfz63_0 := blk_frozen BK174.out 0
                            have hfz63_1 := blk_frozen BK174.out 1
                            have hfz63_2 := blk_frozen BK174.out 2
                            go_wp2_with (first | ((with_reducible refine gate_callee (f := 11) rfl ?_); refine goesL_ (some 146) rfl rfl Try.func11 (by kernel_rfl) rfl #[.pointer (some ⟨g172, 0, none⟩), .int .i64 ((rd_T32 l0 x67_1).f1)] rfl (by (try simp only [List.map_toArray, List.map_cons, List.map_nil]); first | done | rfl | (simp only [List.length_drop, List.length_take]; rfl)) ?_; (with_reducible refine (l2p_Map_Drop.calls g172 t177 ((rd_T32 l0 x67_1).f1) t186 t187 w _ ?side1 ?side2 A55.out).mono ?_); (case side1 => repeat (first | (with_reducible first | exact HI172.out | apply IsS49.alloc | apply IsS49.drewN | apply IsS49.drew | apply IsS49.set_0 | refine IsS49.far ?_ NB172_174.out _) | exact HI172.out)); (case side2 => repeat (first | (with_reducible first | exact HB.out | apply below_alloc | apply pw_below_drewN | apply below_drew1 | refine below_set ?_ (IsS49.ge HI172.out) | refine below_set ?_ GE174.out) | exact HB.out)); rintro e w64 ⟨rfl, hi, hb, hk⟩; refine ⟨_, rfl, ?_⟩; have n0_ := Aside0.mk (KeepT.blk hk (by (with_reducible repeat (first | refine blk_drewN ?_ _ | refine blk_drew ?_ | refine blk_alloc ?_ _)); exact BK174.out) (by decide) (by decide)); have n1_ := Aside0.mk (hb); have n2_ := Aside0.mk (hi); clear BK174; clear HB; clear HI172; have BK174 := n0_; have HB := n1_; have HI172 := n2_; clear n0_ n1_ n2_; (try clear hb); (try clear hb2); (try clear hk); (try clear hi); have hcz65_0 : w64.cell? ⟨gb174, 0, none⟩ = some (.int .i64 ((rd_T32 l0 x67_1).f0)) := (blk_cell BK174.out 0).trans rfl; have hcz65_1 : w64.cell? ⟨gb174, 1, none⟩ = some (.int .i64 ((rd_T32 l0 x67_1).f1)) := (blk_cell BK174.out 1).trans rfl; have hcz65_2 : w64.cell? ⟨gb174, 2, none⟩ = some (.int .i64 ((rd_T32 l0 x67_1).f2)) := (blk_cell BK174.out 2).trans rfl; have hfz65_0 := blk_frozen BK174.out 0; have hfz65_1 := blk_frozen BK174.out 1; have hfz65_2 := blk_frozen BK174.out 2) | ((with_reducible refine gate_callee (f := 13) rfl ?_); refine goesL_ (some 153) rfl rfl Try.func13 (by kernel_rfl) rfl #[.pointer (some ⟨g172, 0, none⟩), .int .i64 ((rd_T32 l0 x67_1).f1)] rfl (by (try simp only [List.map_toArray, List.map_cons, List.map_nil]); first | done | rfl | (simp only [List.length_drop, List.length_take]; rfl)) ?_; (with_reducible refine (l2p_Map_Row.calls g172 t187 ((rd_T32 l0 x67_1).f1) t188 true t190 w _ ?side1 ?side2 A60.out).mono ?_); (case side1 => repeat (first | (with_reducible first | exact HI172.out | apply IsS49.alloc | apply IsS49.drewN | apply IsS49.drew | apply IsS49.set_0 | refine IsS49.far ?_ NB172_174.out _) | exact HI172.out)); (case side2 => repeat (first | (with_reducible first | exact HB.out | apply below_alloc | apply pw_below_drewN | apply below_drew1 | refine below_set ?_ (IsS49.ge HI172.out) | refine below_set ?_ GE174.out) | exact HB.out)); rintro e w66 ⟨rfl, hi, hb, hk⟩; refine ⟨_, rfl, ?_⟩; have n0_ := Aside0.mk (KeepBut.blk hk (g' := gb174) (o := .cells #[.int .i64 ((rd_T32 l0 x67_1).f0), .int .i64 ((rd_T32 l0 x67_1).f1), .int .i64 ((rd_T32 l0 x67_1).f2)] 32 (0, 0)) (by (with_reducible repeat (first | refine blk_drewN ?_ _ | refine blk_drew ?_ | refine blk_alloc ?_ _)); exact BK174.out) NB174_172.out (by simp)); have n1_ := Aside0.mk (hb); have n2_ := Aside0.mk (hi); clear BK174; clear HB; clear HI172; have BK174 := n0_; have HB := n1_; have HI172 := n2_; clear n0_ n1_ n2_; (try clear hb); (try clear hb2); (try clear hk); (try clear hi)))
                            go_ret
                            exact ⟨by first | rfl | (simp [errW_none, errW_some] <;> rfl) | (simp [*, errW_none, errW_some] <;> rfl), by repeat (first | (with_reducible first | exact HB.out | apply below_alloc | apply pw_below_drewN | apply below_drew1 | refine below_set ?_ (IsS49.ge HI172.out) | refine below_set ?_ GE174.out) | exact HB.out)⟩
                          · replace c61 := Bool.eq_false_iff.mpr c61
                            subst c61
                            have H1 : (incunablelaw27_L2pFits.j2 k1 l0 (l0.length : Int) x67_1 t190) = some r := by rw [if_neg (show ¬ (false = true) by decide)] at H; exact H
                            clear H
                            have H := H1
                            clear H1
                            have H' := Aside0.mk H
                            clear H
                            have hnb67 := NB174_172.out
                            have hnc67 := NB172_174.out
                            have hcz68_0 : w18.cell? ⟨gb174, 0, none⟩ = some (.int .i64 ((rd_T32 l0 x67_1).f0)) := (blk_cell BK174.out 0).trans rfl
                            have hcz68_1 : w18.cell? ⟨gb174, 1, none⟩ = some (.int .i64 ((rd_T32 l0 x67_1).f1)) := (blk_cell BK174.out 1).trans rfl
                            have hcz68_2 : w18.cell? ⟨gb174, 2, none⟩ = some (.int .i64 ((rd_T32 l0 x67_1).f2)) := (blk_cell BK174.out 2).trans rfl
                            have hfz68_0 := blk_frozen BK174.out 0
                            have hfz68_1 := blk_frozen BK174.out 1
                            have hfz68_2 := blk_frozen BK174.out 2
                            go_wp2_with (first | ((with_reducible refine gate_callee (f := 11) rfl ?_); refine goesL_ (some 146) rfl rfl Try.func11 (by kernel_rfl) rfl #[.pointer (some ⟨g172, 0, none⟩), .int .i64 ((rd_T32 l0 x67_1).f1)] rfl (by (try simp only [List.map_toArray, List.map_cons, List.map_nil]); first | done | rfl | (simp only [List.length_drop, List.length_take]; rfl)) ?_; (with_reducible refine (l2p_Map_Drop.calls g172 t177 ((rd_T32 l0 x67_1).f1) t186 t187 w _ ?side1 ?side2 A55.out).mono ?_); (case side1 => repeat (first | (with_reducible first | exact HI172.out | apply IsS49.alloc | apply IsS49.drewN | apply IsS49.drew | apply IsS49.set_0 | refine IsS49.far ?_ NB172_174.out _) | exact HI172.out)); (case side2 => repeat (first | (with_reducible first | exact HB.out | apply below_alloc | apply pw_below_drewN | apply below_drew1 | refine below_set ?_ (IsS49.ge HI172.out) | refine below_set ?_ GE174.out) | exact HB.out)); rintro e w69 ⟨rfl, hi, hb, hk⟩; refine ⟨_, rfl, ?_⟩; have n0_ := Aside0.mk (KeepT.blk hk (by (with_reducible repeat (first | refine blk_drewN ?_ _ | refine blk_drew ?_ | refine blk_alloc ?_ _)); exact BK174.out) (by decide) (by decide)); have n1_ := Aside0.mk (hb); have n2_ := Aside0.mk (hi); clear BK174; clear HB; clear HI172; have BK174 := n0_; have HB := n1_; have HI172 := n2_; clear n0_ n1_ n2_; (try clear hb); (try clear hb2); (try clear hk); (try clear hi); have hcz70_0 : w69.cell? ⟨gb174, 0, none⟩ = some (.int .i64 ((rd_T32 l0 x67_1).f0)) := (blk_cell BK174.out 0).trans rfl; have hcz70_1 : w69.cell? ⟨gb174, 1, none⟩ = some (.int .i64 ((rd_T32 l0 x67_1).f1)) := (blk_cell BK174.out 1).trans rfl; have hcz70_2 : w69.cell? ⟨gb174, 2, none⟩ = some (.int .i64 ((rd_T32 l0 x67_1).f2)) := (blk_cell BK174.out 2).trans rfl; have hfz70_0 := blk_frozen BK174.out 0; have hfz70_1 := blk_frozen BK174.out 1; have hfz70_2 := blk_frozen BK174.out 2) | ((with_reducible refine gate_callee (f := 13) rfl ?_); refine goesL_ (some 153) rfl rfl Try.func13 (by kernel_rfl) rfl #[.pointer (some ⟨g172, 0, none⟩), .int .i64 ((rd_T32 l0 x67_1).f1)] rfl (by (try simp only [List.map_toArray, List.map_cons, List.map_nil]); first | done | rfl | (simp only [List.length_drop, List.length_take]; rfl)) ?_; (with_reducible refine (l2p_Map_Row.calls g172 t187 ((rd_T32 l0 x67_1).f1) t188 false t190 w _ ?side1 ?side2 A60.out).mono ?_); (case side1 => repeat (first | (with_reducible first | exact HI172.out | apply IsS49.alloc | apply IsS49.drewN | apply IsS49.drew | apply IsS49.set_0 | refine IsS49.far ?_ NB172_174.out _) | exact HI172.out)); (case side2 => repeat (first | (with_reducible first | exact HB.out | apply below_alloc | apply pw_below_drewN | apply below_drew1 | refine below_set ?_ (IsS49.ge HI172.out) | refine below_set ?_ GE174.out) | exact HB.out)); rintro e w71 ⟨rfl, hi, hb, hk⟩; refine ⟨_, rfl, ?_⟩; have n0_ := Aside0.mk (KeepBut.blk hk (g' := gb174) (o := .cells #[.int .i64 ((rd_T32 l0 x67_1).f0), .int .i64 ((rd_T32 l0 x67_1).f1), .int .i64 ((rd_T32 l0 x67_1).f2)] 32 (0, 0)) (by (with_reducible repeat (first | refine blk_drewN ?_ _ | refine blk_drew ?_ | refine blk_alloc ?_ _)); exact BK174.out) NB174_172.out (by simp)); have n1_ := Aside0.mk (hb); have n2_ := Aside0.mk (hi); clear BK174; clear HB; clear HI172; have BK174 := n0_; have HB := n1_; have HI172 := n2_; clear n0_ n1_ n2_; (try clear hb); (try clear hb2); (try clear hk); (try clear hi)))
                            go_meet
                            case rel => exact ⟨_, (t190), H', ⟨by have := HK1.out; first | omega | exact Nat.le_refl _⟩, ⟨by (with_reducible repeat (first | refine blk_drewN ?_ _ | refine blk_drew ?_ | refine blk_alloc ?_ _)); exact BK174.out⟩, ⟨by repeat (first | (with_reducible first | exact HI172.out | apply IsS49.alloc | apply IsS49.drewN | apply IsS49.drew | apply IsS49.set_0 | refine IsS49.far ?_ NB172_174.out _) | exact HI172.out)⟩, ⟨by repeat (first | (with_reducible first | exact HB.out | apply below_alloc | apply pw_below_drewN | apply below_drew1 | refine below_set ?_ (IsS49.ge HI172.out) | refine below_set ?_ GE174.out) | exact HB.out)⟩⟩
                      · rw [if_neg c54] at H
                        have c54b0 : (((rd_T32 l0 x67_1).f0) == 2) = false := beq_eq_false_iff_ne.mpr c54
                        have c54b1 : (((rd_T32 l0 x67_1).f0) != 2) = true := bne_iff_ne.mpr c54
                        have H' := Aside0.mk H
                        clear H
                        go_wp2
                        go_meet
                        case rel => exact ⟨_, (t177), H', ⟨by have := HK1.out; first | omega | exact Nat.le_refl _⟩, ⟨by (with_reducible repeat (first | refine blk_drewN ?_ _ | refine blk_drew ?_ | refine blk_alloc ?_ _)); exact BK174.out⟩, ⟨by repeat (first | (with_reducible first | exact HI172.out | apply IsS49.alloc | apply IsS49.drewN | apply IsS49.drew | apply IsS49.set_0 | refine IsS49.far ?_ NB172_174.out _) | exact HI172.out)⟩, ⟨by repeat (first | (with_reducible first | exact HB.out | apply below_alloc | apply pw_below_drewN | apply below_drew1 | refine below_set ?_ (IsS49.ge HI172.out) | refine below_set ?_ GE174.out) | exact HB.out)⟩⟩
                  case rest =>
                    clear HC14
                    try clear c1
                    try clear p1
                    try clear q1
                    try clear hx1
                    try clear c2
                    try clear p2
                    try clear c3
                    try clear c4
                    try clear c4b0
                    try clear c4b1
                    try clear c5
                    try clear c6
                    try clear c7
                    try clear c7b0
                    try clear c7b1
                    try clear c9
                    try clear c10
                    try clear c10b0
                    try clear c11
                    try clear c11b0
                    try clear c12
                    try clear c12b0
                    try clear c13
                    try clear c16
                    try clear p17
                    try clear q17
                    try clear hx17
                    try clear c20
                    try clear c20b0
                    try clear c20b1
                    try clear c24
                    try clear c29
                    try clear c29b0
                    try clear c29b1
                    try clear c30
                    try clear c31
                    try clear c31b0
                    try clear c31b1
                    try clear c32
                    try clear c34
                    try clear c36
                    try clear c36b0
                    try clear c36b1
                    try clear c36b2
                    try clear c37
                    try clear c39
                    try clear c39b0
                    try clear c39b1
                    try clear c40
                    try clear c41
                    try clear c41b0
                    try clear c41b1
                    try clear c43
                    try clear c45
                    try clear c47
                    try clear c50
                    try clear c54
                    try clear c54b0
                    try clear c54b1
                    try clear c56
                    try clear c56b0
                    try clear c56b1
                    try clear c56b2
                    try clear c57
                    try clear c61
                    try clear c62
                    try clear c67
                    try clear hcz17_0
                    try clear hcz17_1
                    try clear hcz17_2
                    try clear hcz19_0
                    try clear hcz19_1
                    try clear hcz19_2
                    try clear hcz25_0
                    try clear hcz25_1
                    try clear hcz25_2
                    try clear hcz27_0
                    try clear hcz27_1
                    try clear hcz27_2
                    try clear hcz33_0
                    try clear hcz33_1
                    try clear hcz33_2
                    try clear hcz35_0
                    try clear hcz35_1
                    try clear hcz35_2
                    try clear hcz44_0
                    try clear hcz44_1
                    try clear hcz44_2
                    try clear hcz48_0
                    try clear hcz48_1
                    try clear hcz48_2
                    try clear hcz51_0
                    try clear hcz51_1
                    try clear hcz51_2
                    try clear hcz58_0
                    try clear hcz58_1
                    try clear hcz58_2
                    try clear hcz63_0
                    try clear hcz63_1
                    try clear hcz63_2
                    try clear hcz65_0
                    try clear hcz65_1
                    try clear hcz65_2
                    try clear hcz68_0
                    try clear hcz68_1
                    try clear hcz68_2
                    try clear hcz70_0
                    try clear hcz70_1
                    try clear hcz70_2
                    try clear hfz17_0
                    try clear hfz17_1
                    try clear hfz17_2
                    try clear hfz19_0
                    try clear hfz19_1
                    try clear hfz19_2
                    try clear hfz25_0
                    try clear hfz25_1
                    try clear hfz25_2
                    try clear hfz27_0
                    try clear hfz27_1
                    try clear hfz27_2
                    try clear hfz33_0
                    try clear hfz33_1
                    try clear hfz33_2
                    try clear hfz35_0
                    try clear hfz35_1
                    try clear hfz35_2
                    try clear hfz44_0
                    try clear hfz44_1
                    try clear hfz44_2
                    try clear hfz48_0
                    try clear hfz48_1
                    try clear hfz48_2
                    try clear hfz51_0
                    try clear hfz51_1
                    try clear hfz51_2
                    try clear hfz58_0
                    try clear hfz58_1
                    try clear hfz58_2
                    try clear hfz63_0
                    try clear hfz63_1
                    try clear hfz63_2
                    try clear hfz65_0
                    try clear hfz65_1
                    try clear hfz65_2
                    try clear hfz68_0
                    try clear hfz68_1
                    try clear hfz68_2
                    try clear hfz70_0
                    try clear hfz70_1
                    try clear hfz70_2
                    try clear hx173_0
                    try clear hx173_1
                    try clear hx173_2
                    try clear p1
                    try clear p17
                    try clear p173
                    try clear p2
                    try clear q1
                    try clear q17
                    try clear q173
                    obtain ⟨kq, x173000_13, HA, HJ13, BK174, HI172, HB⟩ := hcut
                    cases kq with
                    | zero => exact absurd HA.out (by simp [incunablelaw27_L2pFits.j2])
                    | succ kj13 =>
                      have H := HA.out
                      clear HA
                      simp only [incunablelaw27_L2pFits.j2] at H
                      have H' := Aside0.mk H
                      clear H
                      go_wp2
                      go_loopg [19, 157] kj13 (fun kq v19 v157 w' => ∃ (x19_3 : Int) (x157_3 : Int) (x173000_3 : St), v19 = .int .i64 x19_3 ∧ v157 = .int .i64 x157_3 ∧ Aside0 (incunablelaw27_L2pFits.l1 kq x19_3 l0 (l0.length : Int) x67_1 x157_3 x173000_3 = some r) ∧ Aside0 (kq ≤ kj13) ∧ Aside0 (w'.heap[gb174]? = some (.cells #[.int .i64 ((rd_T32 l0 x67_1).f0), .int .i64 ((rd_T32 l0 x67_1).f1), .int .i64 ((rd_T32 l0 x67_1).f2)] 32 (0, 0))) ∧ Aside0 (IsS49 w w' g172 x173000_3) ∧ Aside0 (Below w.heap.size w w'))
                      case atStart => exact ⟨(0), (0), (x173000_13), (by first | rfl | (simp; done) | (simp [*]; done)), (by first | rfl | (simp; done) | (simp [*]; done)), H', ⟨Nat.le_refl _⟩, ⟨by (with_reducible repeat (first | refine blk_drewN ?_ _ | refine blk_drew ?_ | refine blk_alloc ?_ _)); exact BK174.out⟩, ⟨by repeat (first | (with_reducible first | exact HI172.out | apply IsS49.alloc | apply IsS49.drewN | apply IsS49.drew | apply IsS49.set_0 | refine IsS49.far ?_ NB172_174.out _) | exact HI172.out)⟩, ⟨by repeat (first | (with_reducible first | exact HB.out | apply below_alloc | apply pw_below_drewN | apply below_drew1 | refine below_set ?_ (IsS49.ge HI172.out) | refine below_set ?_ GE174.out) | exact HB.out)⟩⟩
                      case round =>
                        clear H'
                        try clear c1
                        try clear p1
                        try clear q1
                        try clear hx1
                        try clear c2
                        try clear p2
                        try clear c3
                        try clear c4
                        try clear c4b0
                        try clear c4b1
                        try clear c5
                        try clear c6
                        try clear c7
                        try clear c7b0
                        try clear c7b1
                        try clear c9
                        try clear c10
                        try clear c10b0
                        try clear c11
                        try clear c11b0
                        try clear c12
                        try clear c12b0
                        try clear c13
                        try clear c16
                        try clear p17
                        try clear q17
                        try clear hx17
                        try clear c20
                        try clear c20b0
                        try clear c20b1
                        try clear c24
                        try clear c29
                        try clear c29b0
                        try clear c29b1
                        try clear c30
                        try clear c31
                        try clear c31b0
                        try clear c31b1
                        try clear c32
                        try clear c34
                        try clear c36
                        try clear c36b0
                        try clear c36b1
                        try clear c36b2
                        try clear c37
                        try clear c39
                        try clear c39b0
                        try clear c39b1
                        try clear c40
                        try clear c41
                        try clear c41b0
                        try clear c41b1
                        try clear c43
                        try clear c45
                        try clear c47
                        try clear c50
                        try clear c54
                        try clear c54b0
                        try clear c54b1
                        try clear c56
                        try clear c56b0
                        try clear c56b1
                        try clear c56b2
                        try clear c57
                        try clear c61
                        try clear c62
                        try clear c67
                        try clear hcz17_0
                        try clear hcz17_1
                        try clear hcz17_2
                        try clear hcz19_0
                        try clear hcz19_1
                        try clear hcz19_2
                        try clear hcz25_0
                        try clear hcz25_1
                        try clear hcz25_2
                        try clear hcz27_0
                        try clear hcz27_1
                        try clear hcz27_2
                        try clear hcz33_0
                        try clear hcz33_1
                        try clear hcz33_2
                        try clear hcz35_0
                        try clear hcz35_1
                        try clear hcz35_2
                        try clear hcz44_0
                        try clear hcz44_1
                        try clear hcz44_2
                        try clear hcz48_0
                        try clear hcz48_1
                        try clear hcz48_2
                        try clear hcz51_0
                        try clear hcz51_1
                        try clear hcz51_2
                        try clear hcz58_0
                        try clear hcz58_1
                        try clear hcz58_2
                        try clear hcz63_0
                        try clear hcz63_1
                        try clear hcz63_2
                        try clear hcz65_0
                        try clear hcz65_1
                        try clear hcz65_2
                        try clear hcz68_0
                        try clear hcz68_1
                        try clear hcz68_2
                        try clear hcz70_0
                        try clear hcz70_1
                        try clear hcz70_2
                        try clear hfz17_0
                        try clear hfz17_1
                        try clear hfz17_2
                        try clear hfz19_0
                        try clear hfz19_1
                        try clear hfz19_2
                        try clear hfz25_0
                        try clear hfz25_1
                        try clear hfz25_2
                        try clear hfz27_0
                        try clear hfz27_1
                        try clear hfz27_2
                        try clear hfz33_0
                        try clear hfz33_1
                        try clear hfz33_2
                        try clear hfz35_0
                        try clear hfz35_1
                        try clear hfz35_2
                        try clear hfz44_0
                        try clear hfz44_1
                        try clear hfz44_2
                        try clear hfz48_0
                        try clear hfz48_1
                        try clear hfz48_2
                        try clear hfz51_0
                        try clear hfz51_1
                        try clear hfz51_2
                        try clear hfz58_0
                        try clear hfz58_1
                        try clear hfz58_2
                        try clear hfz63_0
                        try clear hfz63_1
                        try clear hfz63_2
                        try clear hfz65_0
                        try clear hfz65_1
                        try clear hfz65_2
                        try clear hfz68_0
                        try clear hfz68_1
                        try clear hfz68_2
                        try clear hfz70_0
                        try clear hfz70_1
                        try clear hfz70_2
                        try clear hx173_0
                        try clear hx173_1
                        try clear hx173_2
                        try clear p1
                        try clear p17
                        try clear p173
                        try clear p2
                        try clear q1
                        try clear q17
                        try clear q173
                        obtain ⟨x19_3, x157_3, x173000_3, rfl, rfl, HA, HK3, BK174, HI172, HB⟩ := hrel
                        cases gk with
                        | zero => exact absurd HA.out (by simp [incunablelaw27_L2pFits.l1])
                        | succ k3 =>
                          have H := HA.out
                          clear HA
                          simp only [incunablelaw27_L2pFits.l1] at H
                          by_cases c72 : x157_3 < 4
                          · rw [if_pos c72] at H
                            have c72b0 : decide (x157_3 < 4) = true := decide_eq_true c72
                            clear c72
                            replace H := Option.bind_eq_some_iff.mp H
                            obtain ⟨⟨t193, t194⟩, A730, H⟩ := H
                            replace H : ((l2p_Map_Rows.f k3 t194 x157_3).bind fun bt195 => (incunablelaw27_L2pFits.l2 k3 (wrap64 (x19_3 + t193)) x157_3 l0 (l0.length : Int) x67_1 x157_3 bt195.1 (bt195.1.length : Int) 0 bt195.2)) = some r := H
                            have A73 := Aside0.mk A730
                            clear A730
                            replace H := Option.bind_eq_some_iff.mp H
                            obtain ⟨⟨t195, t198⟩, A740, H⟩ := H
                            replace H : (incunablelaw27_L2pFits.l2 k3 (wrap64 (x19_3 + t193)) x157_3 l0 (l0.length : Int) x67_1 x157_3 t195 (t195.length : Int) 0 t198) = some r := H
                            have A74 := Aside0.mk A740
                            clear A740
                            have H' := Aside0.mk H
                            clear H
                            go_wp2_with (first | ((with_reducible refine gate_callee (f := 18) rfl ?_); refine goesL_ (some 163) rfl rfl Try.func18 (by kernel_rfl) rfl #[.pointer (some ⟨g172, 0, none⟩), .int .i64 x157_3] rfl (by (try simp only [List.map_toArray, List.map_cons, List.map_nil]); first | done | rfl | (simp only [List.length_drop, List.length_take]; rfl)) ?_; (with_reducible refine (l2p_Map_Valid.calls g172 x173000_3 x157_3 t193 t194 w _ ?side1 ?side2 A73.out).mono ?_); (case side1 => repeat (first | (with_reducible first | exact HI172.out | apply IsS49.alloc | apply IsS49.drewN | apply IsS49.drew | apply IsS49.set_0 | refine IsS49.far ?_ NB172_174.out _) | exact HI172.out)); (case side2 => repeat (first | (with_reducible first | exact HB.out | apply below_alloc | apply pw_below_drewN | apply below_drew1 | refine below_set ?_ (IsS49.ge HI172.out) | refine below_set ?_ GE174.out) | exact HB.out)); rintro e w75 ⟨rfl, hi, hb, hk⟩; refine ⟨_, rfl, ?_⟩; have n0_ := Aside0.mk (KeepBut.blk hk (g' := gb174) (o := .cells #[.int .i64 ((rd_T32 l0 x67_1).f0), .int .i64 ((rd_T32 l0 x67_1).f1), .int .i64 ((rd_T32 l0 x67_1).f2)] 32 (0, 0)) (by (with_reducible repeat (first | refine blk_drewN ?_ _ | refine blk_drew ?_ | refine blk_alloc ?_ _)); exact BK174.out) NB174_172.out (by simp)); have n1_ := Aside0.mk (hb); have n2_ := Aside0.mk (hi); clear BK174; clear HB; clear HI172; have BK174 := n0_; have HB := n1_; have HI172 := n2_; clear n0_ n1_ n2_; (try clear hb); (try clear hb2); (try clear hk); (try clear hi)) | ((with_reducible refine gate_callee (f := 16) rfl ?_); refine goesL_ (some 167) rfl rfl Try.func16 (by kernel_rfl) rfl #[.pointer (some ⟨g172, 0, none⟩), .int .i64 x157_3] rfl (by (try simp only [List.map_toArray, List.map_cons, List.map_nil]); first | done | rfl | (simp only [List.length_drop, List.length_take]; rfl)) ?_; (with_reducible refine (l2p_Map_Rows.calls k3 g172 t194 x157_3 t195 t198 w _ ?side1 ?side2 A74.out).mono ?_); (case side1 => repeat (first | (with_reducible first | exact HI172.out | apply IsS49.alloc | apply IsS49.drewN | apply IsS49.drew | apply IsS49.set_0 | refine IsS49.far ?_ NB172_174.out _) | exact HI172.out)); (case side2 => repeat (first | (with_reducible first | exact HB.out | apply below_alloc | apply pw_below_drewN | apply below_drew1 | refine below_set ?_ (IsS49.ge HI172.out) | refine below_set ?_ GE174.out) | exact HB.out)); rintro e w76 ⟨v196, rfl, ho0, hi, hb, hk⟩; refine ⟨_, rfl, ?_⟩; have n0_ := Aside0.mk (KeepBut.blk hk (g' := gb174) (o := .cells #[.int .i64 ((rd_T32 l0 x67_1).f0), .int .i64 ((rd_T32 l0 x67_1).f1), .int .i64 ((rd_T32 l0 x67_1).f2)] 32 (0, 0)) (by (with_reducible repeat (first | refine blk_drewN ?_ _ | refine blk_drew ?_ | refine blk_alloc ?_ _)); exact BK174.out) NB174_172.out (by simp)); have n1_ := Aside0.mk (Kd.R_lower ho0 (below_size (by repeat (first | (with_reducible first | exact HB.out | apply below_alloc | apply pw_below_drewN | apply below_drew1 | refine below_set ?_ (IsS49.ge HI172.out) | refine below_set ?_ GE174.out) | exact HB.out)))); have n2_ := Aside0.mk (hb); have n3_ := Aside0.mk (hi); clear BK174; clear HB; clear HI172; have BK174 := n0_; have HO197 := n1_; have HB := n2_; have HI172 := n3_; clear n0_ n1_ n2_ n3_; (try clear hb); (try clear hb2); (try clear hk); (try clear hi); (try clear ho0); obtain ⟨Ao77, co77, eo77⟩ := Kd.R_slice HO197.out; subst eo77))
                            go_loopg [169] k3 (fun kq v169 w' => ∃ (x169_4 : Int) (x173000_4 : St), v169 = .int .i64 x169_4 ∧ Aside0 (incunablelaw27_L2pFits.l2 kq (wrap64 (x19_3 + t193)) x157_3 l0 (l0.length : Int) x67_1 x157_3 t195 (t195.length : Int) x169_4 x173000_4 = some r) ∧ Aside0 (kq ≤ k3) ∧ Aside0 (Kd.R (Kd.int .i64) 3 w' w.heap.size (fun _ => True) (.slice Ao77 t195.length co77) t195) ∧ Aside0 (w'.heap[gb174]? = some (.cells #[.int .i64 ((rd_T32 l0 x67_1).f0), .int .i64 ((rd_T32 l0 x67_1).f1), .int .i64 ((rd_T32 l0 x67_1).f2)] 32 (0, 0))) ∧ Aside0 (IsS49 w w' g172 x173000_4) ∧ Aside0 (Below w.heap.size w w'))
                            case atStart => exact ⟨(0), (t198), (by first | rfl | (simp; done) | (simp [*]; done)), H', ⟨Nat.le_refl _⟩, ⟨by (with_reducible repeat (first | apply Kd.R_alloc | apply Kd.R_drewN | apply Kd.R_drew)); exact HO197.out⟩, ⟨by (with_reducible repeat (first | refine blk_drewN ?_ _ | refine blk_drew ?_ | refine blk_alloc ?_ _)); exact BK174.out⟩, ⟨by repeat (first | (with_reducible first | exact HI172.out | apply IsS49.alloc | apply IsS49.drewN | apply IsS49.drew | apply IsS49.set_0 | refine IsS49.far ?_ NB172_174.out _) | exact HI172.out)⟩, ⟨by repeat (first | (with_reducible first | exact HB.out | apply below_alloc | apply pw_below_drewN | apply below_drew1 | refine below_set ?_ (IsS49.ge HI172.out) | refine below_set ?_ GE174.out) | exact HB.out)⟩⟩
                            case round =>
                              clear H'
                              try clear c1
                              try clear p1
                              try clear q1
                              try clear hx1
                              try clear c2
                              try clear p2
                              try clear c3
                              try clear c4
                              try clear c4b0
                              try clear c4b1
                              try clear c5
                              try clear c6
                              try clear p6
                              try clear c7
                              try clear c7b0
                              try clear c7b1
                              try clear c9
                              try clear c10
                              try clear c10b0
                              try clear c11
                              try clear c11b0
                              try clear c12
                              try clear c12b0
                              try clear c13
                              try clear c16
                              try clear p17
                              try clear q17
                              try clear hx17
                              try clear c18
                              try clear c20
                              try clear c20b0
                              try clear c20b1
                              try clear c24
                              try clear c29
                              try clear c29b0
                              try clear c29b1
                              try clear c30
                              try clear c31
                              try clear c31b0
                              try clear c31b1
                              try clear c32
                              try clear c34
                              try clear c36
                              try clear c36b0
                              try clear c36b1
                              try clear c36b2
                              try clear c37
                              try clear c39
                              try clear c39b0
                              try clear c39b1
                              try clear c40
                              try clear c41
                              try clear c41b0
                              try clear c41b1
                              try clear c43
                              try clear c45
                              try clear c47
                              try clear c50
                              try clear c54
                              try clear c54b0
                              try clear c54b1
                              try clear c56
                              try clear c56b0
                              try clear c56b1
                              try clear c56b2
                              try clear c57
                              try clear c61
                              try clear c62
                              try clear p64
                              try clear c67
                              try clear c72
                              try clear c72b0
                              try clear hcz17_0
                              try clear hcz17_1
                              try clear hcz17_2
                              try clear hcz19_0
                              try clear hcz19_1
                              try clear hcz19_2
                              try clear hcz25_0
                              try clear hcz25_1
                              try clear hcz25_2
                              try clear hcz27_0
                              try clear hcz27_1
                              try clear hcz27_2
                              try clear hcz33_0
                              try clear hcz33_1
                              try clear hcz33_2
                              try clear hcz35_0
                              try clear hcz35_1
                              try clear hcz35_2
                              try clear hcz44_0
                              try clear hcz44_1
                              try clear hcz44_2
                              try clear hcz48_0
                              try clear hcz48_1
                              try clear hcz48_2
                              try clear hcz51_0
                              try clear hcz51_1
                              try clear hcz51_2
                              try clear hcz58_0
                              try clear hcz58_1
                              try clear hcz58_2
                              try clear hcz63_0
                              try clear hcz63_1
                              try clear hcz63_2
                              try clear hcz65_0
                              try clear hcz65_1
                              try clear hcz65_2
                              try clear hcz68_0
                              try clear hcz68_1
                              try clear hcz68_2
                              try clear hcz70_0
                              try clear hcz70_1
                              try clear hcz70_2
                              try clear hfz17_0
                              try clear hfz17_1
                              try clear hfz17_2
                              try clear hfz19_0
                              try clear hfz19_1
                              try clear hfz19_2
                              try clear hfz25_0
                              try clear hfz25_1
                              try clear hfz25_2
                              try clear hfz27_0
                              try clear hfz27_1
                              try clear hfz27_2
                              try clear hfz33_0
                              try clear hfz33_1
                              try clear hfz33_2
                              try clear hfz35_0
                              try clear hfz35_1
                              try clear hfz35_2
                              try clear hfz44_0
                              try clear hfz44_1
                              try clear hfz44_2
                              try clear hfz48_0
                              try clear hfz48_1
                              try clear hfz48_2
                              try clear hfz51_0
                              try clear hfz51_1
                              try clear hfz51_2
                              try clear hfz58_0
                              try clear hfz58_1
                              try clear hfz58_2
                              try clear hfz63_0
                              try clear hfz63_1
                              try clear hfz63_2
                              try clear hfz65_0
                              try clear hfz65_1
                              try clear hfz65_2
                              try clear hfz68_0
                              try clear hfz68_1
                              try clear hfz68_2
                              try clear hfz70_0
                              try clear hfz70_1
                              try clear hfz70_2
                              try clear hx173_0
                              try clear hx173_1
                              try clear hx173_2
                              try clear p1
                              try clear p17
                              try clear p173
                              try clear p2
                              try clear q1
                              try clear q17
                              try clear q173
                              obtain ⟨x169_4, x173000_4, rfl, HA, HK4, HO_167, BK174, HI172, HB⟩ := hrel
                              cases gk with
                              | zero => exact absurd HA.out (by simp [incunablelaw27_L2pFits.l2])
                              | succ k4 =>
                                have H := HA.out
                                clear HA
                                simp only [incunablelaw27_L2pFits.l2] at H
                                by_cases c78 : x169_4 < (t195.length : Int)
                                · rw [if_pos c78] at H
                                  have c78b0 : decide (x169_4 < (t195.length : Int)) = true := decide_eq_true c78
                                  clear c78
                                  by_cases c79 : 0 ≤ x169_4
                                  · rw [if_pos c79] at H
                                    have c79b0 : decide (0 ≤ x169_4) = true := decide_eq_true c79
                                    clear c79
                                    by_cases c80 : x169_4 < (t195.length : Int)
                                    · rw [if_pos c80] at H
                                      have c80b0 : decide (x169_4 < (t195.length : Int)) = true := decide_eq_true c80
                                      clear c80
                                      replace H := Option.bind_eq_some_iff.mp H
                                      obtain ⟨⟨t200, t201, t202⟩, A810, H⟩ := H
                                      replace H : ((l2p_Map_Row.f t202 t200).bind fun bt203 => (if t201 = true then (if bt203.2.1 = true then (if bt203.1 = (rd t195 x169_4) then (if (wrap64 (Int.tdiv (rd t195 x169_4) 6)) = x157_3 then (incunablelaw27_L2pFits.l2 k4 (wrap64 (x19_3 + t193)) x157_3 l0 (l0.length : Int) x67_1 x157_3 t195 (t195.length : Int) (wrap64 (x169_4 + 1)) bt203.2.2) else (some false)) else (some false)) else (some false)) else (some false))) = some r := H
                                      have A81 := Aside0.mk A810
                                      clear A810
                                      replace H := Option.bind_eq_some_iff.mp H
                                      obtain ⟨⟨t203, t204, t205⟩, A820, H⟩ := H
                                      replace H : (if t201 = true then (if t204 = true then (if t203 = (rd t195 x169_4) then (if (wrap64 (Int.tdiv (rd t195 x169_4) 6)) = x157_3 then (incunablelaw27_L2pFits.l2 k4 (wrap64 (x19_3 + t193)) x157_3 l0 (l0.length : Int) x67_1 x157_3 t195 (t195.length : Int) (wrap64 (x169_4 + 1)) t205) else (some false)) else (some false)) else (some false)) else (some false)) = some r := H
                                      have A82 := Aside0.mk A820
                                      clear A820
                                      by_cases c83 : t201 = true
                                      · subst c83
                                        have H1 : (if t204 = true then (if t203 = (rd t195 x169_4) then (if (wrap64 (Int.tdiv (rd t195 x169_4) 6)) = x157_3 then (incunablelaw27_L2pFits.l2 k4 (wrap64 (x19_3 + t193)) x157_3 l0 (l0.length : Int) x67_1 x157_3 t195 (t195.length : Int) (wrap64 (x169_4 + 1)) t205) else (some false)) else (some false)) else (some false)) = some r := by rw [if_pos rfl] at H; exact H
                                        clear H
                                        have H := H1
                                        clear H1
                                        by_cases c84 : t204 = true
                                        · subst c84
                                          have H1 : (if t203 = (rd t195 x169_4) then (if (wrap64 (Int.tdiv (rd t195 x169_4) 6)) = x157_3 then (incunablelaw27_L2pFits.l2 k4 (wrap64 (x19_3 + t193)) x157_3 l0 (l0.length : Int) x67_1 x157_3 t195 (t195.length : Int) (wrap64 (x169_4 + 1)) t205) else (some false)) else (some false)) = some r := by rw [if_pos rfl] at H; exact H
                                          clear H
                                          have H := H1
                                          clear H1
                                          by_cases c85 : t203 = (rd t195 x169_4)
                                          · rw [if_pos c85] at H
                                            have c85b0 : (t203 == (rd t195 x169_4)) = true := beq_iff_eq.mpr c85
                                            have c85b1 : (t203 != (rd t195 x169_4)) = false := bne_eq_false_iff_eq.mpr c85
                                            clear c85
                                            by_cases c86 : (wrap64 (Int.tdiv (rd t195 x169_4) 6)) = x157_3
                                            · rw [if_pos c86] at H
                                              have c86b0 : ((wrap64 (Int.tdiv (rd t195 x169_4) 6)) == x157_3) = true := beq_iff_eq.mpr c86
                                              have c86b1 : ((wrap64 (Int.tdiv (rd t195 x169_4) 6)) != x157_3) = false := bne_eq_false_iff_eq.mpr c86
                                              clear c86
                                              have H' := Aside0.mk H
                                              clear H
                                              have p199 : 0 ≤ (x169_4 : Int) := of_decide_eq_true (by first | (with_reducible assumption) | assumption)
                                              have q199 : x169_4 < (t195.length : Int) := of_decide_eq_true (by first | (with_reducible assumption) | assumption)
                                              obtain ⟨ad199, e199, hx199_0⟩ := Kd.at_int (Kd.R_reads' HO_167.out).2.2 x169_4 p199 q199
                                              cases e199
                                              replace p199 := eq_true p199
                                              replace q199 := eq_true q199
                                              go_wp2_with (first | ((with_reducible refine gate_callee (f := 20) rfl ?_); refine goesL_ (some 176) rfl rfl Try.func20 (by kernel_rfl) rfl #[.pointer (some ⟨g172, 0, none⟩), .int .i64 (rd t195 x169_4)] rfl (by (try simp only [List.map_toArray, List.map_cons, List.map_nil]); first | done | rfl | (simp only [List.length_drop, List.length_take]; rfl)) ?_; (with_reducible refine (l2p_Map_Sector.calls g172 x173000_4 (rd t195 x169_4) t200 true t202 w _ ?side1 ?side2 A81.out).mono ?_); (case side1 => repeat (first | (with_reducible first | exact HI172.out | apply IsS49.alloc | apply IsS49.drewN | apply IsS49.drew | apply IsS49.set_0 | refine IsS49.far ?_ NB172_174.out _) | exact HI172.out)); (case side2 => repeat (first | (with_reducible first | exact HB.out | apply below_alloc | apply pw_below_drewN | apply below_drew1 | refine below_set ?_ (IsS49.ge HI172.out) | refine below_set ?_ GE174.out) | exact HB.out)); rintro e w87 ⟨rfl, hi, hb, hk⟩; refine ⟨_, rfl, ?_⟩; have n0_ := Aside0.mk (Kd.R_mono (Kd.R_keep (IsS49.apart (show IsS49 w _ g172 x173000_4 from by repeat (first | (with_reducible first | exact HI172.out | apply IsS49.alloc | apply IsS49.drewN | apply IsS49.drew | apply IsS49.set_0 | refine IsS49.far ?_ NB172_174.out _) | exact HI172.out)) (by (with_reducible repeat (first | apply Kd.R_alloc | apply Kd.R_drewN | apply Kd.R_drew)); exact HO_167.out) (by decide)) hk (fun _ h => h.2)) (fun _ h => h.1)); have n1_ := Aside0.mk (KeepBut.blk hk (g' := gb174) (o := .cells #[.int .i64 ((rd_T32 l0 x67_1).f0), .int .i64 ((rd_T32 l0 x67_1).f1), .int .i64 ((rd_T32 l0 x67_1).f2)] 32 (0, 0)) (by (with_reducible repeat (first | refine blk_drewN ?_ _ | refine blk_drew ?_ | refine blk_alloc ?_ _)); exact BK174.out) NB174_172.out (by simp)); have n2_ := Aside0.mk (hb); have n3_ := Aside0.mk (hi); clear HO_167; clear BK174; clear HB; clear HI172; have HO_167 := n0_; have BK174 := n1_; have HB := n2_; have HI172 := n3_; clear n0_ n1_ n2_ n3_; (try clear hb); (try clear hb2); (try clear hk); (try clear hi)) | ((with_reducible refine gate_callee (f := 13) rfl ?_); refine goesL_ (some 182) rfl rfl Try.func13 (by kernel_rfl) rfl #[.pointer (some ⟨g172, 0, none⟩), .int .i64 t200] rfl (by (try simp only [List.map_toArray, List.map_cons, List.map_nil]); first | done | rfl | (simp only [List.length_drop, List.length_take]; rfl)) ?_; (with_reducible refine (l2p_Map_Row.calls g172 t202 t200 t203 true t205 w _ ?side1 ?side2 A82.out).mono ?_); (case side1 => repeat (first | (with_reducible first | exact HI172.out | apply IsS49.alloc | apply IsS49.drewN | apply IsS49.drew | apply IsS49.set_0 | refine IsS49.far ?_ NB172_174.out _) | exact HI172.out)); (case side2 => repeat (first | (with_reducible first | exact HB.out | apply below_alloc | apply pw_below_drewN | apply below_drew1 | refine below_set ?_ (IsS49.ge HI172.out) | refine below_set ?_ GE174.out) | exact HB.out)); rintro e w88 ⟨rfl, hi, hb, hk⟩; refine ⟨_, rfl, ?_⟩; have n0_ := Aside0.mk (Kd.R_mono (Kd.R_keep (IsS49.apart (show IsS49 w _ g172 t202 from by repeat (first | (with_reducible first | exact HI172.out | apply IsS49.alloc | apply IsS49.drewN | apply IsS49.drew | apply IsS49.set_0 | refine IsS49.far ?_ NB172_174.out _) | exact HI172.out)) (by (with_reducible repeat (first | apply Kd.R_alloc | apply Kd.R_drewN | apply Kd.R_drew)); exact HO_167.out) (by decide)) hk (fun _ h => h.2)) (fun _ h => h.1)); have n1_ := Aside0.mk (KeepBut.blk hk (g' := gb174) (o := .cells #[.int .i64 ((rd_T32 l0 x67_1).f0), .int .i64 ((rd_T32 l0 x67_1).f1), .int .i64 ((rd_T32 l0 x67_1).f2)] 32 (0, 0)) (by (with_reducible repeat (first | refine blk_drewN ?_ _ | refine blk_drew ?_ | refine blk_alloc ?_ _)); exact BK174.out) NB174_172.out (by simp)); have n2_ := Aside0.mk (hb); have n3_ := Aside0.mk (hi); clear HO_167; clear BK174; clear HB; clear HI172; have HO_167 := n0_; have BK174 := n1_; have HB := n2_; have HI172 := n3_; clear n0_ n1_ n2_ n3_; (try clear hb); (try clear hb2); (try clear hk); (try clear hi)))
                                              go_roundg k4
                                              case measure => have := HK1.out; have := HJ13.out; have := HK3.out; have := HK4.out; omega
                                              case rel => exact ⟨(wrap64 (x169_4 + 1)), (t205), (by first | rfl | (simp; done) | (simp [*]; done)), H', ⟨by have := HK1.out; have := HJ13.out; have := HK3.out; have := HK4.out; omega⟩, ⟨by (with_reducible repeat (first | apply Kd.R_alloc | apply Kd.R_drewN | apply Kd.R_drew)); exact HO_167.out⟩, ⟨by (with_reducible repeat (first | refine blk_drewN ?_ _ | refine blk_drew ?_ | refine blk_alloc ?_ _)); exact BK174.out⟩, ⟨by repeat (first | (with_reducible first | exact HI172.out | apply IsS49.alloc | apply IsS49.drewN | apply IsS49.drew | apply IsS49.set_0 | refine IsS49.far ?_ NB172_174.out _) | exact HI172.out)⟩, ⟨by repeat (first | (with_reducible first | exact HB.out | apply below_alloc | apply pw_below_drewN | apply below_drew1 | refine below_set ?_ (IsS49.ge HI172.out) | refine below_set ?_ GE174.out) | exact HB.out)⟩⟩
                                            · rw [if_neg c86] at H
                                              have c86b0 : ((wrap64 (Int.tdiv (rd t195 x169_4) 6)) == x157_3) = false := beq_eq_false_iff_ne.mpr c86
                                              have c86b1 : ((wrap64 (Int.tdiv (rd t195 x169_4) 6)) != x157_3) = true := bne_iff_ne.mpr c86
                                              obtain rfl := Option.some.inj H
                                              have p199 : 0 ≤ (x169_4 : Int) := of_decide_eq_true (by first | (with_reducible assumption) | assumption)
                                              have q199 : x169_4 < (t195.length : Int) := of_decide_eq_true (by first | (with_reducible assumption) | assumption)
                                              obtain ⟨ad199, e199, hx199_0⟩ := Kd.at_int (Kd.R_reads' HO_167.out).2.2 x169_4 p199 q199
                                              cases e199
                                              replace p199 := eq_true p199
                                              replace q199 := eq_true q199
                                              go_wp2_with (first | ((with_reducible refine gate_callee (f := 20) rfl ?_); refine goesL_ (some 176) rfl rfl Try.func20 (by kernel_rfl) rfl #[.pointer (some ⟨g172, 0, none⟩), .int .i64 (rd t195 x169_4)] rfl (by (try simp only [List.map_toArray, List.map_cons, List.map_nil]); first | done | rfl | (simp only [List.length_drop, List.length_take]; rfl)) ?_; (with_reducible refine (l2p_Map_Sector.calls g172 x173000_4 (rd t195 x169_4) t200 true t202 w _ ?side1 ?side2 A81.out).mono ?_); (case side1 => repeat (first | (with_reducible first | exact HI172.out | apply IsS49.alloc | apply IsS49.drewN | apply IsS49.drew | apply IsS49.set_0 | refine IsS49.far ?_ NB172_174.out _) | exact HI172.out)); (case side2 => repeat (first | (with_reducible first | exact HB.out | apply below_alloc | apply pw_below_drewN | apply below_drew1 | refine below_set ?_ (IsS49.ge HI172.out) | refine below_set ?_ GE174.out) | exact HB.out)); rintro e w89 ⟨rfl, hi, hb, hk⟩; refine ⟨_, rfl, ?_⟩; have n0_ := Aside0.mk (Kd.R_mono (Kd.R_keep (IsS49.apart (show IsS49 w _ g172 x173000_4 from by repeat (first | (with_reducible first | exact HI172.out | apply IsS49.alloc | apply IsS49.drewN | apply IsS49.drew | apply IsS49.set_0 | refine IsS49.far ?_ NB172_174.out _) | exact HI172.out)) (by (with_reducible repeat (first | apply Kd.R_alloc | apply Kd.R_drewN | apply Kd.R_drew)); exact HO_167.out) (by decide)) hk (fun _ h => h.2)) (fun _ h => h.1)); have n1_ := Aside0.mk (KeepBut.blk hk (g' := gb174) (o := .cells #[.int .i64 ((rd_T32 l0 x67_1).f0), .int .i64 ((rd_T32 l0 x67_1).f1), .int .i64 ((rd_T32 l0 x67_1).f2)] 32 (0, 0)) (by (with_reducible repeat (first | refine blk_drewN ?_ _ | refine blk_drew ?_ | refine blk_alloc ?_ _)); exact BK174.out) NB174_172.out (by simp)); have n2_ := Aside0.mk (hb); have n3_ := Aside0.mk (hi); clear HO_167; clear BK174; clear HB; clear HI172; have HO_167 := n0_; have BK174 := n1_; have HB := n2_; have HI172 := n3_; clear n0_ n1_ n2_ n3_; (try clear hb); (try clear hb2); (try clear hk); (try clear hi)) | ((with_reducible refine gate_callee (f := 13) rfl ?_); refine goesL_ (some 182) rfl rfl Try.func13 (by kernel_rfl) rfl #[.pointer (some ⟨g172, 0, none⟩), .int .i64 t200] rfl (by (try simp only [List.map_toArray, List.map_cons, List.map_nil]); first | done | rfl | (simp only [List.length_drop, List.length_take]; rfl)) ?_; (with_reducible refine (l2p_Map_Row.calls g172 t202 t200 t203 true t205 w _ ?side1 ?side2 A82.out).mono ?_); (case side1 => repeat (first | (with_reducible first | exact HI172.out | apply IsS49.alloc | apply IsS49.drewN | apply IsS49.drew | apply IsS49.set_0 | refine IsS49.far ?_ NB172_174.out _) | exact HI172.out)); (case side2 => repeat (first | (with_reducible first | exact HB.out | apply below_alloc | apply pw_below_drewN | apply below_drew1 | refine below_set ?_ (IsS49.ge HI172.out) | refine below_set ?_ GE174.out) | exact HB.out)); rintro e w90 ⟨rfl, hi, hb, hk⟩; refine ⟨_, rfl, ?_⟩; have n0_ := Aside0.mk (Kd.R_mono (Kd.R_keep (IsS49.apart (show IsS49 w _ g172 t202 from by repeat (first | (with_reducible first | exact HI172.out | apply IsS49.alloc | apply IsS49.drewN | apply IsS49.drew | apply IsS49.set_0 | refine IsS49.far ?_ NB172_174.out _) | exact HI172.out)) (by (with_reducible repeat (first | apply Kd.R_alloc | apply Kd.R_drewN | apply Kd.R_drew)); exact HO_167.out) (by decide)) hk (fun _ h => h.2)) (fun _ h => h.1)); have n1_ := Aside0.mk (KeepBut.blk hk (g' := gb174) (o := .cells #[.int .i64 ((rd_T32 l0 x67_1).f0), .int .i64 ((rd_T32 l0 x67_1).f1), .int .i64 ((rd_T32 l0 x67_1).f2)] 32 (0, 0)) (by (with_reducible repeat (first | refine blk_drewN ?_ _ | refine blk_drew ?_ | refine blk_alloc ?_ _)); exact BK174.out) NB174_172.out (by simp)); have n2_ := Aside0.mk (hb); have n3_ := Aside0.mk (hi); clear HO_167; clear BK174; clear HB; clear HI172; have HO_167 := n0_; have BK174 := n1_; have HB := n2_; have HI172 := n3_; clear n0_ n1_ n2_ n3_; (try clear hb); (try clear hb2); (try clear hk); (try clear hi)))
                                              go_ret
                                              exact ⟨by first | rfl | (simp [errW_none, errW_some] <;> rfl) | (simp [*, errW_none, errW_some] <;> rfl), by repeat (first | (with_reducible first | exact HB.out | apply below_alloc | apply pw_below_drewN | apply below_drew1 | refine below_set ?_ (IsS49.ge HI172.out) | refine below_set ?_ GE174.out) | exact HB.out)⟩
                                          · rw [if_neg c85] at H
                                            have c85b0 : (t203 == (rd t195 x169_4)) = false := beq_eq_false_iff_ne.mpr c85
                                            have c85b1 : (t203 != (rd t195 x169_4)) = true := bne_iff_ne.mpr c85
                                            obtain rfl := Option.some.inj H
                                            have p199 : 0 ≤ (x169_4 : Int) := of_decide_eq_true (by first | (with_reducible assumption) | assumption)
                                            have q199 : x169_4 < (t195.length : Int) := of_decide_eq_true (by first | (with_reducible assumption) | assumption)
                                            obtain ⟨ad199, e199, hx199_0⟩ := Kd.at_int (Kd.R_reads' HO_167.out).2.2 x169_4 p199 q199
                                            cases e199
                                            replace p199 := eq_true p199
                                            replace q199 := eq_true q199
                                            go_wp2_with (first | ((with_reducible refine gate_callee (f := 20) rfl ?_); refine goesL_ (some 176) rfl rfl Try.func20 (by kernel_rfl) rfl #[.pointer (some ⟨g172, 0, none⟩), .int .i64 (rd t195 x169_4)] rfl (by (try simp only [List.map_toArray, List.map_cons, List.map_nil]); first | done | rfl | (simp only [List.length_drop, List.length_take]; rfl)) ?_; (with_reducible refine (l2p_Map_Sector.calls g172 x173000_4 (rd t195 x169_4) t200 true t202 w _ ?side1 ?side2 A81.out).mono ?_); (case side1 => repeat (first | (with_reducible first | exact HI172.out | apply IsS49.alloc | apply IsS49.drewN | apply IsS49.drew | apply IsS49.set_0 | refine IsS49.far ?_ NB172_174.out _) | exact HI172.out)); (case side2 => repeat (first | (with_reducible first | exact HB.out | apply below_alloc | apply pw_below_drewN | apply below_drew1 | refine below_set ?_ (IsS49.ge HI172.out) | refine below_set ?_ GE174.out) | exact HB.out)); rintro e w91 ⟨rfl, hi, hb, hk⟩; refine ⟨_, rfl, ?_⟩; have n0_ := Aside0.mk (Kd.R_mono (Kd.R_keep (IsS49.apart (show IsS49 w _ g172 x173000_4 from by repeat (first | (with_reducible first | exact HI172.out | apply IsS49.alloc | apply IsS49.drewN | apply IsS49.drew | apply IsS49.set_0 | refine IsS49.far ?_ NB172_174.out _) | exact HI172.out)) (by (with_reducible repeat (first | apply Kd.R_alloc | apply Kd.R_drewN | apply Kd.R_drew)); exact HO_167.out) (by decide)) hk (fun _ h => h.2)) (fun _ h => h.1)); have n1_ := Aside0.mk (KeepBut.blk hk (g' := gb174) (o := .cells #[.int .i64 ((rd_T32 l0 x67_1).f0), .int .i64 ((rd_T32 l0 x67_1).f1), .int .i64 ((rd_T32 l0 x67_1).f2)] 32 (0, 0)) (by (with_reducible repeat (first | refine blk_drewN ?_ _ | refine blk_drew ?_ | refine blk_alloc ?_ _)); exact BK174.out) NB174_172.out (by simp)); have n2_ := Aside0.mk (hb); have n3_ := Aside0.mk (hi); clear HO_167; clear BK174; clear HB; clear HI172; have HO_167 := n0_; have BK174 := n1_; have HB := n2_; have HI172 := n3_; clear n0_ n1_ n2_ n3_; (try clear hb); (try clear hb2); (try clear hk); (try clear hi)) | ((with_reducible refine gate_callee (f := 13) rfl ?_); refine goesL_ (some 182) rfl rfl Try.func13 (by kernel_rfl) rfl #[.pointer (some ⟨g172, 0, none⟩), .int .i64 t200] rfl (by (try simp only [List.map_toArray, List.map_cons, List.map_nil]); first | done | rfl | (simp only [List.length_drop, List.length_take]; rfl)) ?_; (with_reducible refine (l2p_Map_Row.calls g172 t202 t200 t203 true t205 w _ ?side1 ?side2 A82.out).mono ?_); (case side1 => repeat (first | (with_reducible first | exact HI172.out | apply IsS49.alloc | apply IsS49.drewN | apply IsS49.drew | apply IsS49.set_0 | refine IsS49.far ?_ NB172_174.out _) | exact HI172.out)); (case side2 => repeat (first | (with_reducible first | exact HB.out | apply below_alloc | apply pw_below_drewN | apply below_drew1 | refine below_set ?_ (IsS49.ge HI172.out) | refine below_set ?_ GE174.out) | exact HB.out)); rintro e w92 ⟨rfl, hi, hb, hk⟩; refine ⟨_, rfl, ?_⟩; have n0_ := Aside0.mk (Kd.R_mono (Kd.R_keep (IsS49.apart (show IsS49 w _ g172 t202 from by repeat (first | (with_reducible first | exact HI172.out | apply IsS49.alloc | apply IsS49.drewN | apply IsS49.drew | apply IsS49.set_0 | refine IsS49.far ?_ NB172_174.out _) | exact HI172.out)) (by (with_reducible repeat (first | apply Kd.R_alloc | apply Kd.R_drewN | apply Kd.R_drew)); exact HO_167.out) (by decide)) hk (fun _ h => h.2)) (fun _ h => h.1)); have n1_ := Aside0.mk (KeepBut.blk hk (g' := gb174) (o := .cells #[.int .i64 ((rd_T32 l0 x67_1).f0), .int .i64 ((rd_T32 l0 x67_1).f1), .int .i64 ((rd_T32 l0 x67_1).f2)] 32 (0, 0)) (by (with_reducible repeat (first | refine blk_drewN ?_ _ | refine blk_drew ?_ | refine blk_alloc ?_ _)); exact BK174.out) NB174_172.out (by simp)); have n2_ := Aside0.mk (hb); have n3_ := Aside0.mk (hi); clear HO_167; clear BK174; clear HB; clear HI172; have HO_167 := n0_; have BK174 := n1_; have HB := n2_; have HI172 := n3_; clear n0_ n1_ n2_ n3_; (try clear hb); (try clear hb2); (try clear hk); (try clear hi)))
                                            go_ret
                                            exact ⟨by first | rfl | (simp [errW_none, errW_some] <;> rfl) | (simp [*, errW_none, errW_some] <;> rfl), by repeat (first | (with_reducible first | exact HB.out | apply below_alloc | apply pw_below_drewN | apply below_drew1 | refine below_set ?_ (IsS49.ge HI172.out) | refine below_set ?_ GE174.out) | exact HB.out)⟩
                                        · replace c84 := Bool.eq_false_iff.mpr c84
                                          subst c84
                                          have H1 : (some false) = some r := by rw [if_neg (show ¬ (false = true) by decide)] at H; exact H
                                          clear H
                                          have H := H1
                                          clear H1
                                          obtain rfl := Option.some.inj H
                                          have p199 : 0 ≤ (x169_4 : Int) := of_decide_eq_true (by first | (with_reducible assumption) | assumption)
                                          have q199 : x169_4 < (t195.length : Int) := of_decide_eq_true (by first | (with_reducible assumption) | assumption)
                                          obtain ⟨ad199, e199, hx199_0⟩ := Kd.at_int (Kd.R_reads' HO_167.out).2.2 x169_4 p199 q199
                                          cases e199
                                          replace p199 := eq_true p199
                                          replace q199 := eq_true q199
                                          go_wp2_with (first | ((with_reducible refine gate_callee (f := 20) rfl ?_); refine goesL_ (some 176) rfl rfl Try.func20 (by kernel_rfl) rfl #[.pointer (some ⟨g172, 0, none⟩), .int .i64 (rd t195 x169_4)] rfl (by (try simp only [List.map_toArray, List.map_cons, List.map_nil]); first | done | rfl | (simp only [List.length_drop, List.length_take]; rfl)) ?_; (with_reducible refine (l2p_Map_Sector.calls g172 x173000_4 (rd t195 x169_4) t200 true t202 w _ ?side1 ?side2 A81.out).mono ?_); (case side1 => repeat (first | (with_reducible first | exact HI172.out | apply IsS49.alloc | apply IsS49.drewN | apply IsS49.drew | apply IsS49.set_0 | refine IsS49.far ?_ NB172_174.out _) | exact HI172.out)); (case side2 => repeat (first | (with_reducible first | exact HB.out | apply below_alloc | apply pw_below_drewN | apply below_drew1 | refine below_set ?_ (IsS49.ge HI172.out) | refine below_set ?_ GE174.out) | exact HB.out)); rintro e w93 ⟨rfl, hi, hb, hk⟩; refine ⟨_, rfl, ?_⟩; have n0_ := Aside0.mk (Kd.R_mono (Kd.R_keep (IsS49.apart (show IsS49 w _ g172 x173000_4 from by repeat (first | (with_reducible first | exact HI172.out | apply IsS49.alloc | apply IsS49.drewN | apply IsS49.drew | apply IsS49.set_0 | refine IsS49.far ?_ NB172_174.out _) | exact HI172.out)) (by (with_reducible repeat (first | apply Kd.R_alloc | apply Kd.R_drewN | apply Kd.R_drew)); exact HO_167.out) (by decide)) hk (fun _ h => h.2)) (fun _ h => h.1)); have n1_ := Aside0.mk (KeepBut.blk hk (g' := gb174) (o := .cells #[.int .i64 ((rd_T32 l0 x67_1).f0), .int .i64 ((rd_T32 l0 x67_1).f1), .int .i64 ((rd_T32 l0 x67_1).f2)] 32 (0, 0)) (by (with_reducible repeat (first | refine blk_drewN ?_ _ | refine blk_drew ?_ | refine blk_alloc ?_ _)); exact BK174.out) NB174_172.out (by simp)); have n2_ := Aside0.mk (hb); have n3_ := Aside0.mk (hi); clear HO_167; clear BK174; clear HB; clear HI172; have HO_167 := n0_; have BK174 := n1_; have HB := n2_; have HI172 := n3_; clear n0_ n1_ n2_ n3_; (try clear hb); (try clear hb2); (try clear hk); (try clear hi)) | ((with_reducible refine gate_callee (f := 13) rfl ?_); refine goesL_ (some 182) rfl rfl Try.func13 (by kernel_rfl) rfl #[.pointer (some ⟨g172, 0, none⟩), .int .i64 t200] rfl (by (try simp only [List.map_toArray, List.map_cons, List.map_nil]); first | done | rfl | (simp only [List.length_drop, List.length_take]; rfl)) ?_; (with_reducible refine (l2p_Map_Row.calls g172 t202 t200 t203 false t205 w _ ?side1 ?side2 A82.out).mono ?_); (case side1 => repeat (first | (with_reducible first | exact HI172.out | apply IsS49.alloc | apply IsS49.drewN | apply IsS49.drew | apply IsS49.set_0 | refine IsS49.far ?_ NB172_174.out _) | exact HI172.out)); (case side2 => repeat (first | (with_reducible first | exact HB.out | apply below_alloc | apply pw_below_drewN | apply below_drew1 | refine below_set ?_ (IsS49.ge HI172.out) | refine below_set ?_ GE174.out) | exact HB.out)); rintro e w94 ⟨rfl, hi, hb, hk⟩; refine ⟨_, rfl, ?_⟩; have n0_ := Aside0.mk (Kd.R_mono (Kd.R_keep (IsS49.apart (show IsS49 w _ g172 t202 from by repeat (first | (with_reducible first | exact HI172.out | apply IsS49.alloc | apply IsS49.drewN | apply IsS49.drew | apply IsS49.set_0 | refine IsS49.far ?_ NB172_174.out _) | exact HI172.out)) (by (with_reducible repeat (first | apply Kd.R_alloc | apply Kd.R_drewN | apply Kd.R_drew)); exact HO_167.out) (by decide)) hk (fun _ h => h.2)) (fun _ h => h.1)); have n1_ := Aside0.mk (KeepBut.blk hk (g' := gb174) (o := .cells #[.int .i64 ((rd_T32 l0 x67_1).f0), .int .i64 ((rd_T32 l0 x67_1).f1), .int .i64 ((rd_T32 l0 x67_1).f2)] 32 (0, 0)) (by (with_reducible repeat (first | refine blk_drewN ?_ _ | refine blk_drew ?_ | refine blk_alloc ?_ _)); exact BK174.out) NB174_172.out (by simp)); have n2_ := Aside0.mk (hb); have n3_ := Aside0.mk (hi); clear HO_167; clear BK174; clear HB; clear HI172; have HO_167 := n0_; have BK174 := n1_; have HB := n2_; have HI172 := n3_; clear n0_ n1_ n2_ n3_; (try clear hb); (try clear hb2); (try clear hk); (try clear hi)))
                                          go_ret
                                          exact ⟨by first | rfl | (simp [errW_none, errW_some] <;> rfl) | (simp [*, errW_none, errW_some] <;> rfl), by repeat (first | (with_reducible first | exact HB.out | apply below_alloc | apply pw_below_drewN | apply below_drew1 | refine below_set ?_ (IsS49.ge HI172.out) | refine below_set ?_ GE174.out) | exact HB.out)⟩
                                      · replace c83 := Bool.eq_false_iff.mpr c83
                                        subst c83
                                        have H1 : (some false) = some r := by rw [if_neg (show ¬ (false = true) by decide)] at H; exact H
                                        clear H
                                        have H := H1
                                        clear H1
                                        obtain rfl := Option.some.inj H
                                        have p199 : 0 ≤ (x169_4 : Int) := of_decide_eq_true (by first | (with_reducible assumption) | assumption)
                                        have q199 : x169_4 < (t195.length : Int) := of_decide_eq_true (by first | (with_reducible assumption) | assumption)
                                        obtain ⟨ad199, e199, hx199_0⟩ := Kd.at_int (Kd.R_reads' HO_167.out).2.2 x169_4 p199 q199
                                        cases e199
                                        replace p199 := eq_true p199
                                        replace q199 := eq_true q199
                                        go_wp2_with (first | ((with_reducible refine gate_callee (f := 20) rfl ?_); refine goesL_ (some 176) rfl rfl Try.func20 (by kernel_rfl) rfl #[.pointer (some ⟨g172, 0, none⟩), .int .i64 (rd t195 x169_4)] rfl (by (try simp only [List.map_toArray, List.map_cons, List.map_nil]); first | done | rfl | (simp only [List.length_drop, List.length_take]; rfl)) ?_; (with_reducible refine (l2p_Map_Sector.calls g172 x173000_4 (rd t195 x169_4) t200 false t202 w _ ?side1 ?side2 A81.out).mono ?_); (case side1 => repeat (first | (with_reducible first | exact HI172.out | apply IsS49.alloc | apply IsS49.drewN | apply IsS49.drew | apply IsS49.set_0 | refine IsS49.far ?_ NB172_174.out _) | exact HI172.out)); (case side2 => repeat (first | (with_reducible first | exact HB.out | apply below_alloc | apply pw_below_drewN | apply below_drew1 | refine below_set ?_ (IsS49.ge HI172.out) | refine below_set ?_ GE174.out) | exact HB.out)); rintro e w95 ⟨rfl, hi, hb, hk⟩; refine ⟨_, rfl, ?_⟩; have n0_ := Aside0.mk (Kd.R_mono (Kd.R_keep (IsS49.apart (show IsS49 w _ g172 x173000_4 from by repeat (first | (with_reducible first | exact HI172.out | apply IsS49.alloc | apply IsS49.drewN | apply IsS49.drew | apply IsS49.set_0 | refine IsS49.far ?_ NB172_174.out _) | exact HI172.out)) (by (with_reducible repeat (first | apply Kd.R_alloc | apply Kd.R_drewN | apply Kd.R_drew)); exact HO_167.out) (by decide)) hk (fun _ h => h.2)) (fun _ h => h.1)); have n1_ := Aside0.mk (KeepBut.blk hk (g' := gb174) (o := .cells #[.int .i64 ((rd_T32 l0 x67_1).f0), .int .i64 ((rd_T32 l0 x67_1).f1), .int .i64 ((rd_T32 l0 x67_1).f2)] 32 (0, 0)) (by (with_reducible repeat (first | refine blk_drewN ?_ _ | refine blk_drew ?_ | refine blk_alloc ?_ _)); exact BK174.out) NB174_172.out (by simp)); have n2_ := Aside0.mk (hb); have n3_ := Aside0.mk (hi); clear HO_167; clear BK174; clear HB; clear HI172; have HO_167 := n0_; have BK174 := n1_; have HB := n2_; have HI172 := n3_; clear n0_ n1_ n2_ n3_; (try clear hb); (try clear hb2); (try clear hk); (try clear hi)) | ((with_reducible refine gate_callee (f := 13) rfl ?_); refine goesL_ (some 182) rfl rfl Try.func13 (by kernel_rfl) rfl #[.pointer (some ⟨g172, 0, none⟩), .int .i64 t200] rfl (by (try simp only [List.map_toArray, List.map_cons, List.map_nil]); first | done | rfl | (simp only [List.length_drop, List.length_take]; rfl)) ?_; (with_reducible refine (l2p_Map_Row.calls g172 t202 t200 t203 t204 t205 w _ ?side1 ?side2 A82.out).mono ?_); (case side1 => repeat (first | (with_reducible first | exact HI172.out | apply IsS49.alloc | apply IsS49.drewN | apply IsS49.drew | apply IsS49.set_0 | refine IsS49.far ?_ NB172_174.out _) | exact HI172.out)); (case side2 => repeat (first | (with_reducible first | exact HB.out | apply below_alloc | apply pw_below_drewN | apply below_drew1 | refine below_set ?_ (IsS49.ge HI172.out) | refine below_set ?_ GE174.out) | exact HB.out)); rintro e w96 ⟨rfl, hi, hb, hk⟩; refine ⟨_, rfl, ?_⟩; have n0_ := Aside0.mk (Kd.R_mono (Kd.R_keep (IsS49.apart (show IsS49 w _ g172 t202 from by repeat (first | (with_reducible first | exact HI172.out | apply IsS49.alloc | apply IsS49.drewN | apply IsS49.drew | apply IsS49.set_0 | refine IsS49.far ?_ NB172_174.out _) | exact HI172.out)) (by (with_reducible repeat (first | apply Kd.R_alloc | apply Kd.R_drewN | apply Kd.R_drew)); exact HO_167.out) (by decide)) hk (fun _ h => h.2)) (fun _ h => h.1)); have n1_ := Aside0.mk (KeepBut.blk hk (g' := gb174) (o := .cells #[.int .i64 ((rd_T32 l0 x67_1).f0), .int .i64 ((rd_T32 l0 x67_1).f1), .int .i64 ((rd_T32 l0 x67_1).f2)] 32 (0, 0)) (by (with_reducible repeat (first | refine blk_drewN ?_ _ | refine blk_drew ?_ | refine blk_alloc ?_ _)); exact BK174.out) NB174_172.out (by simp)); have n2_ := Aside0.mk (hb); have n3_ := Aside0.mk (hi); clear HO_167; clear BK174; clear HB; clear HI172; have HO_167 := n0_; have BK174 := n1_; have HB := n2_; have HI172 := n3_; clear n0_ n1_ n2_ n3_; (try clear hb); (try clear hb2); (try clear hk); (try clear hi)))
                                        go_ret
                                        exact ⟨by first | rfl | (simp [errW_none, errW_some] <;> rfl) | (simp [*, errW_none, errW_some] <;> rfl), by repeat (first | (with_reducible first | exact HB.out | apply below_alloc | apply pw_below_drewN | apply below_drew1 | refine below_set ?_ (IsS49.ge HI172.out) | refine below_set ?_ GE174.out) | exact HB.out)⟩
                                    · rw [if_neg c80] at H
                                      exact absurd H (by simp)
                                  · rw [if_neg c79] at H
                                    exact absurd H (by simp)
                                · rw [if_neg c78] at H
                                  have c78b0 : decide (x169_4 < (t195.length : Int)) = false := decide_eq_false c78
                                  clear c78
                                  have H' := Aside0.mk H
                                  clear H
                                  go_wp2
                                  go_roundg k4
                                  case measure => have := HK1.out; have := HJ13.out; have := HK3.out; have := HK4.out; omega
                                  case rel => exact ⟨((wrap64 (x19_3 + t193))), (wrap64 (x157_3 + 1)), (x173000_4), (by first | rfl | (simp; done) | (simp [*]; done)), (by first | rfl | (simp; done) | (simp [*]; done)), H', ⟨by have := HK1.out; have := HJ13.out; have := HK3.out; have := HK4.out; omega⟩, ⟨by (with_reducible repeat (first | refine blk_drewN ?_ _ | refine blk_drew ?_ | refine blk_alloc ?_ _)); exact BK174.out⟩, ⟨by repeat (first | (with_reducible first | exact HI172.out | apply IsS49.alloc | apply IsS49.drewN | apply IsS49.drew | apply IsS49.set_0 | refine IsS49.far ?_ NB172_174.out _) | exact HI172.out)⟩, ⟨by repeat (first | (with_reducible first | exact HB.out | apply below_alloc | apply pw_below_drewN | apply below_drew1 | refine below_set ?_ (IsS49.ge HI172.out) | refine below_set ?_ GE174.out) | exact HB.out)⟩⟩
                          · rw [if_neg c72] at H
                            have c72b0 : decide (x157_3 < 4) = false := decide_eq_false c72
                            clear c72
                            replace H := Option.bind_eq_some_iff.mp H
                            obtain ⟨⟨t191, t192⟩, A970, H⟩ := H
                            replace H : (if x19_3 = t191 then (incunablelaw27_L2pFits.l0 k3 l0 (l0.length : Int) (wrap64 (x67_1 + 1)) t192) else (some false)) = some r := H
                            have A97 := Aside0.mk A970
                            clear A970
                            by_cases c98 : x19_3 = t191
                            · rw [if_pos c98] at H
                              have c98b0 : (x19_3 == t191) = true := beq_iff_eq.mpr c98
                              have c98b1 : (x19_3 != t191) = false := bne_eq_false_iff_eq.mpr c98
                              clear c98
                              have H' := Aside0.mk H
                              clear H
                              go_wp2_with (first | ((with_reducible refine gate_callee (f := 19) rfl ?_); refine goesL_ (some 206) rfl rfl Try.func19 (by kernel_rfl) rfl #[.pointer (some ⟨g172, 0, none⟩)] rfl (by (try simp only [List.map_toArray, List.map_cons, List.map_nil]); first | done | rfl | (simp only [List.length_drop, List.length_take]; rfl)) ?_; (with_reducible refine (l2p_Map_Len.calls g172 x173000_3 t191 t192 w _ ?side1 ?side2 A97.out).mono ?_); (case side1 => repeat (first | (with_reducible first | exact HI172.out | apply IsS49.alloc | apply IsS49.drewN | apply IsS49.drew | apply IsS49.set_0 | refine IsS49.far ?_ NB172_174.out _) | exact HI172.out)); (case side2 => repeat (first | (with_reducible first | exact HB.out | apply below_alloc | apply pw_below_drewN | apply below_drew1 | refine below_set ?_ (IsS49.ge HI172.out) | refine below_set ?_ GE174.out) | exact HB.out)); rintro e w99 ⟨rfl, hi, hb, hk⟩; refine ⟨_, rfl, ?_⟩; have n0_ := Aside0.mk (KeepBut.blk hk (g' := gb174) (o := .cells #[.int .i64 ((rd_T32 l0 x67_1).f0), .int .i64 ((rd_T32 l0 x67_1).f1), .int .i64 ((rd_T32 l0 x67_1).f2)] 32 (0, 0)) (by (with_reducible repeat (first | refine blk_drewN ?_ _ | refine blk_drew ?_ | refine blk_alloc ?_ _)); exact BK174.out) NB174_172.out (by simp)); have n1_ := Aside0.mk (hb); have n2_ := Aside0.mk (hi); clear BK174; clear HB; clear HI172; have BK174 := n0_; have HB := n1_; have HI172 := n2_; clear n0_ n1_ n2_; (try clear hb); (try clear hb2); (try clear hk); (try clear hi)))
                              go_roundg k3
                              case measure => have := HK1.out; have := HJ13.out; have := HK3.out; omega
                              case rel => exact ⟨(wrap64 (x67_1 + 1)), (t192), (by first | rfl | (simp; done) | (simp [*]; done)), H', ⟨by have := HK1.out; have := HJ13.out; have := HK3.out; omega⟩, ⟨by repeat (first | (with_reducible first | exact HI172.out | apply IsS49.alloc | apply IsS49.drewN | apply IsS49.drew | apply IsS49.set_0 | refine IsS49.far ?_ NB172_174.out _) | exact HI172.out)⟩, ⟨by repeat (first | (with_reducible first | exact HB.out | apply below_alloc | apply pw_below_drewN | apply below_drew1 | refine below_set ?_ (IsS49.ge HI172.out) | refine below_set ?_ GE174.out) | exact HB.out)⟩⟩
                            · rw [if_neg c98] at H
                              have c98b0 : (x19_3 == t191) = false := beq_eq_false_iff_ne.mpr c98
                              have c98b1 : (x19_3 != t191) = true := bne_iff_ne.mpr c98
                              obtain rfl := Option.some.inj H
                              go_wp2_with (first | ((with_reducible refine gate_callee (f := 19) rfl ?_); refine goesL_ (some 206) rfl rfl Try.func19 (by kernel_rfl) rfl #[.pointer (some ⟨g172, 0, none⟩)] rfl (by (try simp only [List.map_toArray, List.map_cons, List.map_nil]); first | done | rfl | (simp only [List.length_drop, List.length_take]; rfl)) ?_; (with_reducible refine (l2p_Map_Len.calls g172 x173000_3 t191 t192 w _ ?side1 ?side2 A97.out).mono ?_); (case side1 => repeat (first | (with_reducible first | exact HI172.out | apply IsS49.alloc | apply IsS49.drewN | apply IsS49.drew | apply IsS49.set_0 | refine IsS49.far ?_ NB172_174.out _) | exact HI172.out)); (case side2 => repeat (first | (with_reducible first | exact HB.out | apply below_alloc | apply pw_below_drewN | apply below_drew1 | refine below_set ?_ (IsS49.ge HI172.out) | refine below_set ?_ GE174.out) | exact HB.out)); rintro e w100 ⟨rfl, hi, hb, hk⟩; refine ⟨_, rfl, ?_⟩; have n0_ := Aside0.mk (KeepBut.blk hk (g' := gb174) (o := .cells #[.int .i64 ((rd_T32 l0 x67_1).f0), .int .i64 ((rd_T32 l0 x67_1).f1), .int .i64 ((rd_T32 l0 x67_1).f2)] 32 (0, 0)) (by (with_reducible repeat (first | refine blk_drewN ?_ _ | refine blk_drew ?_ | refine blk_alloc ?_ _)); exact BK174.out) NB174_172.out (by simp)); have n1_ := Aside0.mk (hb); have n2_ := Aside0.mk (hi); clear BK174; clear HB; clear HI172; have BK174 := n0_; have HB := n1_; have HI172 := n2_; clear n0_ n1_ n2_; (try clear hb); (try clear hb2); (try clear hk); (try clear hi)))
                              go_ret
                              exact ⟨by first | rfl | (simp [errW_none, errW_some] <;> rfl) | (simp [*, errW_none, errW_some] <;> rfl), by repeat (first | (with_reducible first | exact HB.out | apply below_alloc | apply pw_below_drewN | apply below_drew1 | refine below_set ?_ (IsS49.ge HI172.out) | refine below_set ?_ GE174.out) | exact HB.out)⟩
                · rw [if_neg c12] at H
                  exact absurd H (by simp)
              · rw [if_neg c11] at H
                exact absurd H (by simp)
            · rw [if_neg c10] at H
              have c10b0 : decide (x67_1 < (l0.length : Int)) = false := decide_eq_false c10
              clear c10
              obtain rfl := Option.some.inj H
              go_wp2
              go_ret
              exact ⟨by first | rfl | (simp [errW_none, errW_some] <;> rfl) | (simp [*, errW_none, errW_some] <;> rfl), by repeat (first | (with_reducible first | exact HB.out | apply below_alloc | apply pw_below_drewN | apply below_drew1 | refine below_set ?_ (IsS49.ge HI172.out)) | exact HB.out)⟩
      · exact absurd rfl c7

  · replace c3 := Bool.eq_false_iff.mpr c3
    subst c3
    have H1 : (some false) = some r := by rw [if_neg (show ¬ (false = true) by decide)] at H; exact H
    clear H
    have H := H1
    clear H1
    obtain rfl := Option.some.inj H
    go_enter Try.func4, Try.ntmps4
    go_wp2_with (first | ((with_reducible refine gate_callee (f := 6) rfl ?_); refine goesL_ (some 27) rfl rfl Try.func6 (by kernel_rfl) rfl #[] rfl (by (try simp only [List.map_toArray, List.map_cons, List.map_nil]); first | done | rfl | (simp only [List.length_drop, List.length_take]; rfl)) ?_; (with_reducible refine (incunablelaw27_awake.calls k  false _ A2.out).mono ?_); rintro e w103 ⟨rfl, hb⟩; refine ⟨_, rfl, ?_⟩; have n0_ := Aside0.mk (below_step (by repeat (first | (with_reducible first | exact HB.out | apply below_alloc | apply pw_below_drewN | apply below_drew1) | exact HB.out)) hb); clear HB; have HB := n0_; clear n0_; (try clear hb); (try clear hb2); (try clear hk); (try clear hi)) | (go_at_call 13; (with_reducible refine (l2p_Row_nil 0 _).mono ?_); rintro e w' ⟨rfl, ⟨nd, rfl⟩⟩) | (go_at_call 9; (with_reducible refine (l2p_Set_nil 0 0 _).mono ?_); rintro e w' ⟨rfl, ⟨nd, rfl⟩⟩) | (go_at_call 11; (with_reducible refine (l2p_Drop_nil 0 _).mono ?_); rintro e w' ⟨rfl, ⟨nd, rfl⟩⟩) | (go_at_call 18; (with_reducible refine (l2p_Valid_nil 0 _).mono ?_); rintro e w' ⟨rfl, ⟨nd, rfl⟩⟩) | (go_at_call 19; (with_reducible refine (l2p_Len_nil _).mono ?_); rintro e w' ⟨rfl, ⟨nd, rfl⟩⟩) | (go_at_call 16; (with_reducible refine (l2p_Rows_nil 0 _).mono ?_); rintro e w' ⟨rfl, ⟨nd, rfl⟩⟩))
    go_ret
    exact ⟨by first | rfl | (simp [errW_none, errW_some] <;> rfl) | (simp [*, errW_none, errW_some] <;> rfl), by repeat (first | (with_reducible first | exact HB.out | apply below_alloc | apply pw_below_drewN | apply below_drew1) | exact HB.out)⟩


end Go.Proofs.Ytjcmpfiklmpoaaa.M
