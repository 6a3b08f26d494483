/-
  ParityRestores: the law's own walk (written by par_wp.py).
-/
import Derived.Test.YtibkckcpclkclaaWo
import Derived.Test.YtibkckcpclkclaaMx4
import Derived.Test.YtibkckcpclkclaaMx6
import Derived.Deep.RegionHeld3
namespace Go.Proofs.Ytibkckcpclkclaa.M
open Go.RowKit Go.Proofs.YtibkckcpclkclaaW.PrintWords Go.Proofs.YtibkckcpclkclaaW.PrintLast Go.Proofs.YtibkckcpclkclaaW.PrintMore
set_option linter.unusedVariables false
set_option linter.unusedSimpArgs false
set_option maxHeartbeats 8000000 in
set_option maxRecDepth 100000 in
theorem law_few {W : World} {A0 : Option Addr} {c0 k : Nat} (l : List (List Int)) (x0 x1 x2 t0 t1 : Int) (hV : Kd.V Pt 30 W W.heap.size (fun _ => True) (.slice A0 l.length c0) l) (hAw : incunablelaw45_awake.f k = some true) (hFew : incunablelaw45_few.f k l = some false) :
    Calls Try.prog 5 #[.slice A0 l.length c0, .agg #[.int .u8 x0, .int .u8 x1, .int .u8 x2], .agg #[.int .u8 t0, .int .u8 t1]] W fun e w' => e = .returned (.bool true) ∧ Below W.heap.size W w' := by
  have HV := Aside0.mk hV
  have hAw := Aside0.mk hAw
  have HB0 := Aside0.mk (Below.refl W.heap.size W)
  clear hV
  have hFew := Aside0.mk hFew
  go_enter Try.func5, Try.ntmps5
  go_wp2_with (first | ((with_reducible refine gate_dst (N := 3) rfl ?_); refine box_event ?hg (N := 3) ?hd (cs := #[.slice A0 l.length c0]) (t := 28) ?hr ?_; (case hd => rfl); (case hg => rfl); (case hr => first | (go_simp; done) | (go_simp; rfl)); intro g3 hg w3 hbox hb; have HB3 := Aside0.mk (below_step HB0.out hb); have BK3 := Aside0.mk hbox; skip; clear hg hb hbox) | ((with_reducible refine gate_dst (N := 4) rfl ?_); refine box_event ?hg (N := 4) ?hd (cs := #[.int .u8 x0, .int .u8 x1, .int .u8 x2]) (t := 37) ?hr ?_; (case hd => rfl); (case hg => rfl); (case hr => first | (go_simp; done) | (go_simp; rfl)); intro g4 hg w4 hbox hb; have HB4 := Aside0.mk (below_step HB3.out hb); have BK4 := Aside0.mk hbox; replace BK3 := Aside0.mk (blk_below BK3.out hb); clear hg hb hbox) | ((with_reducible refine gate_dst (N := 5) rfl ?_); refine box_event ?hg (N := 5) ?hd (cs := #[.int .u8 t0, .int .u8 t1]) (t := 38) ?hr ?_; (case hd => rfl); (case hg => rfl); (case hr => first | (go_simp; done) | (go_simp; rfl)); intro g5 hg w5 hbox hb; have HB5 := Aside0.mk (below_step HB4.out hb); have BK5 := Aside0.mk hbox; replace BK3 := Aside0.mk (blk_below BK3.out hb); replace BK4 := Aside0.mk (blk_below BK4.out hb); have k3_ : w5.cell? ⟨g3, 0, none⟩ = some (.slice A0 l.length c0) := (blk_cell BK3.out 0).trans rfl; clear hg hb hbox) | ((with_reducible refine gate_callee (f := 7) rfl ?_); refine goesL_ (some 23) rfl rfl Try.func7 (by kernel_rfl) rfl #[] rfl (by (try simp only [List.map_toArray, List.map_cons, List.map_nil]); first | done | rfl | (simp only [List.length_drop, List.length_take]; rfl)) ?_; go_loud (refine (incunablelaw45_awake.calls k true _ hAw.out).mono ?_); rintro e w' ⟨rfl, ⟨nd, rfl⟩⟩; refine ⟨_, rfl, ?_⟩) | ((with_reducible refine gate_callee (f := 12) rfl ?_); refine goesL_ (some 26) rfl rfl Try.func12 (by kernel_rfl) rfl #[.slice A0 l.length c0] rfl (by (try simp only [List.map_toArray, List.map_cons, List.map_nil]); first | done | rfl | (simp only [List.length_drop, List.length_take]; rfl)) ?_; go_loud (refine (incunablelaw45_few.calls k A0 c0 l false _ ?side1 ?side2 hFew.out).mono ?_); (case side1 => exact Kd.C_drewN (Kd.F_now (Kd.V_at (Kd.V_below HV.out HB5.out)).2.2) _); (case side2 => exact (Kd.V_at HV.out).2.1); rintro e w' ⟨rfl, ⟨nd, rfl⟩⟩; refine ⟨_, rfl, ?_⟩))
  go_ret
  exact ⟨rfl, by repeat (first | exact HB5.out | refine pw_below_drewN ?_ _)⟩
set_option maxHeartbeats 8000000 in
set_option maxRecDepth 100000 in
theorem law_may {W : World} {A0 : Option Addr} {c0 k : Nat} (l : List (List Int)) (x0 x1 x2 t0 t1 : Int) (hV : Kd.V Pt 30 W W.heap.size (fun _ => True) (.slice A0 l.length c0) l) (hAw : incunablelaw45_awake.f k = some true) (hFew : incunablelaw45_few.f k l = some true) (hMay : incunableref45_May.f k l = some false) :
    Calls Try.prog 5 #[.slice A0 l.length c0, .agg #[.int .u8 x0, .int .u8 x1, .int .u8 x2], .agg #[.int .u8 t0, .int .u8 t1]] W fun e w' => e = .returned (.bool true) ∧ Below W.heap.size W w' := by
  have HV := Aside0.mk hV
  have hAw := Aside0.mk hAw
  have HB0 := Aside0.mk (Below.refl W.heap.size W)
  clear hV
  have hFew := Aside0.mk hFew
  have hMay := Aside0.mk hMay
  go_enter Try.func5, Try.ntmps5
  go_wp2_with (first | ((with_reducible refine gate_dst (N := 3) rfl ?_); refine box_event ?hg (N := 3) ?hd (cs := #[.slice A0 l.length c0]) (t := 28) ?hr ?_; (case hd => rfl); (case hg => rfl); (case hr => first | (go_simp; done) | (go_simp; rfl)); intro g3 hg w3 hbox hb; have HB3 := Aside0.mk (below_step HB0.out hb); have BK3 := Aside0.mk hbox; skip; clear hg hb hbox) | ((with_reducible refine gate_dst (N := 4) rfl ?_); refine box_event ?hg (N := 4) ?hd (cs := #[.int .u8 x0, .int .u8 x1, .int .u8 x2]) (t := 37) ?hr ?_; (case hd => rfl); (case hg => rfl); (case hr => first | (go_simp; done) | (go_simp; rfl)); intro g4 hg w4 hbox hb; have HB4 := Aside0.mk (below_step HB3.out hb); have BK4 := Aside0.mk hbox; replace BK3 := Aside0.mk (blk_below BK3.out hb); clear hg hb hbox) | ((with_reducible refine gate_dst (N := 5) rfl ?_); refine box_event ?hg (N := 5) ?hd (cs := #[.int .u8 t0, .int .u8 t1]) (t := 38) ?hr ?_; (case hd => rfl); (case hg => rfl); (case hr => first | (go_simp; done) | (go_simp; rfl)); intro g5 hg w5 hbox hb; have HB5 := Aside0.mk (below_step HB4.out hb); have BK5 := Aside0.mk hbox; replace BK3 := Aside0.mk (blk_below BK3.out hb); replace BK4 := Aside0.mk (blk_below BK4.out hb); have k3_ : w5.cell? ⟨g3, 0, none⟩ = some (.slice A0 l.length c0) := (blk_cell BK3.out 0).trans rfl; clear hg hb hbox) | ((with_reducible refine gate_callee (f := 7) rfl ?_); refine goesL_ (some 23) rfl rfl Try.func7 (by kernel_rfl) rfl #[] rfl (by (try simp only [List.map_toArray, List.map_cons, List.map_nil]); first | done | rfl | (simp only [List.length_drop, List.length_take]; rfl)) ?_; go_loud (refine (incunablelaw45_awake.calls k true _ hAw.out).mono ?_); rintro e w' ⟨rfl, ⟨nd, rfl⟩⟩; refine ⟨_, rfl, ?_⟩) | ((with_reducible refine gate_callee (f := 12) rfl ?_); refine goesL_ (some 26) rfl rfl Try.func12 (by kernel_rfl) rfl #[.slice A0 l.length c0] rfl (by (try simp only [List.map_toArray, List.map_cons, List.map_nil]); first | done | rfl | (simp only [List.length_drop, List.length_take]; rfl)) ?_; go_loud (refine (incunablelaw45_few.calls k A0 c0 l true _ ?side1 ?side2 hFew.out).mono ?_); (case side1 => exact Kd.C_drewN (Kd.F_now (Kd.V_at (Kd.V_below HV.out HB5.out)).2.2) _); (case side2 => exact (Kd.V_at HV.out).2.1); rintro e w' ⟨rfl, ⟨nd, rfl⟩⟩; refine ⟨_, rfl, ?_⟩))
  refine (incunableref45_May.calls k A0 c0 l false _ ?side1 ?side2 hMay.out).mono ?_
  case side1 => exact Kd.C_drewN (Kd.F_now (Kd.V_at (Kd.V_below HV.out HB5.out)).2.2) _
  case side2 => exact (Kd.V_at HV.out).2.1
  rintro e w' ⟨rfl, ⟨nd, rfl⟩⟩
  dsimp only
  go_wp2
  go_ret
  exact ⟨rfl, by repeat (first | exact HB5.out | refine pw_below_drewN ?_ _)⟩
theorem size30 : (Try.prog.info? 30).map (fun i => i.size) = some 1 := by kernel_rfl
def gone (all : List (List Int)) (m k : Nat) (ps : List Int) : Option (List (List Int) × Int) := parity_Restore.f k ((ers all ps ps.length).take m) ((ers all ps ps.length).getD m []) ((ers all ps ps.length).getD (m + 1) [])
theorem rest_calls (k : Nat) {w : World} {L0 r1 : List (List Int)} {L1 L2 : List Int} {r2 : Int} {m c : Nat} {A : Option Addr} {v1 v2 : Value} {b1 b2 b3 : Nat} (hm : L0.length = m) (h0 : Kd.V Pt 30 w b1 (fun _ => True) (.slice A m c) L0)
    (h1 : Kd.V (Kd.int .u8) 5 w b2 (fun _ => True) v1 L1) (h2 : Kd.V (Kd.int .u8) 5 w b3 (fun _ => True) v2 L2) (h : parity_Restore.f k L0 L1 L2 = some (r1, r2)) :
    Calls Try.prog 18 #[.slice A m c, v1, v2] w fun e w' => ∃ v0_ : Value, e = .returned (.tuple #[v0_, .int .i64 r2]) ∧ Kd.V Pt 30 w' w.heap.size (fun _ => True) v0_ r1 ∧ Below w.heap.size w w' := by
  subst hm
  obtain ⟨A1, c1, rfl⟩ := Kd.V_slice h1
  obtain ⟨A2, c2, rfl⟩ := Kd.V_slice h2
  refine (parity_Restore.calls k (fun _ => True) A c L0 (fun _ => True) A1 c1 L1 (fun _ => True) A2 c2 L2 r1 r2 w ⟨_, _, rfl, (Kd.V_at h0).2.1, (Kd.V_at h0).2.2⟩ ⟨_, _, rfl, (Kd.V_at h1).2.1, (Kd.V_at h1).2.2⟩ ⟨_, _, rfl, (Kd.V_at h2).2.1, (Kd.V_at h2).2.2⟩ h).mono ?_
  rintro e w' ⟨v0, rfl, hN, hB⟩
  exact ⟨v0, rfl, Kd.V_mono (Kd.N_V hN) (fun _ _ => trivial), hB⟩
def law5.T27 : Bool × List (List Nat × List Nat) := (true, [([], []), ([], []), ([1], [1]), ([2], [2]), ([], []), ([4], [4]), ([3, 5], [3, 5]), ([0, 6], [0, 6]), ([7], [7]), ([], []), ([9], [9]), ([8, 10], [8, 10]), ([0, 6, 0, 1, 2, 3, 4, 5, 6, 7, 8, 9, 10, 11], [0, 6]), ([12, 11, 0, 1, 2, 3, 4, 5, 6, 7, 8, 9, 10, 11], [11, 12])])
def law5.B27 : List Nat := [0, 0, 2, 6, 0, 16, 62, 127, 255, 0, 512, 2047, 4095, 8191]
theorem law5.tab27 : rtab .any (opsOf Try.f5 27) = law5.T27 := by kernel_rfl
theorem law5.bits27 : waitsOk law5.T27.2 law5.B27 = true := by kernel_rfl
set_option maxHeartbeats 8000000 in
set_option maxRecDepth 100000 in
theorem law_full {W : World} {A0 : Option Addr} {c0 k : Nat} (l : List (List Int)) (x0 x1 x2 t0 t1 : Int) (hV : Kd.V Pt 30 W W.heap.size (fun _ => True) (.slice A0 l.length c0) l) (hAw : incunablelaw45_awake.f k = some true) (hm : l.length ≤ 64) (hFew : incunablelaw45_few.f k l = some true) (hMay : incunableref45_May.f k l = some true) (p q : List Int) (hMake : parity_Make.f k l = some (p, q, 0)) (i0 i1 i2 : Nat) (he0 : (wrap64 x0).tmod ((l.length : Int) + 2) = (i0 : Int)) (he1 : (wrap64 x1).tmod ((l.length : Int) + 2) = (i1 : Int)) (he2 : (wrap64 x2).tmod ((l.length : Int) + 2) = (i2 : Int)) (hi0 : i0 < l.length + 2) (hi1 : i1 < l.length + 2) (hi2 : i2 < l.length + 2) (hR1 : gone (l ++ [p, q]) l.length k [(i0 : Int), (i1 : Int)] = some (l, 0)) (hR2 : i0 ≠ i1 → i1 ≠ i2 → i0 ≠ i2 → gone (l ++ [p, q]) l.length k [(i0 : Int), (i1 : Int), (i2 : Int)] = some ([], 30)) (LL : List Int) (hLd : (l ++ [p, q]).getD i0 [] = LL) (hLL : LL.length ≤ 16384 ∧ 0 < LL.length) (r : Nat) (he3 : (wrap64 t0).tmod (LL.length : Int) = (r : Int)) (hr : r < LL.length) (hS : ∀ x ∈ l, incunableref01_Same.f k x x = some true) (hgone : t1 ≠ 0 → gone ((l ++ [p, q]).set i0 (LL.set r (Go.bits .xor .u8 (rd LL (r : Int)) t1))) l.length k [] = some ([], 12)) :
    Calls Try.prog 5 #[.slice A0 l.length c0, .agg #[.int .u8 x0, .int .u8 x1, .int .u8 x2], .agg #[.int .u8 t0, .int .u8 t1]] W fun e w' => e = .returned (.bool true) ∧ Below W.heap.size W w' := by
  have HV := Aside0.mk hV
  have hAw := Aside0.mk hAw
  have HB0 := Aside0.mk (Below.refl W.heap.size W)
  clear hV
  have hR3 := Aside0.mk hgone
  clear hgone
  have hFew := Aside0.mk hFew
  have hMay := Aside0.mk hMay
  have hMake := Aside0.mk hMake
  have HM := Aside0.mk hm
  have HLD := Aside0.mk hLd
  have HLL := Aside0.mk hLL
  clear hm hLd hLL
  go_enter Try.func5, Try.ntmps5
  go_wp2_with (first | ((with_reducible refine gate_dst (N := 3) rfl ?_); refine box_event ?hg (N := 3) ?hd (cs := #[.slice A0 l.length c0]) (t := 28) ?hr ?_; (case hd => rfl); (case hg => rfl); (case hr => first | (go_simp; done) | (go_simp; rfl)); intro g3 hg w3 hbox hb; have HB3 := Aside0.mk (below_step HB0.out hb); have BK3 := Aside0.mk hbox; skip; clear hg hb hbox) | ((with_reducible refine gate_dst (N := 4) rfl ?_); refine box_event ?hg (N := 4) ?hd (cs := #[.int .u8 x0, .int .u8 x1, .int .u8 x2]) (t := 37) ?hr ?_; (case hd => rfl); (case hg => rfl); (case hr => first | (go_simp; done) | (go_simp; rfl)); intro g4 hg w4 hbox hb; have HB4 := Aside0.mk (below_step HB3.out hb); have BK4 := Aside0.mk hbox; replace BK3 := Aside0.mk (blk_below BK3.out hb); clear hg hb hbox) | ((with_reducible refine gate_dst (N := 5) rfl ?_); refine box_event ?hg (N := 5) ?hd (cs := #[.int .u8 t0, .int .u8 t1]) (t := 38) ?hr ?_; (case hd => rfl); (case hg => rfl); (case hr => first | (go_simp; done) | (go_simp; rfl)); intro g5 hg w5 hbox hb; have HB5 := Aside0.mk (below_step HB4.out hb); have BK5 := Aside0.mk hbox; replace BK3 := Aside0.mk (blk_below BK3.out hb); replace BK4 := Aside0.mk (blk_below BK4.out hb); have k3_ : w5.cell? ⟨g3, 0, none⟩ = some (.slice A0 l.length c0) := (blk_cell BK3.out 0).trans rfl; clear hg hb hbox) | ((with_reducible refine gate_callee (f := 7) rfl ?_); refine goesL_ (some 23) rfl rfl Try.func7 (by kernel_rfl) rfl #[] rfl (by (try simp only [List.map_toArray, List.map_cons, List.map_nil]); first | done | rfl | (simp only [List.length_drop, List.length_take]; rfl)) ?_; go_loud (refine (incunablelaw45_awake.calls k true _ hAw.out).mono ?_); rintro e w' ⟨rfl, ⟨nd, rfl⟩⟩; refine ⟨_, rfl, ?_⟩) | ((with_reducible refine gate_callee (f := 12) rfl ?_); refine goesL_ (some 26) rfl rfl Try.func12 (by kernel_rfl) rfl #[.slice A0 l.length c0] rfl (by (try simp only [List.map_toArray, List.map_cons, List.map_nil]); first | done | rfl | (simp only [List.length_drop, List.length_take]; rfl)) ?_; go_loud (refine (incunablelaw45_few.calls k A0 c0 l true _ ?side1 ?side2 hFew.out).mono ?_); (case side1 => exact Kd.C_drewN (Kd.F_now (Kd.V_at (Kd.V_below HV.out HB5.out)).2.2) _); (case side2 => exact (Kd.V_at HV.out).2.1); rintro e w' ⟨rfl, ⟨nd, rfl⟩⟩; refine ⟨_, rfl, ?_⟩))
  refine (incunableref45_May.calls k A0 c0 l true _ ?side1 ?side2 hMay.out).mono ?_
  case side1 => exact Kd.C_drewN (Kd.F_now (Kd.V_at (Kd.V_below HV.out HB5.out)).2.2) _
  case side2 => exact (Kd.V_at HV.out).2.1
  rintro e w' ⟨rfl, ⟨nd, rfl⟩⟩
  dsimp only
  go_wp2_with (first | ((with_reducible refine gate_callee (f := 13) rfl ?_); refine goesL_ (some 35) rfl rfl Try.func13 (by kernel_rfl) rfl #[.slice A0 l.length c0] rfl (by (try simp only [List.map_toArray, List.map_cons, List.map_nil]); first | done | rfl | (simp only [List.length_drop, List.length_take]; rfl)) ?_; go_loud (refine (parity_Make.calls k A0 c0 l p q 0 _ ?side1 ?side2 hMake.out).mono ?_); (case side1 => exact Kd.C_drewN (Kd.F_now (Kd.V_at (Kd.V_below HV.out HB5.out)).2.2) _); (case side2 => exact (Kd.V_at HV.out).2.1); rintro e w6 ⟨v1_, v2_, rfl, hr1, hr2, hb6⟩; refine ⟨_, rfl, ?_⟩; obtain ⟨Ap, cp, rfl⟩ := Kd.R_slice hr1; obtain ⟨Aq, cq, rfl⟩ := Kd.R_slice hr2; have HP := Aside0.mk (Kd.R_V (base' := 0) hr1); have HQ := Aside0.mk (Kd.R_V (base' := 0) hr2); have HB6 := Aside0.mk (below_step (pw_below_drewN HB5.out _) hb6); have BK3' := Aside0.mk (blk_below (blk_drewN BK3.out _) hb6); have BK4' := Aside0.mk (blk_below (blk_drewN BK4.out _) hb6); have BK5' := Aside0.mk (blk_below (blk_drewN BK5.out _) hb6); have k3_ : w6.cell? ⟨g3, 0, none⟩ = some (.slice A0 l.length c0) := (blk_cell BK3'.out 0).trans rfl; clear hr1 hr2 hb6 BK3 BK4 BK5) | ((with_reducible refine gate_dst (N := 41) rfl ?_); go_loud (refine Kd.N_lit Pt w6.heap.size 30 ?hg (N' := 41) ?hd (xs := ([] : List (List Int))) (inner := []) (ok := fun _ => True) (okp := fun _ => True) ?hr ?hp (fun _ hk => hk) trivial (Below.refl _ _) (Nat.le_refl _) (by simp) ?_); (case hd => rfl); (case hg => rfl); (case hr => first | (go_simp; done) | (go_simp; rfl)); (case hp => exact (Reps.none _ _)); intro v41 w41 ho hb hg_ hnew_; have HN41 := Aside0.mk ho; have HB41 := Aside0.mk hb; have HNE41 := Aside0.mk (Kd.N_base ho); have k3_ : w41.cell? ⟨g3, 0, none⟩ = some (.slice A0 l.length c0) := (blk_cell (blk_below BK3'.out hb) 0).trans rfl; clear ho hb hg_ hnew_) | ((with_reducible refine gate_builtin (b := .append) (xs := #[.tmp 41, .tmp 42]) rfl ?_); at_builtin; go_loud (refine Kd.N_append_rows Pt (w0 := w6) w6.heap.size rfl (.tmp 41) (.tmp 42) 28 30 (.slice none 0 0) 24 rfl Try.underlying28 info30 rfl (by decide) (by omega) v41 [] l A0 l.length c0 (fun _ => True) (fun k => k < w6.heap.size) rfl rfl HN41.out (Kd.F_mono (Kd.F_old (Kd.V_at (Kd.V_below HV.out HB6.out)).2.2 HB41.out) (fun k hk => hk.2)) (fun k hk => ⟨trivial, fun e => by have := HNE41.out k e.symm; omega⟩) (fun _ _ => trivial) HB41.out HB41.out.size (by have := HM.out; simp only [List.length_nil]; omega) ?_); intro v43 w43 ho hb hg hat; have HN43 := Aside0.mk (show Kd.N Pt 30 w43 w6.heap.size (fun _ => True) v43 l from by simpa using ho); have HB43 := Aside0.mk hb; have HNE43 := Aside0.mk (Kd.N_base ho); clear ho hb hg hat HN41 HB41 HNE41) | ((with_reducible refine gate_dst (N := 46) rfl ?_); go_loud (refine Kd.N_lit Pt w6.heap.size 30 ?hg (N' := 46) ?hd (xs := ([p, q] : List (List Int))) (inner := [.slice Ap p.length cp, .slice Aq q.length cq]) (ok := fun k => some k ≠ v43.ownBlock) (okp := fun k => k < w6.heap.size) ?hr ?hp (fun k hk e => by have := HNE43.out k e.symm; omega) (Kd.fresh' (Kd.N_lt HN43.out) _ (Nat.le_refl _)) HB43.out HB43.out.size (by simp) ?_); (case hd => rfl); (case hg => rfl); (case hr => first | (go_simp; done) | (go_simp; rfl)); (case hp => exact (Reps.one (show Kd.FK Pt _ _ p [.slice Ap p.length cp] from Kd.FK_slice_mk (Kd.V_at HP.out).2.1 (Kd.F_mono (Kd.F_old (Kd.V_at HP.out).2.2 HB43.out) (fun k hk => hk.2))) (Reps.one (show Kd.FK Pt _ _ q [.slice Aq q.length cq] from Kd.FK_slice_mk (Kd.V_at HQ.out).2.1 (Kd.F_mono (Kd.F_old (Kd.V_at HQ.out).2.2 HB43.out) (fun k hk => hk.2))) (Reps.none _ _)))); intro v46 w46 ho hb hg_ hnew_; obtain ⟨g46, cap46, rfl, hg46, _, _⟩ := Kd.N_form ho (by simp); have HN46 := Aside0.mk ho; have HB46 := Aside0.mk hb; replace HN43 := Aside0.mk (Kd.N_grown HN43.out hg_ (fun _ _ => by simp)); clear ho hb hg_ hnew_ hg46 HB43) | ((with_reducible refine gate_builtin (b := .append) (xs := #[.tmp 43, .tmp 46]) rfl ?_); at_builtin; go_loud (refine Kd.N_append_rows Pt (w0 := w6) w6.heap.size rfl (.tmp 43) (.tmp 46) 28 30 (.slice none 0 0) 24 rfl Try.underlying28 info30 rfl (by decide) (by omega) v43 l [p, q] (some ⟨g46, 0, none⟩) 2 cap46 (fun _ => True) (fun k => some k ≠ v43.ownBlock) rfl rfl HN43.out (Kd.N_F HN46.out) (fun k hk => ⟨trivial, hk⟩) (fun _ _ => trivial) HB46.out HB46.out.size (by have := HM.out; omega) ?_); intro v47 w47 ho hb hg hat; obtain ⟨g, cap, hv47, _, _, _⟩ := Kd.N_form ho (by simp); rw [show (l ++ [p, q]).length = l.length + 2 by simp] at hv47; subst hv47; have HN47 := Aside0.mk ho; have HB47 := Aside0.mk hb; clear ho hb hg hat HN43 HN46 HNE43 HB46) | ((with_reducible refine gate_dst (N := 10) rfl ?_); go_loud (refine box_event ?hg (N := 10) ?hd (cs := #[.slice none 0 0]) (t := 28) ?hr ?_); (case hd => rfl); (case hg => rfl); (case hr => first | (go_simp; done) | (go_simp; rfl)); intro g10 hg w10 hbox hb; have hcx0 : w10.cell? ⟨g10, 0, none⟩ = some (.slice none 0 0) := (blk_cell hbox 0).trans rfl; have hfx0 := blk_frozen hbox 0; have BK10 := Aside0.mk hbox; have HG10 := Aside0.mk (show w6.heap.size ≤ g10 ∧ g10 = w47.heap.size from ⟨by rw [hg]; exact HB47.out.size, hg⟩); have HN10 := Aside0.mk (Kd.N_below (Kd.N_bound HN47.out) hb); have HB10 := Aside0.mk (below_step HB47.out hb); clear hg hbox hb HN47 HB47) | ((with_reducible refine gate_store (t := 28) (p := 10) rfl ?_); go_loud (refine store_event (t := 28) (p := 10) (v := .tmp 47) (w1 := w10.setCell ⟨g10, 0, none⟩ (.slice (some ⟨g, 0, none⟩) (l.length + 2) cap)) ?hg ?ho ?hn ?hr ?_); (case ho => rfl); (case hg => rfl); (case hn => rfl); go_loud ((case hr => first | (go_simp; done) | (go_simp; rfl)); intro wa hw; have HBA := Aside0.mk (show Below w6.heap.size w6 wa from by rw [hw]; exact below_set HB10.out HG10.out.1); have BKA := Aside0.mk (show wa.heap[g10]? = some (.cells #[.slice (some ⟨g, 0, none⟩) (l.length + 2) cap] 28 (0, 0)) from by rw [hw]; exact blk_set BK10.out 0 _); have HNA := Aside0.mk (show Kd.N Pt 30 wa w6.heap.size (fun k => k ≠ g10) (.slice (some ⟨g, 0, none⟩) (l.length + 2) cap) (l ++ [p, q]) from by rw [hw]; exact Kd.N_far (Kd.N_mono HN10.out (fun k hk (e : k = g10) => by have h1 := HG10.out.2; have h2 : k < w47.heap.size := hk.2; omega)) (fun _ hk => hk) _); have k3a_ : wa.cell? ⟨g3, 0, none⟩ = some (.slice A0 l.length c0) := (blk_cell (blk_below BK3'.out HBA.out) 0).trans rfl; have k40_ : wa.cell? ⟨g4, 0, none⟩ = some (.int .u8 x0) := (blk_cell (blk_below BK4'.out HBA.out) 0).trans rfl; have k41_ : wa.cell? ⟨g4, 1, none⟩ = some (.int .u8 x1) := (blk_cell (blk_below BK4'.out HBA.out) 1).trans rfl; have k42_ : wa.cell? ⟨g4, 2, none⟩ = some (.int .u8 x2) := (blk_cell (blk_below BK4'.out HBA.out) 2).trans rfl; have k10_ : wa.cell? ⟨g10, 0, none⟩ = some (.slice (some ⟨g, 0, none⟩) (l.length + 2) cap) := (blk_cell BKA.out 0).trans rfl; clear hw HB10 BK10 HN10 hcx0 hfx0 k3_)))
  have z1 : (((l.length + 2 : Nat) : Int) == 0) = false := beq_eq_false_iff_ne.mpr (by omega)
  have z2 : ((l.length : Int) + 2 == 0) = false := beq_eq_false_iff_ne.mpr (by omega)
  go_quiet (fail)
  go_wp2_with (first | ((with_reducible refine gate_dst (N := 71) rfl ?_); go_loud (refine Kd.R_lit (Kd.int .i64) _ 3 ?hg (N := 71) ?hd (xs := ([(i0 : Int), (i1 : Int)] : List Int)) (inner := [.int .i64 (i0 : Int), .int .i64 (i1 : Int)]) (ok := fun _ => True) (okp := fun _ => True) ?hr ?hp (fun _ hk => hk) trivial (Below.refl _ _) (Nat.le_refl _) (by simp) ?_; (case hd => rfl); (case hg => rfl); (case hr => first | (go_simp; done) | (go_simp; rfl)); (case hp => exact (Reps.one (show (Kd.int .i64).M _ _ _ (i0 : Int) [.int .i64 (i0 : Int)] from rfl) (Reps.one (show (Kd.int .i64).M _ _ _ (i1 : Int) [.int .i64 (i1 : Int)] from rfl) (Reps.none _ _))))); intro v71 w71 ho hb hg_ hnew_; obtain ⟨A71, c71, rfl⟩ := Kd.R_slice ho; have HR71 := Aside0.mk (Kd.R_reads' ho); have HB71 := Aside0.mk hb; clear ho hb hg_ hnew_))
  have HLn : (l ++ [p, q]).length = l.length + 2 := by simp
  have HBc := Aside0.mk (show Below wa.heap.size wa w71 from below_step (pw_below_drewN (Below.refl _ _) nq) HB71.out)
  refine (without_calls (b1 := g10) (b2 := g3) (Pk := fun _ => True) (l ++ [p, q]) l.length (some ⟨g, 0, none⟩) A0 A71 cap c0 c71 [(i0 : Int), (i1 : Int)] ?hV ?hb1 ?hb2 HLn (by have := HM.out; omega) ?hp (by simp) ?hpr).mono ?_
  case hV => rw [HLn]; exact Kd.V_mono (Kd.V_below (Kd.N_V HNA.out) HBc.out) (fun _ _ => trivial)
  case hb1 => rw [HLn]; exact blk_below BKA.out HBc.out
  case hb2 => exact blk_below (blk_below BK3'.out HBA.out) HBc.out
  case hp => exact HR71.out.2.2
  case hpr =>
    intro i h0 h1
    simp only [List.length_cons, List.length_nil] at h1
    have h2 : i = 0 ∨ i = 1 := by omega
    rcases h2 with rfl | rfl
    · exact ⟨show (0 : Int) ≤ (i0 : Int) by omega, show (i0 : Int) < _ by omega⟩
    · exact ⟨show (0 : Int) ≤ (i1 : Int) by omega, show (i1 : Int) < _ by omega⟩
  rintro e wc ⟨gc, cc, u1, u2, rfl, hcc, hN, hV1, hV2, hBc⟩
  dsimp only
  have HN2 := Aside0.mk (show Kd.V Pt 30 wc wc.heap.size (fun _ => True) (.slice (some ⟨gc, 0, none⟩) l.length cc) ((ers (l ++ [p, q]) [(i0 : Int), (i1 : Int)] [(i0 : Int), (i1 : Int)].length).take l.length) from Kd.N_V (Kd.N_take hN (by rw [ers_len, HLn]; omega)))
  have HU1 := Aside0.mk hV1
  have HU2 := Aside0.mk hV2
  have HBd := Aside0.mk (below_step HBc.out hBc)
  clear hcc hN hV1 hV2 hBc HR71 HB71 HBc
  have hR1 := Aside0.mk hR1
  have hb1 : ((l.length : Int) != (l.length : Int)) = false := bne_eq_false_iff_eq.mpr rfl
  go_upto_block 0 with (first | ((with_reducible refine gate_callee (f := 18) rfl ?_); refine goesL_ (some 76) rfl rfl Try.func18 (by kernel_rfl) rfl #[.slice (some ⟨gc, 0, none⟩) l.length cc, u1, u2] rfl (by (try simp only [List.map_toArray, List.map_cons, List.map_nil]); first | done | rfl) ?_; go_loud (refine (rest_calls k (by rw [List.length_take, ers_len, HLn]; omega) HN2.out HU1.out HU2.out hR1.out).mono ?_); rintro e wd ⟨vd, rfl, hvd, hbd⟩; refine ⟨_, rfl, ?_⟩; obtain ⟨Ad, cd, rfl⟩ := Kd.V_slice hvd; have HVd := Aside0.mk hvd; have HBe := Aside0.mk (below_step HBd.out hbd); have k3d_ : wd.cell? ⟨g3, 0, none⟩ = some (.slice A0 l.length c0) := (blk_cell (blk_below (blk_below BK3'.out HBA.out) HBe.out) 0).trans rfl; have k50_ : wd.cell? ⟨g5, 0, none⟩ = some (.int .u8 t0) := (blk_cell (blk_below (blk_below BK5'.out HBA.out) HBe.out) 0).trans rfl; have k51_ : wd.cell? ⟨g5, 1, none⟩ = some (.int .u8 t1) := (blk_cell (blk_below (blk_below BK5'.out HBA.out) HBe.out) 1).trans rfl; have k10d_ : wd.cell? ⟨g10, 0, none⟩ = some (.slice (some ⟨g, 0, none⟩) (l.length + 2) cap) := (blk_cell (blk_below BKA.out HBe.out) 0).trans rfl; clear hvd hbd HN2 HU1 HU2 HBd))
  have hS := Aside0.mk hS
  go_cut [17] (fun v17 wq => Aside0 (Below wa.heap.size wa wq))
  case first =>
    go_wp2
    go_loopg [90] (l.length + 1) (fun kq v90 w' => ∃ (n d : Nat), v90 = .int .i64 (n : Int) ∧ Aside0 (n + d = l.length) ∧ Aside0 (kq = d + 1) ∧ Aside0 (∃ nd, w' = wd.drewN nd))
    case atStart => exact ⟨0, l.length, rfl, ⟨Nat.zero_add _⟩, ⟨rfl⟩, ⟨0, rfl⟩⟩
    case round =>
      obtain ⟨n, d, rfl, Hn, HK, HW⟩ := hrel
      obtain ⟨nd, rfl⟩ := HW.out
      clear HW
      cases d with
      | zero =>
        have hlt : decide ((n : Int) < (l.length : Int)) = false := decide_eq_false (by have := Hn.out; omega)
        have q1 := eq_false (show ¬ n < l.length by have := Hn.out; omega)
        go_wp2
        go_meet
        case rel => exact ⟨pw_below_drewN HBe.out nd⟩
      | succ d =>
        have hlt : decide ((n : Int) < (l.length : Int)) = true := decide_eq_true (by have := Hn.out; omega)
        have q1 := eq_true (show n < l.length by have := Hn.out; omega)
        obtain ⟨ad, A1, c1, hA, hc1, hl1, hr1⟩ := at_L1 (Kd.F_now (Kd.V_at HVd.out).2.2) (n : Int) (by omega) (by have := Hn.out; omega)
        subst hA
        obtain ⟨ad2, A2, c2, hA, hc2, hl2, hr2⟩ := at_L1 (Kd.F_now (Kd.V_at (Kd.V_below HV.out (below_step (below_step HB6.out HBA.out) HBe.out))).2.2) (n : Int) (by omega) (by have := Hn.out; omega)
        subst hA
        rw [Int.toNat_natCast] at hc1 hc2
        have hS1 : incunableref01_Same.f k (rd_L1 l (n : Int)) (rd_L1 l (n : Int)) = some true := hS.out _ (by unfold rd_L1; rw [Int.toNat_natCast]; have h := Hn.out; rw [List.getD_eq_getElem?_getD, List.getElem?_eq_getElem (show n < l.length by omega), Option.getD_some]; exact List.getElem_mem _)
        have HS1 := Aside0.mk hS1
        have HR1 := Aside0.mk (And.intro hl1 hr1)
        have HR2 := Aside0.mk (And.intro hl2 hr2)
        clear hS1 hl1 hr1 hl2 hr2
        go_wp2
        go_quiet (first | (go_at_call 16; (with_reducible refine (incunableref01_Same.calls k _ _ (rd_L1 l (n : Int)) _ _ (rd_L1 l (n : Int)) true _ ?side1 ?side2 ?side3 ?side4 HS1.out).mono ?_); (case side1 => exact Kd.C_drewN HR1.out.2 _); (case side2 => exact HR1.out.1); (case side3 => exact Kd.C_drewN HR2.out.2 _); (case side4 => exact HR2.out.1); rintro e w' ⟨rfl, ⟨nd, rfl⟩⟩; (try first | exact ⟨rfl, _, World.drewN_drewN _ _ _⟩ | exact ⟨rfl, _, Eq.trans (World.drewN_drewN _ _ _) (congrArg (World.drewN _) (Nat.add_assoc _ _ _))⟩)))
        go_wp2
        go_roundg (d + 1)
        case measure => have := HK.out; omega
        case rel => exact ⟨n + 1, d, by rw [w64s (by omega) (by have := Hn.out; have := HM.out; omega)]; rfl, ⟨by have := Hn.out; omega⟩, ⟨rfl⟩, ⟨_, rfl⟩⟩
  case rest =>
    have HBq := hcut
    clear hcut HBe HVd k3d_ k50_ k51_ k10d_ hS hR1
    go_upto_region 20 with (fail)
    go_cut [116] (fun v116 wq => ∃ b : Bool, v116 = .bool b ∧ Aside0 (b = true → i0 ≠ i1 ∧ i1 ≠ i2 ∧ i0 ≠ i2) ∧ Aside0 (Below wa.heap.size wa wq))
    case first =>
      by_cases e01 : i0 = i1
      · subst e01; 
        go_wp2
        go_meet
        case rel => exact ⟨false, rfl, ⟨fun h => by cases h⟩, HBq⟩
      by_cases e12 : i1 = i2
      · have ni0i1 : ((i0 : Int) != (i1 : Int)) = true := bne_iff_ne.mpr (by omega); have mi0i1 := eq_false (show ¬ i0 = i1 by omega); subst e12; 
        go_wp2
        go_meet
        case rel => exact ⟨false, rfl, ⟨fun h => by cases h⟩, HBq⟩
      by_cases e02 : i0 = i2
      · have ni0i1 : ((i0 : Int) != (i1 : Int)) = true := bne_iff_ne.mpr (by omega); have mi0i1 := eq_false (show ¬ i0 = i1 by omega); have ni1i2 : ((i1 : Int) != (i2 : Int)) = true := bne_iff_ne.mpr (by omega); have mi1i2 := eq_false (show ¬ i1 = i2 by omega); subst e02; 
        go_wp2
        go_meet
        case rel => exact ⟨false, rfl, ⟨fun h => by cases h⟩, HBq⟩
      · have ni0i1 : ((i0 : Int) != (i1 : Int)) = true := bne_iff_ne.mpr (by omega); have mi0i1 := eq_false (show ¬ i0 = i1 by omega); have ni1i2 : ((i1 : Int) != (i2 : Int)) = true := bne_iff_ne.mpr (by omega); have mi1i2 := eq_false (show ¬ i1 = i2 by omega); have ni0i2 : ((i0 : Int) != (i2 : Int)) = true := bne_iff_ne.mpr (by omega); have mi0i2 := eq_false (show ¬ i0 = i2 by omega); 
        go_wp2
        go_meet
        case rel => exact ⟨true, rfl, ⟨fun _ => ⟨e01, e12, e02⟩⟩, HBq⟩
    case rest =>
      clear HBq
      obtain ⟨b, rfl, Hb, HBq⟩ := hcut
      go_upto_if 116 with (fail)
      go_cut [18, 19] (fun v18 v19 wq => Aside0 (Below wa.heap.size wa wq))
      case first =>
        cases b with
        | false =>
          go_wp2
          go_meet
          case rel => exact HBq
        | true =>
          obtain ⟨e01, e12, e02⟩ := Hb.out rfl
          have hR2 := hR2 e01 e12 e02
          go_wp2_with (first | ((with_reducible refine gate_dst (N := 122) rfl ?_); go_loud (refine Kd.R_lit (Kd.int .i64) _ 3 ?hg (N := 122) ?hd (xs := ([(i0 : Int), (i1 : Int), (i2 : Int)] : List Int)) (inner := [.int .i64 (i0 : Int), .int .i64 (i1 : Int), .int .i64 (i2 : Int)]) (ok := fun _ => True) (okp := fun _ => True) ?hr ?hp (fun _ hk => hk) trivial (Below.refl _ _) (Nat.le_refl _) (by simp) ?_; (case hd => rfl); (case hg => rfl); (case hr => first | (go_simp; done) | (go_simp; rfl)); (case hp => exact (Reps.one (show (Kd.int .i64).M _ _ _ (i0 : Int) [.int .i64 (i0 : Int)] from rfl) (Reps.one (show (Kd.int .i64).M _ _ _ (i1 : Int) [.int .i64 (i1 : Int)] from rfl) (Reps.one (show (Kd.int .i64).M _ _ _ (i2 : Int) [.int .i64 (i2 : Int)] from rfl) (Reps.none _ _)))))); intro v122 w122 ho hb hg_ hnew_; obtain ⟨A122, c122, rfl⟩ := Kd.R_slice ho; have HR122 := Aside0.mk (Kd.R_reads' ho); have HB122 := Aside0.mk hb; clear ho hb hg_ hnew_))
          have HLn2 : (l ++ [p, q]).length = l.length + 2 := by simp
          have HBc2 := Aside0.mk (show Below wa.heap.size wa w122 from below_step (HBq.out) HB122.out)
          refine (without_calls (b1 := g10) (b2 := g3) (Pk := fun _ => True) (l ++ [p, q]) l.length (some ⟨g, 0, none⟩) A0 A122 cap c0 c122 [(i0 : Int), (i1 : Int), (i2 : Int)] ?hV ?hb1 ?hb2 HLn2 (by have := HM.out; omega) ?hp (by simp) ?hpr).mono ?_
          case hV => rw [HLn2]; exact Kd.V_mono (Kd.V_below (Kd.N_V HNA.out) HBc2.out) (fun _ _ => trivial)
          case hb1 => rw [HLn2]; exact blk_below BKA.out HBc2.out
          case hb2 => exact blk_below (blk_below BK3'.out HBA.out) HBc2.out
          case hp => exact HR122.out.2.2
          case hpr =>
            intro i h0 h1
            simp only [List.length_cons, List.length_nil] at h1
            have h2 : i = 0 ∨ i = 1 ∨ i = 2 := by omega
            rcases h2 with rfl | rfl | rfl
            · exact ⟨show (0 : Int) ≤ (i0 : Int) by omega, show (i0 : Int) < _ by omega⟩
            · exact ⟨show (0 : Int) ≤ (i1 : Int) by omega, show (i1 : Int) < _ by omega⟩
            · exact ⟨show (0 : Int) ≤ (i2 : Int) by omega, show (i2 : Int) < _ by omega⟩
          rintro e wc2 ⟨gc2, cc2, u12, u22, rfl, hcc, hN, hV1, hV2, hBc⟩
          dsimp only
          have HN22 := Aside0.mk (show Kd.V Pt 30 wc2 wc2.heap.size (fun _ => True) (.slice (some ⟨gc2, 0, none⟩) l.length cc2) ((ers (l ++ [p, q]) [(i0 : Int), (i1 : Int), (i2 : Int)] [(i0 : Int), (i1 : Int), (i2 : Int)].length).take l.length) from Kd.N_V (Kd.N_take hN (by rw [ers_len, HLn2]; omega)))
          have HU12 := Aside0.mk hV1
          have HU22 := Aside0.mk hV2
          have HBd2 := Aside0.mk (below_step HBc2.out hBc)
          clear hcc hN hV1 hV2 hBc HR122 HB122 HBc2
          have hR2 := Aside0.mk hR2
          have hb1 : ((l.length : Int) != (l.length : Int)) = false := bne_eq_false_iff_eq.mpr rfl
          go_wp2_with (first | ((with_reducible refine gate_callee (f := 18) rfl ?_); refine goesL_ (some 127) rfl rfl Try.func18 (by kernel_rfl) rfl #[.slice (some ⟨gc2, 0, none⟩) l.length cc2, u12, u22] rfl (by (try simp only [List.map_toArray, List.map_cons, List.map_nil]); first | done | rfl) ?_; go_loud (refine (rest_calls k (by rw [List.length_take, ers_len, HLn2]; omega) HN22.out HU12.out HU22.out hR2.out).mono ?_); rintro e wd2 ⟨vd2, rfl, hvd, hbd⟩; refine ⟨_, rfl, ?_⟩; obtain ⟨Ad2, cd2, rfl⟩ := Kd.V_slice hvd; have HVd2 := Aside0.mk hvd; have HBe2 := Aside0.mk (below_step HBd2.out hbd); have k3d2_ : wd2.cell? ⟨g3, 0, none⟩ = some (.slice A0 l.length c0) := (blk_cell (blk_below (blk_below BK3'.out HBA.out) HBe2.out) 0).trans rfl; have k502_ : wd2.cell? ⟨g5, 0, none⟩ = some (.int .u8 t0) := (blk_cell (blk_below (blk_below BK5'.out HBA.out) HBe2.out) 0).trans rfl; have k512_ : wd2.cell? ⟨g5, 1, none⟩ = some (.int .u8 t1) := (blk_cell (blk_below (blk_below BK5'.out HBA.out) HBe2.out) 1).trans rfl; have k10d2_ : wd2.cell? ⟨g10, 0, none⟩ = some (.slice (some ⟨g, 0, none⟩) (l.length + 2) cap) := (blk_cell (blk_below BKA.out HBe2.out) 0).trans rfl; clear hvd hbd HN22 HU12 HU22 HBd2))
          go_meet
          case rel => exact HBe2
      case rest =>
        clear HBq Hb
        have HBq := hcut
        clear hcut hR2
        have k5r1_ : wc.cell? ⟨g5, 1, none⟩ = some (.int .u8 t1) := (blk_cell (blk_below (blk_below BK5'.out HBA.out) HBq.out) 1).trans rfl
        have k10r_ : wc.cell? ⟨g10, 0, none⟩ = some (.slice (some ⟨g, 0, none⟩) (l.length + 2) cap) := (blk_cell (blk_below BKA.out HBq.out) 0).trans rfl
        by_cases ht : t1 = 0
        · subst ht
          go_wp2
          go_ret
          exact ⟨rfl, below_step (below_step HB6.out HBA.out) HBq.out⟩
        have hn1 : (t1 == 0) = false := beq_eq_false_iff_ne.mpr ht
        have hn2 := eq_false ht
        go_upto_region 27 with (first | ((with_reducible refine gate_dst (N := 140) rfl ?_); go_loud (refine Kd.R_lit (Kd.int .u8) _ 5 ?hg (N := 140) ?hd (xs := ([] : List Int)) (inner := []) (ok := fun _ => True) (okp := fun _ => True) ?hr ?hp (fun _ hk => hk) trivial (Below.refl _ _) (Nat.le_refl _) (by simp) ?_; (case hd => rfl); (case hg => rfl); (case hr => first | (go_simp; done) | (go_simp; rfl)); (case hp => exact (Reps.none _ _)); intro v140 w140 ho hb hg_ hnew_; have HO140 := Aside0.mk ho; have HB140 := Aside0.mk hb; obtain ⟨e1, hl1, hM1, hc1, _⟩ := Kd.N_elem (Kd.N_below (Kd.N_below HNA.out HBq.out) hb) [] (i0 : Int) (by omega) (by omega); obtain ⟨B1, d1, rfl, hd1, hf1⟩ := Kd.FK_slice_open hM1; have hx1 := hc1 0 _ rfl; simp only [show (Kd.slice 5 (Kd.int .u8)).sz = 1 from rfl, Nat.mul_one, Nat.add_zero] at hx1; rw [Int.toNat_natCast] at hx1 hf1 hd1; rw [HLD.out] at hx1 hf1 hd1; have k10s_ : w140.cell? ⟨g10, 0, none⟩ = some (.slice (some ⟨g, 0, none⟩) (l.length + 2) cap) := (blk_cell (blk_below (blk_below BKA.out HBq.out) hb) 0).trans rfl; have HF1 := Aside0.mk (And.intro hd1 hf1); have q4 := eq_true hi0; clear hc1 hM1 hl1 hd1 hf1 ho hb hg_ hnew_)) | ((with_reducible refine gate_builtin (b := .append) (xs := #[.tmp 140, .tmp 144]) rfl ?_); at_builtin; go_loud (refine Kd.R_append_rows (Kd.int .u8) (w0 := wc) wc.heap.size rfl (.tmp 140) (.tmp 144) 30 5 (.int .u8 0) 1 rfl Try.underlying30 info5 rfl (by decide) (by omega) v140 [] LL _ _ _ (fun _ => True) (fun _ => False) rfl rfl HO140.out (Kd.F_now HF1.out.2) (fun _ _ h => h) (fun _ h => h.elim) (fun _ _ => trivial) HB140.out HB140.out.size (by have := HLL.out.1; simp only [List.length_nil]; omega) ?_; intro v145 w145 ho hb hg hat; rw [List.nil_append] at ho; obtain ⟨g20, c20, rfl, hg20, _, cells20, hbk20⟩ := Kd.R_form ho HLL.out.2; have hfz20 := blk_frozen hbk20 r; have HO145 := Aside0.mk ho; have HG20 := Aside0.mk hg20; have HC145 := Aside0.mk (Kd.R_reads' ho).2.2; have HB145 := Aside0.mk (below_step HBq.out hb); have HBc145 := Aside0.mk hb; clear ho hb hg hat HB140 HO140)))
        have k5s0_ : w145.cell? ⟨g5, 0, none⟩ = some (.int .u8 t0) := (blk_cell (blk_below (blk_below BK5'.out HBA.out) HB145.out) 0).trans rfl
        have k5s1_ : w145.cell? ⟨g5, 1, none⟩ = some (.int .u8 t1) := (blk_cell (blk_below (blk_below BK5'.out HBA.out) HB145.out) 1).trans rfl
        obtain ⟨x20, hx20⟩ : ∃ x20, x20 = rd LL (r : Int) := ⟨_, rfl⟩
        have k20_ : w145.cell? ⟨g20, r, none⟩ = some (.int .u8 x20) := by
          obtain ⟨ad, e1, e2⟩ := Kd.at_int HC145.out (r : Int) (by omega) (by omega)
          injection e1 with e1
          subst e1
          rw [Int.toNat_natCast, ← hx20] at e2
          by_cases h0 : r = 0
          · simpa [Addr.add, h0] using e2
          · simpa [Addr.add, h0] using e2
        have HX20 := Aside0.mk hx20
        clear hx20
        have q5 := eq_true hr
        have z4 := eq_false (show ¬ LL = [] from fun e => by have := HLL.out.2; rw [e] at this; simp at this)
        have z3 : ((LL.length : Int) == 0) = false := beq_eq_false_iff_ne.mpr (by omega)
        refine start_ (n := 14) (S := fun w' => w'.cell? ⟨g5, 0, none⟩ = some (.int .u8 t0) ∧ w'.cell? ⟨g5, 1, none⟩ = some (.int .u8 t1) ∧ w'.cell? ⟨g20, r, none⟩ = some (.int .u8 x20)) (ds := [13]) #[false, false, false, false, false, false, false, false, false, false, false, false, false, false] (by kernel_rfl) rfl rfl (⟨k5s0_, k5s1_, k20_⟩) (fun hHeld => ?_); refine with_tabW law5.tab27 law5.bits27 (fun HT_ HW_ => ?_)
        refine pure_ (i := 0) (N := some 146) (v := ?_) (a' := ?_) #[true, false, false, false, false, false, false, false, false, false, false, false, false, false] rfl rfl (any_of HT_.out (by kernel_rfl)) (fun _ _ _ h => h) (Or.inl ⟨by rfl, ?_⟩) ?_ ?_
        rotate_left
        · intro w'
          go_simp
          with_reducible rfl
        rotate_left
        · simp only [Act.put, List.setIfInBounds_toArray, List.set_cons_zero, List.set_cons_succ, i64_w, i32_w]
          rfl
        refine pure_ (i := 1) (N := some 147) (v := ?_) (a' := ?_) #[true, true, false, false, false, false, false, false, false, false, false, false, false, false] rfl rfl (any_of HT_.out (by kernel_rfl)) (fun _ _ _ h => h) (Or.inl ⟨by rfl, ?_⟩) ?_ ?_
        rotate_left
        · intro w'
          go_simp
          with_reducible rfl
        rotate_left
        · simp only [Act.put, List.setIfInBounds_toArray, List.set_cons_zero, List.set_cons_succ, i64_w, i32_w]
          rfl
        refine pure_ (i := 4) (N := some 150) (v := ?_) (a' := ?_) #[true, true, false, false, true, false, false, false, false, false, false, false, false, false] rfl rfl (any_of HT_.out (by kernel_rfl)) (fun _ _ _ h => h) (Or.inl ⟨by rfl, ?_⟩) ?_ ?_
        rotate_left
        · intro w'
          go_simp
          with_reducible rfl
        rotate_left
        · simp only [Act.put, List.setIfInBounds_toArray, List.set_cons_zero, List.set_cons_succ, i64_w, i32_w]
          rfl
        refine pure_ (i := 5) (N := some 151) (v := ?_) (a' := ?_) #[true, true, false, false, true, true, false, false, false, false, false, false, false, false] rfl rfl (any_of HT_.out (by kernel_rfl)) (fun _ _ _ h => h) (Or.inl ⟨by rfl, ?_⟩) ?_ ?_
        rotate_left
        · intro w'
          go_simp
          with_reducible rfl
        rotate_left
        · simp only [Act.put, List.setIfInBounds_toArray, List.set_cons_zero, List.set_cons_succ, i64_w, i32_w]
          rfl
        refine pure_ (i := 9) (N := some 155) (v := ?_) (a' := ?_) #[true, true, false, false, true, true, false, false, false, true, false, false, false, false] rfl rfl (any_of HT_.out (by kernel_rfl)) (fun _ _ _ h => h) (Or.inl ⟨by rfl, ?_⟩) ?_ ?_
        rotate_left
        · intro w'
          go_simp
          with_reducible rfl
        rotate_left
        · simp only [Act.put, List.setIfInBounds_toArray, List.set_cons_zero, List.set_cons_succ, i64_w, i32_w]
          rfl
        refine take_ (i := 2) (N := some 148) (v := ?_) (a' := ?_) #[true, true, true, false, true, true, false, false, false, true, false, false, false, false] rfl rfl (take_ofW HT_.out HW_.out (by kernel_rfl)) (fun _ _ _ h => h) (Or.inl ⟨by rfl, ?_⟩) hHeld ?_ ?_
        rotate_left
        · rintro w' ⟨s0, s1, s2⟩
          go_simp
          with_reducible rfl
        rotate_left
        · simp only [Act.put, List.setIfInBounds_toArray, List.set_cons_zero, List.set_cons_succ, i64_w, i32_w]
          rfl
        refine pure_ (i := 3) (N := some 149) (v := ?_) (a' := ?_) #[true, true, true, true, true, true, false, false, false, true, false, false, false, false] rfl rfl (any_of HT_.out (by kernel_rfl)) (fun _ _ _ h => h) (Or.inl ⟨by rfl, ?_⟩) ?_ ?_
        rotate_left
        · intro w'
          go_simp
          with_reducible rfl
        rotate_left
        · simp only [Act.put, List.setIfInBounds_toArray, List.set_cons_zero, List.set_cons_succ, i64_w, i32_w]
          rfl
        refine pure_ (i := 6) (N := some 152) (v := ?_) (a' := ?_) #[true, true, true, true, true, true, true, false, false, true, false, false, false, false] rfl rfl (any_of HT_.out (by kernel_rfl)) (fun _ _ _ h => h) (Or.inl ⟨by rfl, ?_⟩) ?_ ?_
        rotate_left
        · intro w'
          go_simp
          with_reducible rfl
        rotate_left
        · simp only [Act.put, List.setIfInBounds_toArray, List.set_cons_zero, List.set_cons_succ, i64_w, i32_w]
          rfl
        refine pure_ (i := 7) (N := some 153) (v := ?_) (a' := ?_) #[true, true, true, true, true, true, true, true, false, true, false, false, false, false] rfl rfl (any_of HT_.out (by kernel_rfl)) (fun _ _ _ h => h) (Or.inl ⟨by rfl, ?_⟩) ?_ ?_
        rotate_left
        · intro w'
          go_simp
          with_reducible rfl
        rotate_left
        · simp only [Act.put, List.setIfInBounds_toArray, List.set_cons_zero, List.set_cons_succ, i64_w, i32_w]
          rfl
        refine take_ (i := 8) (N := some 154) (v := ?_) (a' := ?_) #[true, true, true, true, true, true, true, true, true, true, false, false, false, false] rfl rfl (take_ofW HT_.out HW_.out (by kernel_rfl)) (fun _ _ _ h => h) (Or.inl ⟨by rfl, ?_⟩) hHeld ?_ ?_
        rotate_left
        · rintro w' ⟨s0, s1, s2⟩
          go_simp
          with_reducible rfl
        rotate_left
        · simp only [Act.put, List.setIfInBounds_toArray, List.set_cons_zero, List.set_cons_succ, i64_w, i32_w]
          rfl
        refine take_ (i := 10) (N := some 156) (v := ?_) (a' := ?_) #[true, true, true, true, true, true, true, true, true, true, true, false, false, false] rfl rfl (take_ofW HT_.out HW_.out (by kernel_rfl)) (fun _ _ _ h => h) (Or.inl ⟨by rfl, ?_⟩) hHeld ?_ ?_
        rotate_left
        · rintro w' ⟨s0, s1, s2⟩
          go_simp
          with_reducible rfl
        rotate_left
        · simp only [Act.put, List.setIfInBounds_toArray, List.set_cons_zero, List.set_cons_succ, i64_w, i32_w]
          rfl
        refine pure_ (i := 11) (N := some 157) (v := ?_) (a' := ?_) #[true, true, true, true, true, true, true, true, true, true, true, true, false, false] rfl rfl (any_of HT_.out (by kernel_rfl)) (fun _ _ _ h => h) (Or.inl ⟨by rfl, ?_⟩) ?_ ?_
        rotate_left
        · intro w'
          go_simp
          with_reducible rfl
        rotate_left
        · simp only [Act.put, List.setIfInBounds_toArray, List.set_cons_zero, List.set_cons_succ, i64_w, i32_w]
          rfl
        refine pure_ (i := 12) (N := some 158) (v := ?_) (a' := ?_) #[true, true, true, true, true, true, true, true, true, true, true, true, true, false] rfl rfl (any_of HT_.out (by kernel_rfl)) (fun _ _ _ h => h) (Or.inl ⟨by rfl, ?_⟩) ?_ ?_
        rotate_left
        · intro w'
          go_simp
          with_reducible rfl
        rotate_left
        · simp only [Act.put, List.setIfInBounds_toArray, List.set_cons_zero, List.set_cons_succ, i64_w, i32_w]
          rfl
        refine last_ (i := 13) (N := none) #[true, true, true, true, true, true, true, true, true, true, true, true, true, true] rfl rfl (one_of HT_.out (by kernel_rfl)) (by decide) (fun K hK => ?_)
        refine skip_ (w1 := ?_) (by rfl) rfl ?_ ?_
        rotate_left
        · go_simp
          rfl
        refine hK.out _ _ ?_
        clear hK K
        refine done_ (done_of HT_.out (by kernel_rfl)) ?_
        obtain ⟨w27, hw27⟩ : ∃ w27, w27 = (w145.setCell ⟨g20, r, none⟩ (.int .u8 (Go.bits .xor .u8 x20 t1))).drew := ⟨_, rfl⟩
        rw [← hw27]
        have HR27 := Aside0.mk (show Kd.R (Kd.int .u8) 5 w27 wc.heap.size (fun _ => True) (.slice (some ⟨g20, 0, none⟩) LL.length c20) (LL.set r (Go.bits .xor .u8 x20 t1)) from by rw [hw27]; exact Kd.R_drew (Kd.R_putn HO145.out (r : Int) _))
        have HB27 := Aside0.mk (show Below wa.heap.size wa w27 from by rw [hw27]; exact below_drew (below_set HB145.out (Nat.le_trans HBq.out.size HG20.out)))
        have HN27 := Aside0.mk (show Kd.N Pt 30 w27 w6.heap.size (fun k => k ≠ g10 ∧ k < wc.heap.size) (.slice (some ⟨g, 0, none⟩) (l.length + 2) cap) (l ++ [p, q]) from by rw [hw27]; exact Kd.N_drew (Kd.N_far (Kd.N_below (Kd.N_bound (Kd.N_below HNA.out HBq.out)) HBc145.out) (fun k hk (e : k = g20) => by have := hk.2; have := HG20.out; omega) _))
        have k10t_ : w27.cell? ⟨g10, 0, none⟩ = some (.slice (some ⟨g, 0, none⟩) (l.length + 2) cap) := (blk_cell (blk_below BKA.out HB27.out) 0).trans rfl
        clear hw27
        obtain ⟨bad, hbad⟩ : ∃ bad, bad = LL.set r (Go.bits .xor .u8 x20 t1) := ⟨_, rfl⟩
        rw [← hbad] at HR27
        have HBAD := Aside0.mk hbad
        clear hbad
        obtain ⟨hgne, hglt⟩ : g ≠ g10 ∧ g < wc.heap.size := HN27.out.1 g rfl
        have HG28 := Aside0.mk (And.intro hgne hglt)
        have HG10c := Aside0.mk (show g10 < wc.heap.size from Nat.lt_of_lt_of_le (blk_lt BKA.out) HBq.out.size)
        obtain ⟨cN, hlN, _, hcN, _⟩ := Kd.N_elem HN27.out [] (i0 : Int) (by omega) (by omega)
        have HCN := Aside0.mk (And.intro hlN hcN)
        have HFB := Aside0.mk (show Kd.FK Pt w27 (fun k => wc.heap.size ≤ k) bad [.slice (some ⟨g20, 0, none⟩) LL.length c20] from fk_own (Kd.R_mono (Kd.R_bound HR27.out) (fun k hk => hk.2.1)))
        have HB27' := Aside0.mk (show Below w6.heap.size w6 w27 from below_step HBA.out HB27.out)
        have hdropN : cN.drop 1 = [] := List.drop_eq_nil_of_le (by rw [HCN.out.1]; exact Nat.le_refl 1)
        clear hlN hcN hgne hglt
        go_wp2_with (first | ((with_reducible refine gate_store (t := 30) (p := 162) rfl ?_); go_loud (refine Kd.N_store Pt (w0 := w6) w6.heap.size rfl rfl 30 (.tmp 162) (.tmp 161) rfl 30 (n := l.length + 2) (cap := cap) (i0 : Int) 0 (l ++ [p, q]) bad (.slice (some ⟨g20, 0, none⟩) LL.length c20) [.slice (some ⟨g20, 0, none⟩) LL.length c20] cN (fun k => k ≠ g10) (fun k => wc.heap.size ≤ k) rfl (by show _ = _ * 1 + 0; rw [Nat.mul_one, Nat.add_zero]; try rfl) rfl rfl size30 (by simp [Value.oneCell']) (Kd.N_mono HN27.out (fun _ hk => hk.1)) (by omega) (by omega) HCN.out.1 HCN.out.2 (Nat.le_refl _) (by show Kd.FK Pt _ _ bad ([] ++ [.slice (some ⟨g20, 0, none⟩) LL.length c20] ++ cN.drop 1); rw [hdropN]; exact HFB.out) (fun k hk => ⟨fun e => by have := HG10c.out; omega, fun e => by have := HG28.out.2; omega⟩) HB27'.out ?_); intro w28 ho hb hg; have HN28 := Aside0.mk ho; have HB28 := Aside0.mk hb; have BK28 := Aside0.mk (blk_grown (blk_below BKA.out HB27.out) hg (fun e => HG28.out.1 (Option.some.inj e).symm)); clear ho hb hg HN27 HB27 HB27' HFB HR27 k10t_))
        have HLn3 : ((l ++ [p, q]).set i0 bad).length = l.length + 2 := by simp
        refine (without_calls (b1 := g10) (b2 := g3) (Pk := fun _ => True) ((l ++ [p, q]).set i0 bad) l.length (some ⟨g, 0, none⟩) A0 none cap c0 0 [] ?hV ?hb1 ?hb2 HLn3 (by have := HM.out; omega) ?hp (by simp) ?hpr).mono ?_
        case hV => rw [HLn3]; exact Kd.V_mono (Kd.N_V HN28.out) (fun _ _ => trivial)
        case hb1 => rw [HLn3]; exact BK28.out
        case hb2 => exact blk_below BK3'.out HB28.out
        case hp => exact Kd.C_nil _ _
        case hpr =>
          intro i h0 h1
          simp only [List.length_nil] at h1
          omega
        rintro e wc3 ⟨gc3, cc3, u13, u23, rfl, hcc, hN, hV1, hV2, hBc⟩
        dsimp only
        have HN23 := Aside0.mk (show Kd.V Pt 30 wc3 wc3.heap.size (fun _ => True) (.slice (some ⟨gc3, 0, none⟩) l.length cc3) ((ers ((l ++ [p, q]).set i0 bad) [] ([] : List Int).length).take l.length) from Kd.N_V (Kd.N_take hN (by rw [ers_len, HLn3]; omega)))
        have HU13 := Aside0.mk hV1
        have HU23 := Aside0.mk hV2
        have HBd3 := Aside0.mk (below_step HB28.out hBc)
        clear hcc hN hV1 hV2 hBc
        have hR3 := Aside0.mk (show gone ((l ++ [p, q]).set i0 bad) l.length k [] = some ([], 12) from by have h := hR3.out ht; rewrite [← HX20.out, ← HBAD.out] at h; exact h)
        go_wp2_with (first | ((with_reducible refine gate_callee (f := 18) rfl ?_); refine goesL_ (some 169) rfl rfl Try.func18 (by kernel_rfl) rfl #[.slice (some ⟨gc3, 0, none⟩) l.length cc3, u13, u23] rfl (by (try simp only [List.map_toArray, List.map_cons, List.map_nil]); first | done | rfl) ?_; go_loud (refine (rest_calls k (by rw [List.length_take, ers_len, HLn3]; omega) HN23.out HU13.out HU23.out hR3.out).mono ?_); rintro e wd3 ⟨vd3, rfl, hvd, hbd⟩; refine ⟨_, rfl, ?_⟩; obtain ⟨Ad3, cd3, rfl⟩ := Kd.V_slice hvd; have HBe3 := Aside0.mk (below_step HBd3.out hbd); clear hvd hbd HN23 HU13 HU23 HBd3))
        go_ret
        exact ⟨rfl, below_step HB6.out HBe3.out⟩
end Go.Proofs.Ytibkckcpclkclaa.M
