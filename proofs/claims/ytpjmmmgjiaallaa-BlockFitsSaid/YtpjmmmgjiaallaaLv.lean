/-
  block's Advance, Close and Fail: closures that are handed to 'with'.
-/
import Derived.Test.YtpjmmmgjiaallaaLw
import Derived.Deep.RegionWith
namespace Go.Proofs.Ytpjmmmgjiaallaa.M
open Go.RowKit Go.Proofs.YtpjmmmgjiaallaaW.PrintWords Go.Proofs.YtpjmmmgjiaallaaW.PrintLast Go.Proofs.YtpjmmmgjiaallaaW.PrintMore
set_option linter.unusedVariables false
set_option linter.unusedSimpArgs false
def advBad (s : Lg) (n : Int) : Prop := n < 0 ∨ wrap64 (s.pages - s.cur) < n
instance (s : Lg) (n : Int) : Decidable (advBad s n) := by unfold advBad; infer_instance
def advIn (s : Lg) (n : Int) : Int × Lg := if advBad s n then (2, s) else (0, { s with cur := wrap64 (s.cur + n) })
def adv.T3 : Bool × List (List Nat × List Nat) := (true, [([], []), ([0], [0]), ([1], [1]), ([2], [2]), ([], []), ([3, 4], [3, 4]), ([0, 0, 1, 2, 3, 4, 5], [0]), ([6, 0, 1, 2, 3, 4, 5], [6]), ([7, 5, 0, 1, 2, 3, 4, 5], [5, 7])])
def adv.B3 : List Nat := [0, 1, 3, 7, 0, 31, 63, 127, 255]
theorem adv.tab3 : rtab .any (opsOf Try.f29 3) = adv.T3 := by kernel_rfl
theorem adv.bits3 : waitsOk adv.T3.2 adv.B3 = true := by kernel_rfl
def fin.T2 : Bool × List (List Nat × List Nat) := (true, [([], []), ([], []), ([0, 0], [0]), ([2, 0], [2]), ([3, 0], [3]), ([1, 0, 1, 2, 3, 4], [1]), ([5, 0, 1, 2, 3, 4], [5]), ([6, 4, 0, 1, 2, 3, 4], [6])])
def fin.B2 : List Nat := [0, 0, 1, 5, 13, 31, 63, 127]
theorem fin.tab2 : rtab .any (opsOf Try.f31 2) = fin.T2 := by kernel_rfl
theorem fin.bits2 : waitsOk fin.T2.2 fin.B2 = true := by kernel_rfl
set_option maxHeartbeats 8000000 in
set_option maxRecDepth 100000 in
theorem adv_calls {lo : Nat} {w : World} {g ge b2 b3 : Nat} {s : Lg} (n : Int) (x : Option Addr) (h : LAt lo w g ge s) (h2 : w.heap[b2]? = some (.cells #[.pointer (some ⟨g, 0, none⟩)] 24 (0, 0))) (h3 : w.heap[b3]? = some (.cells #[.int .i64 n] 3 (0, 0))) :
    Calls Try.prog 29 #[.pointer x, .pointer (some ⟨b3, 0, none⟩), .pointer (some ⟨b2, 0, none⟩)] w fun e w' => e = .returned (.int .i64 (advIn s n).1) ∧ LAt lo w' g ge (advIn s n).2 ∧ Below lo w w' ∧ KeepL g w w' := by
  have HA := Aside0.mk h
  have k2 : w.cell? ⟨b2, 0, none⟩ = some (.pointer (some ⟨g, 0, none⟩)) := (blk_cell h2 0).trans rfl
  have k3 : w.cell? ⟨b3, 0, none⟩ = some (.int .i64 n) := (blk_cell h3 0).trans rfl
  have c1_ := h.c1
  have c3_ := h.c3
  have f3_ := blk_frozen h.blk 3
  clear h h2 h3
  by_cases q0 : n < 0
  · rw [show advIn s n = (2, s) from if_pos (.inl q0)]
    have d0 : decide (n < 0) = true := decide_eq_true q0
    clear q0
    go_enter Try.func29, Try.ntmps29
    go_wp2
    repeat (go_quiet (fail); try go_wp2)
    go_ret
    exact ⟨by first | rfl | (simp; done), HA.out.below (pw_below_drewN (Below.refl _ _) _), pw_below_drewN (Below.refl _ _) _, KeepL.of_below (pw_below_drewN (Below.refl _ _) _)⟩
  have d0 : decide (n < 0) = false := decide_eq_false q0
  by_cases q1 : wrap64 (s.pages - s.cur) < n
  · rw [show advIn s n = (2, s) from if_pos (.inr q1)]
    have d1 : decide (wrap64 (s.pages - s.cur) < n) = true := decide_eq_true q1
    clear q0 q1
    go_enter Try.func29, Try.ntmps29
    go_wp2
    repeat (go_quiet (fail); try go_wp2)
    go_ret
    exact ⟨by first | rfl | (simp; done), HA.out.below (pw_below_drewN (Below.refl _ _) _), pw_below_drewN (Below.refl _ _) _, KeepL.of_below (pw_below_drewN (Below.refl _ _) _)⟩
  · rw [show advIn s n = (0, { s with cur := wrap64 (s.cur + n) }) from if_neg (by rintro (h | h); exact q0 h; exact q1 h)]
    have d1 : decide (wrap64 (s.pages - s.cur) < n) = false := decide_eq_false q1
    clear q0 q1
    go_enter Try.func29, Try.ntmps29
    go_wp2
    repeat (go_quiet (fail); try go_wp2)
    refine start_ (n := 9) (S := fun w' => w'.cell? ⟨b2, 0, none⟩ = some (.pointer (some ⟨g, 0, none⟩)) ∧ w'.cell? ⟨b3, 0, none⟩ = some (.int .i64 n) ∧ w'.cell? ⟨g, 3, none⟩ = some (.int .i64 s.cur)) (ds := [8]) #[false, false, false, false, false, false, false, false, false] (by kernel_rfl) rfl rfl (⟨k2, k3, c3_⟩) (fun hHeld => ?_); refine with_tabW adv.tab3 adv.bits3 (fun HT_ HW_ => ?_)
    clear k2 k3 c3_ f3_
    have HA6 := Aside0.mk (HA.out.below (W1 := (w.drewN nq).drew) (below_drew1 (pw_below_drewN (Below.refl _ _) _)))
    have HB6 := Aside0.mk (show Below lo w (w.drewN nq).drew from below_drew1 (pw_below_drewN (Below.refl _ _) _))
    have HK6 := Aside0.mk (KeepL.of_below (g := g) (show Below w.heap.size w (w.drewN nq).drew from below_drew1 (pw_below_drewN (Below.refl _ _) _)))
    generalize (w.drewN nq).drew = w6 at HA6 HB6 HK6 hHeld ⊢
    have f3_ := blk_frozen HA6.out.blk 3
    have c3_ := HA6.out.c3
    refine take_ (i := 0) (N := some 20) (v := ?_) (a' := ?_) #[true, false, false, false, false, false, false, false, false] rfl rfl (take_ofW HT_.out HW_.out (by kernel_rfl)) (fun _ _ _ h => h) (Or.inl ⟨by rfl, ?_⟩) hHeld ?_ ?_
    rotate_left
    · rintro w' ⟨s0, s1, s2⟩
      go_simp
      with_reducible rfl
    rotate_left
    · simp only [Act.put, List.setIfInBounds_toArray, List.set_cons_zero, List.set_cons_succ, i64_w, i32_w]
      rfl
    refine pure_ (i := 1) (N := some 21) (v := ?_) (a' := ?_) #[true, true, false, false, false, false, false, false, false] rfl rfl (any_of HT_.out (by kernel_rfl)) (fun _ _ _ h => h) (Or.inl ⟨by rfl, ?_⟩) ?_ ?_
    rotate_left
    · intro w'
      go_simp
      with_reducible rfl
    rotate_left
    · simp only [Act.put, List.setIfInBounds_toArray, List.set_cons_zero, List.set_cons_succ, i64_w, i32_w]
      rfl
    refine pure_ (i := 2) (N := some 22) (v := ?_) (a' := ?_) #[true, true, true, false, false, false, false, false, false] rfl rfl (any_of HT_.out (by kernel_rfl)) (fun _ _ _ h => h) (Or.inl ⟨by rfl, ?_⟩) ?_ ?_
    rotate_left
    · intro w'
      go_simp
      with_reducible rfl
    rotate_left
    · simp only [Act.put, List.setIfInBounds_toArray, List.set_cons_zero, List.set_cons_succ, i64_w, i32_w]
      rfl
    refine take_ (i := 3) (N := some 23) (v := ?_) (a' := ?_) #[true, true, true, true, false, false, false, false, false] rfl rfl (take_ofW HT_.out HW_.out (by kernel_rfl)) (fun _ _ _ h => h) (Or.inl ⟨by rfl, ?_⟩) hHeld ?_ ?_
    rotate_left
    · rintro w' ⟨s0, s1, s2⟩
      go_simp
      with_reducible rfl
    rotate_left
    · simp only [Act.put, List.setIfInBounds_toArray, List.set_cons_zero, List.set_cons_succ, i64_w, i32_w]
      rfl
    refine take_ (i := 4) (N := some 24) (v := ?_) (a' := ?_) #[true, true, true, true, true, false, false, false, false] rfl rfl (take_ofW HT_.out HW_.out (by kernel_rfl)) (fun _ _ _ h => h) (Or.inl ⟨by rfl, ?_⟩) hHeld ?_ ?_
    rotate_left
    · rintro w' ⟨s0, s1, s2⟩
      go_simp
      with_reducible rfl
    rotate_left
    · simp only [Act.put, List.setIfInBounds_toArray, List.set_cons_zero, List.set_cons_succ, i64_w, i32_w]
      rfl
    refine pure_ (i := 5) (N := some 25) (v := ?_) (a' := ?_) #[true, true, true, true, true, true, false, false, false] rfl rfl (any_of HT_.out (by kernel_rfl)) (fun _ _ _ h => h) (Or.inl ⟨by rfl, ?_⟩) ?_ ?_
    rotate_left
    · intro w'
      go_simp
      with_reducible rfl
    rotate_left
    · simp only [Act.put, List.setIfInBounds_toArray, List.set_cons_zero, List.set_cons_succ, i64_w, i32_w]
      rfl
    refine pure_ (i := 6) (N := some 26) (v := ?_) (a' := ?_) #[true, true, true, true, true, true, true, false, false] rfl rfl (any_of HT_.out (by kernel_rfl)) (fun _ _ _ h => h) (Or.inl ⟨by rfl, ?_⟩) ?_ ?_
    rotate_left
    · intro w'
      go_simp
      with_reducible rfl
    rotate_left
    · simp only [Act.put, List.setIfInBounds_toArray, List.set_cons_zero, List.set_cons_succ, i64_w, i32_w]
      rfl
    refine pure_ (i := 7) (N := some 27) (v := ?_) (a' := ?_) #[true, true, true, true, true, true, true, true, false] rfl rfl (any_of HT_.out (by kernel_rfl)) (fun _ _ _ h => h) (Or.inl ⟨by rfl, ?_⟩) ?_ ?_
    rotate_left
    · intro w'
      go_simp
      with_reducible rfl
    rotate_left
    · simp only [Act.put, List.setIfInBounds_toArray, List.set_cons_zero, List.set_cons_succ, i64_w, i32_w]
      rfl
    refine last_ (i := 8) (N := none) #[true, true, true, true, true, true, true, true, true] rfl rfl (one_of HT_.out (by kernel_rfl)) (by decide) (fun K hK => ?_)
    refine skip_ (w1 := ?_) (by rfl) rfl ?_ ?_
    rotate_left
    · go_simp
      rfl
    refine hK.out _ _ ?_
    clear hK K
    refine done_ (done_of HT_.out (by kernel_rfl)) ?_
    go_wp2
    go_ret
    exact ⟨by first | rfl | (simp; done), HA6.out.putC _, HB6.out.setCell (by have := HA6.out.lo; have := HA6.out.lt; show lo ≤ g; omega) _, HK6.out.put (p := ⟨g, 3, none⟩) (Nat.le_refl _) _⟩
theorem below_trans {lo : Nat} {a b c : World} (h : Below lo a b) (k : Below lo b c) : Below lo a c := ⟨k.os.trans h.os, k.tape.trans h.tape, k.output.trans h.output, Nat.le_trans h.size k.size, fun i hi => (k.block i hi).trans (h.block i hi)⟩
theorem cell_far {w : World} {b g j : Nat} {v : Value} (h : w.cell? ⟨b, 0, none⟩ = some v) (hne : b ≠ g) (u : Value) : (w.setCell ⟨g, j, none⟩ u).cell? ⟨b, 0, none⟩ = some v := by
  have e := Below.heap_setCell w ⟨g, j, none⟩ u b hne
  simp only [World.cell?] at h ⊢
  rw [e]
  exact h
set_option maxHeartbeats 8000000 in
set_option maxRecDepth 100000 in
theorem fin_calls {lo : Nat} {w : World} {g ge b2 b3 : Nat} {s : Lg} (n i : Int) (h : LAt lo w g ge s) (hi0 : 0 ≤ i) (hi1 : i < (s.E.length : Int)) (h2 : w.heap[b2]? = some (.cells #[.pointer (some ⟨g, 0, none⟩)] 24 (0, 0))) (h3 : w.heap[b3]? = some (.cells #[.int .i64 n] 3 (0, 0))) (hg : g < b2) :
    Calls Try.prog 31 #[.pointer (some ⟨ge, i.toNat * 2, none⟩), .pointer (some ⟨b3, 0, none⟩), .pointer (some ⟨b2, 0, none⟩)] w fun e w' => e = .returned (.int .i64 0) ∧ LAt lo w' g ge { s with E := setS s.E i n, opn := 0, cur := 0 } ∧ Below lo w w' ∧ KeepL g w w' := by
  have HA := Aside0.mk h
  have k2 : w.cell? ⟨b2, 0, none⟩ = some (.pointer (some ⟨g, 0, none⟩)) := (blk_cell h2 0).trans rfl
  have HK2 := Aside0.mk k2
  have HG2 := Aside0.mk (show b2 ≠ g by omega)
  have HG3 := Aside0.mk (show b2 ≠ ge by have := h.lt; omega)
  have k3 : w.cell? ⟨b3, 0, none⟩ = some (.int .i64 n) := (blk_cell h3 0).trans rfl
  have cS_ := h.cS i hi0 hi1
  have fS_ := blk_frozen h.row (i.toNat * 2)
  clear k2 h h2 h3 hi0 hi1 hg
  go_enter Try.func31, Try.ntmps31
  go_wp2_with (first | ((with_reducible refine gate_store (t := 3) (p := 8) rfl ?_); refine store_event (t := 3) (p := 8) (v := .tmp 6) (w1 := w.setCell ⟨ge, i.toNat * 2, none⟩ (.int .i64 n)) ?hg ?ho ?hn ?hr ?_; (case ho => rfl); (case hg => rfl); (case hn => rfl); (case hr => first | (go_simp; done) | (go_simp; rfl)); intro wA hw; have hA1 := HA.out.putS i n; rw [← hw] at hA1; have HA1 := Aside0.mk hA1; have HB1 := Aside0.mk (show Below lo w wA from by rw [hw]; exact (Below.refl lo w).setCell HA.out.lo _); have HK1 := Aside0.mk (show KeepL g w wA from by rw [hw]; exact (KeepL.of_below (Below.refl _ _)).put (p := ⟨ge, i.toNat * 2, none⟩) (Nat.le_of_lt HA.out.lt) _); have k2 : wA.cell? ⟨b2, 0, none⟩ = some (.pointer (some ⟨g, 0, none⟩)) := (by rw [hw]; exact cell_far HK2.out (show b2 ≠ ge from HG3.out) _); clear hA1 hw))
  refine start_ (n := 8) (S := fun w' => w'.cell? ⟨b2, 0, none⟩ = some (.pointer (some ⟨g, 0, none⟩))) (ds := [7]) #[false, false, false, false, false, false, false, false] (by kernel_rfl) rfl rfl (k2) (fun hHeld => ?_); refine with_tabW fin.tab2 fin.bits2 (fun HT_ HW_ => ?_)
  clear k2
  have HA6 := Aside0.mk (HA1.out.below (W1 := wA.drew) (below_drew1 (Below.refl _ _)))
  have HB6 := Aside0.mk (show Below lo w wA.drew from below_drew1 HB1.out)
  have HK6 := Aside0.mk (HK1.out.trans (KeepL.of_below (g := g) (show Below wA.heap.size wA wA.drew from below_drew1 (Below.refl _ _))))
  generalize wA.drew = w6 at HA6 HB6 HK6 hHeld ⊢
  have k2_ := hHeld
  have f2_ := blk_frozen HA6.out.blk 2
  have c2_ := HA6.out.c2
  refine take_ (i := 0) (N := some 9) (v := ?_) (a' := ?_) #[true, false, false, false, false, false, false, false] rfl rfl (take_ofW HT_.out HW_.out (by kernel_rfl)) (fun _ _ _ h => h) (Or.inl ⟨by rfl, ?_⟩) hHeld ?_ ?_
  rotate_left
  · intro w' s0
    go_simp
    with_reducible rfl
  rotate_left
  · simp only [Act.put, List.setIfInBounds_toArray, List.set_cons_zero, List.set_cons_succ, i64_w, i32_w]
    rfl
  refine pure_ (i := 2) (N := some 11) (v := ?_) (a' := ?_) #[true, false, true, false, false, false, false, false] rfl rfl (any_of HT_.out (by kernel_rfl)) (fun _ _ _ h => h) (Or.inl ⟨by rfl, ?_⟩) ?_ ?_
  rotate_left
  · intro w'
    go_simp
    with_reducible rfl
  rotate_left
  · simp only [Act.put, List.setIfInBounds_toArray, List.set_cons_zero, List.set_cons_succ, i64_w, i32_w]
    rfl
  refine pure_ (i := 3) (N := some 12) (v := ?_) (a' := ?_) #[true, false, true, true, false, false, false, false] rfl rfl (any_of HT_.out (by kernel_rfl)) (fun _ _ _ h => h) (Or.inl ⟨by rfl, ?_⟩) ?_ ?_
  rotate_left
  · intro w'
    go_simp
    with_reducible rfl
  rotate_left
  · simp only [Act.put, List.setIfInBounds_toArray, List.set_cons_zero, List.set_cons_succ, i64_w, i32_w]
    rfl
  refine take_ (i := 1) (N := some 10) (v := ?_) (a' := ?_) #[true, true, true, true, false, false, false, false] rfl rfl (take_ofW HT_.out HW_.out (by kernel_rfl)) (fun _ _ _ h => h) (Or.inl ⟨by rfl, ?_⟩) hHeld ?_ ?_
  rotate_left
  · intro w' s0
    go_simp
    with_reducible rfl
  rotate_left
  · simp only [Act.put, List.setIfInBounds_toArray, List.set_cons_zero, List.set_cons_succ, i64_w, i32_w]
    rfl
  refine one_ (i := 4) (N := none) #[true, true, true, true, true, false, false, false] rfl rfl (one_of HT_.out (by kernel_rfl)) (by decide) (fun K hK => ?_)
  refine skip_ (w1 := w6.setCell ⟨g, 2, none⟩ (.int .i64 0)) (by rfl) rfl ?_ ?_
  · go_simp
  refine hK.out _ _ (cell_far k2_ HG2.out _) (fun hHeld => ?_)
  clear hK K
  have HA7 := Aside0.mk (HA6.out.putO 0)
  have HB7 := Aside0.mk (show Below lo w (w6.setCell ⟨g, 2, none⟩ (.int .i64 0)) from HB6.out.setCell (by have := HA6.out.lo; have := HA6.out.lt; show lo ≤ g; omega) _)
  have HK7 := Aside0.mk (HK6.out.put (p := ⟨g, 2, none⟩) (Nat.le_refl _) (.int .i64 0))
  clear HA6 HB6 HK6 c2_ f2_ k2_
  generalize w6.setCell ⟨g, 2, none⟩ (.int .i64 0) = w7 at HA7 HB7 HK7 hHeld ⊢
  have f3_ := blk_frozen HA7.out.blk 3
  have c3_ := HA7.out.c3
  refine pure_ (i := 5) (N := some 13) (v := ?_) (a' := ?_) #[true, true, true, true, true, true, false, false] rfl rfl (any_of HT_.out (by kernel_rfl)) (fun _ _ _ h => h) (Or.inl ⟨by rfl, ?_⟩) ?_ ?_
  rotate_left
  · intro w'
    go_simp
    with_reducible rfl
  rotate_left
  · simp only [Act.put, List.setIfInBounds_toArray, List.set_cons_zero, List.set_cons_succ, i64_w, i32_w]
    rfl
  refine pure_ (i := 6) (N := some 14) (v := ?_) (a' := ?_) #[true, true, true, true, true, true, true, false] rfl rfl (any_of HT_.out (by kernel_rfl)) (fun _ _ _ h => h) (Or.inl ⟨by rfl, ?_⟩) ?_ ?_
  rotate_left
  · intro w'
    go_simp
    with_reducible rfl
  rotate_left
  · simp only [Act.put, List.setIfInBounds_toArray, List.set_cons_zero, List.set_cons_succ, i64_w, i32_w]
    rfl
  refine last_ (i := 7) (N := none) #[true, true, true, true, true, true, true, true] rfl rfl (one_of HT_.out (by kernel_rfl)) (by decide) (fun K hK => ?_)
  refine skip_ (w1 := ?_) (by rfl) rfl ?_ ?_
  rotate_left
  · go_simp
    rfl
  refine hK.out _ _ ?_
  clear hK K
  refine done_ (done_of HT_.out (by kernel_rfl)) ?_
  go_wp2
  go_ret
  exact ⟨by first | rfl | (simp; done), HA7.out.putC _, HB7.out.setCell (by have := HA7.out.lo; have := HA7.out.lt; show lo ≤ g; omega) _, HK7.out.put (p := ⟨g, 3, none⟩) (Nat.le_refl _) _⟩
set_option maxHeartbeats 8000000 in
set_option maxRecDepth 100000 in
theorem with_adv {lo : Nat} {w : World} {g ge b2 b3 : Nat} {s : Lg} (n : Int) (h : LAt lo w g ge s) (h2 : w.heap[b2]? = some (.cells #[.pointer (some ⟨g, 0, none⟩)] 24 (0, 0))) (h3 : w.heap[b3]? = some (.cells #[.int .i64 n] 3 (0, 0))) (hg : g < b2 ∧ g < b3) (ho : 1 ≤ s.opn ∧ s.opn ≤ (s.E.length : Int)) (hlen : s.E.length < 1000000) :
    Calls Try.prog 28 #[.pointer (some ⟨g, 0, none⟩), .func (.func 29) #[] #[.pointer (some ⟨b3, 0, none⟩), .pointer (some ⟨b2, 0, none⟩)]] w fun e w' => e = .returned (.int .i64 ((advIn s n).1)) ∧ LAt lo w' g ge ((advIn s n).2) ∧ Below lo w w' ∧ KeepL g w w' := by
  have hI : IsL lo w g s := ⟨ge, h⟩
  have HI := Aside0.mk hI
  have HA := Aside0.mk h
  have H2 := Aside0.mk h2
  have H3 := Aside0.mk h3
  have HG := Aside0.mk hg
  have HO := Aside0.mk ho
  have c0_ := h.c0
  have c2_ := h.c2
  have d0 : (s.opn == 0) = false := beq_eq_false_iff_ne.mpr (by omega)
  obtain ⟨q, hq⟩ : ∃ q, q = s.opn - 1 := ⟨_, rfl⟩
  have hw : wrap64 (s.opn - 1) = q := by rw [hq]; exact w64s (by omega) (by omega)
  have hw' : IntKind.i64.wrap (s.opn - 1) = q := by rw [hq, IntKind.wrap_i64]; omega
  have p1 := eq_true (show 0 ≤ q by omega)
  have p2 := eq_true (show q < (s.E.length : Int) by omega)
  have HQ := Aside0.mk hq
  clear hq
  clear hI h h2 h3 hg ho hlen
  go_enter Try.func28, Try.ntmps28
  go_wp2_with (first | (go_at_call 26; (with_reducible refine (is_calls HI.out).mono ?_); rintro e w' ⟨rfl, ⟨nd, rfl⟩⟩))
  go_region_with (first | (go_at_call 29; (with_reducible refine (adv_calls n _ (HA.out.below (pw_below_drewN (Below.refl _ _) _)) (blk_below H2.out (pw_below_drewN (Below.refl _ _) _)) (blk_below H3.out (pw_below_drewN (Below.refl _ _) _))).mono ?_); rintro e w5 ⟨rfl, hA5, hB5, hK5⟩))
  all_goals (
    go_wp2
    go_ret
    exact ⟨by first | rfl | (simp; done), hA5, below_trans (pw_below_drewN (Below.refl _ _) _) hB5, hK5⟩)

set_option maxHeartbeats 8000000 in
set_option maxRecDepth 100000 in
theorem with_fin {lo : Nat} {w : World} {g ge b2 b3 : Nat} {s : Lg} (n : Int) (h : LAt lo w g ge s) (h2 : w.heap[b2]? = some (.cells #[.pointer (some ⟨g, 0, none⟩)] 24 (0, 0))) (h3 : w.heap[b3]? = some (.cells #[.int .i64 n] 3 (0, 0))) (hg : g < b2 ∧ g < b3) (ho : 1 ≤ s.opn ∧ s.opn ≤ (s.E.length : Int)) (hlen : s.E.length < 1000000) :
    Calls Try.prog 28 #[.pointer (some ⟨g, 0, none⟩), .func (.func 31) #[] #[.pointer (some ⟨b3, 0, none⟩), .pointer (some ⟨b2, 0, none⟩)]] w fun e w' => e = .returned (.int .i64 (0)) ∧ LAt lo w' g ge ({ s with E := setS s.E (s.opn - 1) n, opn := 0, cur := 0 }) ∧ Below lo w w' ∧ KeepL g w w' := by
  have hI : IsL lo w g s := ⟨ge, h⟩
  have HI := Aside0.mk hI
  have HA := Aside0.mk h
  have H2 := Aside0.mk h2
  have H3 := Aside0.mk h3
  have HG := Aside0.mk hg
  have HO := Aside0.mk ho
  have c0_ := h.c0
  have c2_ := h.c2
  have d0 : (s.opn == 0) = false := beq_eq_false_iff_ne.mpr (by omega)
  obtain ⟨q, hq⟩ : ∃ q, q = s.opn - 1 := ⟨_, rfl⟩
  have hw : wrap64 (s.opn - 1) = q := by rw [hq]; exact w64s (by omega) (by omega)
  have hw' : IntKind.i64.wrap (s.opn - 1) = q := by rw [hq, IntKind.wrap_i64]; omega
  have p1 := eq_true (show 0 ≤ q by omega)
  have p2 := eq_true (show q < (s.E.length : Int) by omega)
  rw [← hq]
  have HQ := Aside0.mk hq
  clear hq
  clear hI h h2 h3 hg ho hlen
  go_enter Try.func28, Try.ntmps28
  go_wp2_with (first | (go_at_call 26; (with_reducible refine (is_calls HI.out).mono ?_); rintro e w' ⟨rfl, ⟨nd, rfl⟩⟩))
  go_region_with (first | (go_at_call 31; (with_reducible refine (fin_calls n q (HA.out.below (pw_below_drewN (Below.refl _ _) _)) (by have := HO.out; have := HQ.out; omega) (by have := HO.out; have := HQ.out; omega) (blk_below H2.out (pw_below_drewN (Below.refl _ _) _)) (blk_below H3.out (pw_below_drewN (Below.refl _ _) _)) HG.out.1).mono ?_); rintro e w5 ⟨rfl, hA5, hB5, hK5⟩))
  all_goals (
    go_wp2
    go_ret
    exact ⟨by first | rfl | (simp; done), hA5, below_trans (pw_below_drewN (Below.refl _ _) _) hB5, hK5⟩)

end Go.Proofs.Ytpjmmmgjiaallaa.M
