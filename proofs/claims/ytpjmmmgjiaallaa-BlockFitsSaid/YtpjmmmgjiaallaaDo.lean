/-
  The law's 'do': what is done to both ledgers; what both say is the same.
-/
import Derived.Test.YtpjmmmgjiaallaaQp
namespace Go.Proofs.Ytpjmmmgjiaallaa.M
open Go.RowKit Go.Proofs.YtpjmmmgjiaallaaW.PrintWords Go.Proofs.YtpjmmmgjiaallaaW.PrintLast Go.Proofs.YtpjmmmgjiaallaaW.PrintMore
set_option linter.unusedVariables false
set_option linter.unusedSimpArgs false
def doStep (s : Lg) (r : Rg) (k a b c : Int) : Lg × Rg :=
  if k = 1 then ((setR s a b c).2, (qSet r a b c).2) else (if k = 2 then ((takeR s).2.2, (qTake r).2) else (if k = 3 then ((advR s a).2, (qAdv r a).2) else (if k = 4 then ((endR s 2).2, (qEnd r 2).2) else (if k = 5 then ((endR s 3).2, (qEnd r 3).2) else (if k = 6 then ((freeR s a).2, (qFree r a).2) else (s, r))))))
/-- What both say is the same. -/
structure Same (s : Lg) (r : Rg) (k a b c : Int) : Prop where
  r1 : k = 1 → (setR s a b c).1 = (qSet r a b c).1
  r2 : k = 2 → ((takeR s).2.1 = true ∧ (takeR s).1 = (qTake r).1 ∧ 0 ≤ (qTake r).1) ∨ ((takeR s).2.1 = false ∧ (takeR s).1 = 0 ∧ (qTake r).1 = -1)
  r3 : k = 3 → (advR s a).1 = (qAdv r a).1
  r4 : k = 4 → (endR s 2).1 = (qEnd r 2).1
  r5 : k = 5 → (endR s 3).1 = (qEnd r 3).1
  r6 : k = 6 → (freeR s a).1 = (qFree r a).1
def dox.T4 : Bool × List (List Nat × List Nat) := (true, [([], []), ([], []), ([1], [1]), ([], []), ([3], [3]), ([], []), ([5], [5]), ([0, 2, 4, 6], [0, 2, 4, 6]), ([], []), ([], []), ([9], [9]), ([], []), ([11], [11]), ([], []), ([13], [13]), ([8, 10, 12, 14, 7], [8, 10, 12, 14]), ([7, 15], [7, 15]), ([16, 15, 0, 1, 2, 3, 4, 5, 6, 7, 8, 9, 10, 11, 12, 13, 14, 15, 16], [16])])
def dox.B4 : List Nat := [0, 0, 2, 0, 8, 0, 32, 127, 0, 0, 512, 0, 2048, 0, 8192, 32767, 65535, 131071]
theorem dox.tab4 : rtab .any (opsOf Try.f8 4) = dox.T4 := by kernel_rfl
theorem dox.bits4 : waitsOk dox.T4.2 dox.B4 = true := by kernel_rfl
def dox.T10 : Bool × List (List Nat × List Nat) := (true, [([], []), ([], []), ([1], [1]), ([0, 2], [0, 2]), ([], []), ([], []), ([5], [5]), ([4, 6, 3], [4, 6]), ([3, 7], [3, 7]), ([8, 7, 0, 1, 2, 3, 4, 5, 6, 7, 8], [8])])
def dox.B10 : List Nat := [0, 0, 2, 7, 0, 0, 32, 127, 255, 511]
theorem dox.tab10 : rtab .any (opsOf Try.f8 10) = dox.T10 := by kernel_rfl
theorem dox.bits10 : waitsOk dox.T10.2 dox.B10 = true := by kernel_rfl
def dox.T16 : Bool × List (List Nat × List Nat) := (true, [([], []), ([], []), ([1], [1]), ([0, 2], [0, 2]), ([], []), ([], []), ([5], [5]), ([4, 6, 3], [4, 6]), ([3, 7], [3, 7]), ([8, 7, 0, 1, 2, 3, 4, 5, 6, 7, 8], [8])])
def dox.B16 : List Nat := [0, 0, 2, 7, 0, 0, 32, 127, 255, 511]
theorem dox.tab16 : rtab .any (opsOf Try.f8 16) = dox.T16 := by kernel_rfl
theorem dox.bits16 : waitsOk dox.T16.2 dox.B16 = true := by kernel_rfl
set_option maxHeartbeats 8000000 in
set_option maxRecDepth 100000 in
theorem do_calls {lo : Nat} {w : World} {g h : Nat} {s : Lg} {r : Rg} (k a b c : Int) (hL : IsL lo w g s) (hQ : IsQ (g + 1) w h r) (hso : (0 ≤ s.opn ∧ s.opn ≤ (s.E.length : Int)) ∧ s.E.length < 1000000) (hqo : r.opn < (r.S.length : Int) ∧ r.S.length < 1000000) (hres : Same s r k a b c) :
    Calls Try.prog 8 #[.pointer (some ⟨g, 0, none⟩), .pointer (some ⟨h, 0, none⟩), .agg #[.int .i64 k, .int .i64 a, .int .i64 b, .int .i64 c]] w fun e w' => e = .returned (.bool true) ∧ IsL lo w' g (doStep s r k a b c).1 ∧ IsQ (g + 1) w' h (doStep s r k a b c).2 ∧ Below lo w w' := by
  have HL0 := Aside0.mk hL
  have HQ0 := Aside0.mk hQ
  have HSO := Aside0.mk hso
  have HQO := Aside0.mk hqo
  have HLG := Aside0.mk hL.lo_le
  have HLO := Aside0.mk (show lo ≤ w.heap.size by have := hL.lo_le; have := hL.lt; omega)
  clear hL hQ hso hqo
  by_cases e1 : k = 1
  · have g1 : (k == 1) = true := beq_iff_eq.mpr e1
    have hst : doStep s r k a b c = ((setR s a b c).2, (qSet r a b c).2) := by unfold doStep; rw [if_pos e1]
    rw [hst]
    have HE := Aside0.mk (hres.r1 e1)
    clear hst hres e1
    have heq := beq_iff_eq.mpr HE.out
    go_enter Try.func8, Try.ntmps8
    go_wp2_with (first | ((with_reducible refine gate_dst (N := 5) rfl ?_); refine box_event ?hg (N := 5) ?hd (cs := #[.int .i64 k, .int .i64 a, .int .i64 b, .int .i64 c]) (t := 31) ?hr ?_; (case hd => rfl); (case hg => rfl); (case hr => first | (go_simp; done) | (go_simp; rfl)); intro bx hg wb hbox hb; have HL1 := Aside0.mk (HL0.out.below hb); have HQ1 := Aside0.mk (HQ0.out.below hb); have HB1 := Aside0.mk hb; have HX := Aside0.mk hbox; have HG := Aside0.mk (show g < bx by rw [hg]; exact HL0.out.lt); have cb0 : wb.cell? ⟨bx, 0, none⟩ = some (.int .i64 k) := (blk_cell hbox 0).trans rfl; have cb1 : wb.cell? ⟨bx, 1, none⟩ = some (.int .i64 a) := (blk_cell hbox 1).trans rfl; have cb2 : wb.cell? ⟨bx, 2, none⟩ = some (.int .i64 b) := (blk_cell hbox 2).trans rfl; have cb3 : wb.cell? ⟨bx, 3, none⟩ = some (.int .i64 c) := (blk_cell hbox 3).trans rfl; clear hbox hb hg HL0 HQ0))
    refine start_ (n := 18) (S := fun w' => w'.cell? ⟨bx, 1, none⟩ = some (.int .i64 a) ∧ w'.cell? ⟨bx, 2, none⟩ = some (.int .i64 b) ∧ w'.cell? ⟨bx, 3, none⟩ = some (.int .i64 c)) (ds := []) #[false, false, false, false, false, false, false, false, false, false, false, false, false, false, false, false, false, false] (by kernel_rfl) rfl rfl (⟨cb1, cb2, cb3⟩) (fun hHeld => ?_); refine with_tabW dox.tab4 dox.bits4 (fun HT_ HW_ => ?_)
    clear cb1 cb2 cb3
    have HL2 := Aside0.mk (HL1.out.below (W1 := wb.drew) (below_drew1 (Below.refl _ _)))
    have HQ2 := Aside0.mk (HQ1.out.below (W1 := wb.drew) (below_drew1 (Below.refl _ _)))
    have HB2 := Aside0.mk (show Below w.heap.size w wb.drew from below_drew1 HB1.out)
    have HX2 := Aside0.mk (blk_drew HX.out)
    clear HL1 HQ1 HB1 HX
    generalize wb.drew = w2 at HL2 HQ2 HB2 HX2 hHeld ⊢
    refine pure_ (i := 0) (N := some 14) (v := ?_) (a' := ?_) #[true, false, false, false, false, false, false, false, false, false, false, false, false, false, false, false, false, false] rfl rfl (any_of HT_.out (by kernel_rfl)) (fun _ _ _ h => h) (Or.inl ⟨by rfl, ?_⟩) ?_ ?_
    rotate_left
    · intro w'
      go_simp
      with_reducible rfl
    rotate_left
    · simp only [Act.put, List.setIfInBounds_toArray, List.set_cons_zero, List.set_cons_succ, i64_w, i32_w]
      rfl
    refine pure_ (i := 1) (N := some 15) (v := ?_) (a' := ?_) #[true, true, false, false, false, false, false, false, false, false, false, false, false, false, false, false, false, false] rfl rfl (any_of HT_.out (by kernel_rfl)) (fun _ _ _ h => h) (Or.inl ⟨by rfl, ?_⟩) ?_ ?_
    rotate_left
    · intro w'
      go_simp
      with_reducible rfl
    rotate_left
    · simp only [Act.put, List.setIfInBounds_toArray, List.set_cons_zero, List.set_cons_succ, i64_w, i32_w]
      rfl
    refine pure_ (i := 3) (N := some 17) (v := ?_) (a' := ?_) #[true, true, false, true, false, false, false, false, false, false, false, false, false, false, false, false, false, false] rfl rfl (any_of HT_.out (by kernel_rfl)) (fun _ _ _ h => h) (Or.inl ⟨by rfl, ?_⟩) ?_ ?_
    rotate_left
    · intro w'
      go_simp
      with_reducible rfl
    rotate_left
    · simp only [Act.put, List.setIfInBounds_toArray, List.set_cons_zero, List.set_cons_succ, i64_w, i32_w]
      rfl
    refine pure_ (i := 5) (N := some 19) (v := ?_) (a' := ?_) #[true, true, false, true, false, true, false, false, false, false, false, false, false, false, false, false, false, false] rfl rfl (any_of HT_.out (by kernel_rfl)) (fun _ _ _ h => h) (Or.inl ⟨by rfl, ?_⟩) ?_ ?_
    rotate_left
    · intro w'
      go_simp
      with_reducible rfl
    rotate_left
    · simp only [Act.put, List.setIfInBounds_toArray, List.set_cons_zero, List.set_cons_succ, i64_w, i32_w]
      rfl
    refine pure_ (i := 8) (N := some 22) (v := ?_) (a' := ?_) #[true, true, false, true, false, true, false, false, true, false, false, false, false, false, false, false, false, false] rfl rfl (any_of HT_.out (by kernel_rfl)) (fun _ _ _ h => h) (Or.inl ⟨by rfl, ?_⟩) ?_ ?_
    rotate_left
    · intro w'
      go_simp
      with_reducible rfl
    rotate_left
    · simp only [Act.put, List.setIfInBounds_toArray, List.set_cons_zero, List.set_cons_succ, i64_w, i32_w]
      rfl
    refine pure_ (i := 9) (N := some 23) (v := ?_) (a' := ?_) #[true, true, false, true, false, true, false, false, true, true, false, false, false, false, false, false, false, false] rfl rfl (any_of HT_.out (by kernel_rfl)) (fun _ _ _ h => h) (Or.inl ⟨by rfl, ?_⟩) ?_ ?_
    rotate_left
    · intro w'
      go_simp
      with_reducible rfl
    rotate_left
    · simp only [Act.put, List.setIfInBounds_toArray, List.set_cons_zero, List.set_cons_succ, i64_w, i32_w]
      rfl
    refine pure_ (i := 11) (N := some 25) (v := ?_) (a' := ?_) #[true, true, false, true, false, true, false, false, true, true, false, true, false, false, false, false, false, false] rfl rfl (any_of HT_.out (by kernel_rfl)) (fun _ _ _ h => h) (Or.inl ⟨by rfl, ?_⟩) ?_ ?_
    rotate_left
    · intro w'
      go_simp
      with_reducible rfl
    rotate_left
    · simp only [Act.put, List.setIfInBounds_toArray, List.set_cons_zero, List.set_cons_succ, i64_w, i32_w]
      rfl
    refine pure_ (i := 13) (N := some 27) (v := ?_) (a' := ?_) #[true, true, false, true, false, true, false, false, true, true, false, true, false, true, false, false, false, false] rfl rfl (any_of HT_.out (by kernel_rfl)) (fun _ _ _ h => h) (Or.inl ⟨by rfl, ?_⟩) ?_ ?_
    rotate_left
    · intro w'
      go_simp
      with_reducible rfl
    rotate_left
    · simp only [Act.put, List.setIfInBounds_toArray, List.set_cons_zero, List.set_cons_succ, i64_w, i32_w]
      rfl
    refine take_ (i := 2) (N := some 16) (v := ?_) (a' := ?_) #[true, true, true, true, false, true, false, false, true, true, false, true, false, true, false, false, false, false] rfl rfl (take_ofW HT_.out HW_.out (by kernel_rfl)) (fun _ _ _ h => h) (Or.inl ⟨by rfl, ?_⟩) hHeld ?_ ?_
    rotate_left
    · rintro w' ⟨s0, s1, s2⟩
      go_simp
      with_reducible rfl
    rotate_left
    · simp only [Act.put, List.setIfInBounds_toArray, List.set_cons_zero, List.set_cons_succ, i64_w, i32_w]
      rfl
    refine take_ (i := 4) (N := some 18) (v := ?_) (a' := ?_) #[true, true, true, true, true, true, false, false, true, true, false, true, false, true, false, false, false, false] rfl rfl (take_ofW HT_.out HW_.out (by kernel_rfl)) (fun _ _ _ h => h) (Or.inl ⟨by rfl, ?_⟩) hHeld ?_ ?_
    rotate_left
    · rintro w' ⟨s0, s1, s2⟩
      go_simp
      with_reducible rfl
    rotate_left
    · simp only [Act.put, List.setIfInBounds_toArray, List.set_cons_zero, List.set_cons_succ, i64_w, i32_w]
      rfl
    refine take_ (i := 6) (N := some 20) (v := ?_) (a' := ?_) #[true, true, true, true, true, true, true, false, true, true, false, true, false, true, false, false, false, false] rfl rfl (take_ofW HT_.out HW_.out (by kernel_rfl)) (fun _ _ _ h => h) (Or.inl ⟨by rfl, ?_⟩) hHeld ?_ ?_
    rotate_left
    · rintro w' ⟨s0, s1, s2⟩
      go_simp
      with_reducible rfl
    rotate_left
    · simp only [Act.put, List.setIfInBounds_toArray, List.set_cons_zero, List.set_cons_succ, i64_w, i32_w]
      rfl
    refine take_ (i := 10) (N := some 24) (v := ?_) (a' := ?_) #[true, true, true, true, true, true, true, false, true, true, true, true, false, true, false, false, false, false] rfl rfl (take_ofW HT_.out HW_.out (by kernel_rfl)) (fun _ _ _ h => h) (Or.inl ⟨by rfl, ?_⟩) hHeld ?_ ?_
    rotate_left
    · rintro w' ⟨s0, s1, s2⟩
      go_simp
      with_reducible rfl
    rotate_left
    · simp only [Act.put, List.setIfInBounds_toArray, List.set_cons_zero, List.set_cons_succ, i64_w, i32_w]
      rfl
    refine take_ (i := 12) (N := some 26) (v := ?_) (a' := ?_) #[true, true, true, true, true, true, true, false, true, true, true, true, true, true, false, false, false, false] rfl rfl (take_ofW HT_.out HW_.out (by kernel_rfl)) (fun _ _ _ h => h) (Or.inl ⟨by rfl, ?_⟩) hHeld ?_ ?_
    rotate_left
    · rintro w' ⟨s0, s1, s2⟩
      go_simp
      with_reducible rfl
    rotate_left
    · simp only [Act.put, List.setIfInBounds_toArray, List.set_cons_zero, List.set_cons_succ, i64_w, i32_w]
      rfl
    refine take_ (i := 14) (N := some 28) (v := ?_) (a' := ?_) #[true, true, true, true, true, true, true, false, true, true, true, true, true, true, true, false, false, false] rfl rfl (take_ofW HT_.out HW_.out (by kernel_rfl)) (fun _ _ _ h => h) (Or.inl ⟨by rfl, ?_⟩) hHeld ?_ ?_
    rotate_left
    · rintro w' ⟨s0, s1, s2⟩
      go_simp
      with_reducible rfl
    rotate_left
    · simp only [Act.put, List.setIfInBounds_toArray, List.set_cons_zero, List.set_cons_succ, i64_w, i32_w]
      rfl
    refine one_ (i := 7) (N := some 21) #[true, true, true, true, true, true, true, true, true, true, true, true, true, true, true, false, false, false] rfl rfl (one_of HT_.out (by kernel_rfl)) (by decide) (fun K hK => ?_)
    refine goes_ Try.func16 (by kernel_rfl) rfl #[.pointer (some ⟨g, 0, none⟩), .int .i64 a, .int .i64 b, .int .i64 c] (by rfl) rfl rfl (by (try simp only [List.map_toArray, List.map_cons, List.map_nil]); first | done | rfl) ?_
    with_reducible refine (Set_calls a b c HL2.out).mono ?_
    rintro e w3 ⟨rfl, hl3, hb3, hk3⟩
    have HQ3 := Aside0.mk (HQ2.out.high fun i h1 h2 => hk3.2 i (by omega) h2)
    have HX3 := Aside0.mk ((hk3.2 bx HG.out (blk_lt HX2.out)).trans HX2.out)
    have HL3 := Aside0.mk hl3
    have HB3 := Aside0.mk (below_trans (below_lower HB2.out HLO.out) hb3)
    clear hl3 hb3 hk3 HL2 HQ2 HB2 HX2
    refine ⟨_, rfl, ?_⟩
    refine hK.out _ _ ⟨(blk_cell HX3.out 1).trans rfl, (blk_cell HX3.out 2).trans rfl, (blk_cell HX3.out 3).trans rfl⟩ (fun hHeld => ?_)
    clear hK K
    refine norm_ (a' := ?_) ?_ ?_
    rotate_left
    · show Act.put _ (some 21) _ = _
      simp only [Act.put, List.setIfInBounds_toArray, List.set_cons_zero, List.set_cons_succ, i64_w, i32_w]
      rfl
    refine one_ (i := 15) (N := some 29) #[true, true, true, true, true, true, true, true, true, true, true, true, true, true, true, true, false, false] rfl rfl (one_of HT_.out (by kernel_rfl)) (by decide) (fun K hK => ?_)
    refine goes_ Try.func21 (by kernel_rfl) rfl #[.pointer (some ⟨h, 0, none⟩), .int .i64 a, .int .i64 b, .int .i64 c] (by rfl) rfl rfl (by (try simp only [List.map_toArray, List.map_cons, List.map_nil]); first | done | rfl) ?_
    with_reducible refine (qSet_calls a b c HQ3.out).mono ?_
    rintro e w4 ⟨rfl, hq4, hb4, hk4⟩
    have HX4 := Aside0.mk (hk4.2.1 bx _ _ _ HX3.out (by decide) (by decide))
    have HL4 := Aside0.mk (HL3.out.kept fun i h1 h2 => hk4.2.2 i (by omega) h2)
    have HQ4 := Aside0.mk hq4
    have HB4 := Aside0.mk (below_trans HB3.out (below_lower hb4 (Nat.le_succ_of_le HLG.out)))
    clear hq4 hb4 hk4 HL3 HQ3 HB3 HX3
    refine ⟨_, rfl, ?_⟩
    refine hK.out _ _ ⟨(blk_cell HX4.out 1).trans rfl, (blk_cell HX4.out 2).trans rfl, (blk_cell HX4.out 3).trans rfl⟩ (fun hHeld => ?_)
    clear hK K
    refine norm_ (a' := ?_) ?_ ?_
    rotate_left
    · show Act.put _ (some 29) _ = _
      simp only [Act.put, List.setIfInBounds_toArray, List.set_cons_zero, List.set_cons_succ, i64_w, i32_w]
      rfl
    refine pure_ (i := 16) (N := some 30) (v := ?_) (a' := ?_) #[true, true, true, true, true, true, true, true, true, true, true, true, true, true, true, true, true, false] rfl rfl (any_of HT_.out (by kernel_rfl)) (fun _ _ _ h => h) (Or.inl ⟨by rfl, ?_⟩) ?_ ?_
    rotate_left
    · intro w'
      go_simp
      with_reducible rfl
    rotate_left
    · simp only [Act.put, List.setIfInBounds_toArray, List.set_cons_zero, List.set_cons_succ, i64_w, i32_w]
      rfl
    refine pure_ (i := 17) (N := some 6) (v := ?_) (a' := ?_) #[true, true, true, true, true, true, true, true, true, true, true, true, true, true, true, true, true, true] rfl rfl (any_of HT_.out (by kernel_rfl)) (fun _ _ _ h => h) (Or.inl ⟨by rfl, ?_⟩) ?_ ?_
    rotate_left
    · intro w'
      go_simp
      with_reducible rfl
    rotate_left
    · simp only [Act.put, List.setIfInBounds_toArray, List.set_cons_zero, List.set_cons_succ, i64_w, i32_w]
      rfl
    refine done_ (done_of HT_.out (by kernel_rfl)) ?_
    go_wp2
    go_ret
    exact ⟨by first | rfl | (simp; done), HL4.out, HQ4.out, HB4.out⟩
  have g1 : (k == 1) = false := beq_eq_false_iff_ne.mpr e1
  by_cases e2 : k = 2
  · have g2 : (k == 2) = true := beq_iff_eq.mpr e2
    have hst : doStep s r k a b c = ((takeR s).2.2, (qTake r).2) := by unfold doStep; rw [if_neg e1, if_pos e2]
    rw [hst]
    have HE := Aside0.mk (hres.r2 e2)
    clear hst hres e1 e2
    obtain ⟨⟨t1, t2, t3⟩, ht⟩ : ∃ t, t = takeR s := ⟨_, rfl⟩
    obtain ⟨⟨u1, u2⟩, hu⟩ : ∃ u, u = qTake r := ⟨_, rfl⟩
    have hT : ∀ W : World, IsL lo W g s → Calls Try.prog 15 #[.pointer (some ⟨g, 0, none⟩)] W fun e w' => e = .returned (.tuple #[.int .i64 t1, .bool t2]) ∧ IsL lo w' g t3 ∧ Below lo W w' ∧ KeepL g W w' := by
      intro W hW
      have := Take_calls hW HSO.out.2
      rw [← ht] at this
      exact this
    have hU : ∀ W : World, IsQ (g + 1) W h r → Calls Try.prog 22 #[.pointer (some ⟨h, 0, none⟩)] W fun e w' => e = .returned (.int .i64 u1) ∧ IsQ (g + 1) w' h u2 ∧ Below (g + 1) W w' ∧ KeepR (g + 1) W w' := by
      intro W hW
      have := qTake_calls hW HQO.out.2
      rw [← hu] at this
      exact this
    have he := HE.out
    rw [← ht, ← hu] at he ⊢
    have HT := Aside0.mk hT
    have HU := Aside0.mk hU
    clear hT hU ht hu HE
    rcases he with ⟨rfl, h2, h3⟩ | ⟨rfl, rfl, rfl⟩
    · obtain rfl : t1 = u1 := h2
      have b1 : decide (0 ≤ t1) = true := decide_eq_true h3
      clear h3
      go_enter Try.func8, Try.ntmps8
      go_wp2_with (first | ((with_reducible refine gate_dst (N := 5) rfl ?_); refine box_event ?hg (N := 5) ?hd (cs := #[.int .i64 k, .int .i64 a, .int .i64 b, .int .i64 c]) (t := 31) ?hr ?_; (case hd => rfl); (case hg => rfl); (case hr => first | (go_simp; done) | (go_simp; rfl)); intro bx hg wb hbox hb; have HL1 := Aside0.mk (HL0.out.below hb); have HQ1 := Aside0.mk (HQ0.out.below hb); have HB1 := Aside0.mk hb; have HX := Aside0.mk hbox; have HG := Aside0.mk (show g < bx by rw [hg]; exact HL0.out.lt); have cb0 : wb.cell? ⟨bx, 0, none⟩ = some (.int .i64 k) := (blk_cell hbox 0).trans rfl; have cb1 : wb.cell? ⟨bx, 1, none⟩ = some (.int .i64 a) := (blk_cell hbox 1).trans rfl; have cb2 : wb.cell? ⟨bx, 2, none⟩ = some (.int .i64 b) := (blk_cell hbox 2).trans rfl; have cb3 : wb.cell? ⟨bx, 3, none⟩ = some (.int .i64 c) := (blk_cell hbox 3).trans rfl; clear hbox hb hg HL0 HQ0) | (go_at_call 15; (with_reducible refine (HT.out _ HL1.out).mono ?_); rintro e w3 ⟨rfl, hl3, hb3, hk3⟩; have HQ3 := Aside0.mk (HQ1.out.high fun i h1 h2 => hk3.2 i (by omega) h2); have HL3 := Aside0.mk hl3; have HB3 := Aside0.mk (below_trans (below_lower HB1.out HLO.out) hb3); clear hl3 hb3 hk3 HL1 HQ1 HB1) | (go_at_call 22; (with_reducible refine (HU.out _ HQ3.out).mono ?_); rintro e w4 ⟨rfl, hq4, hb4, hk4⟩; have HL4 := Aside0.mk (HL3.out.kept fun i h1 h2 => hk4.2.2 i (by omega) h2); have HQ4 := Aside0.mk hq4; have HB4 := Aside0.mk (below_trans HB3.out (below_lower hb4 (Nat.le_succ_of_le HLG.out))); clear hq4 hb4 hk4 HL3 HQ3 HB3))
      go_ret
      exact ⟨by first | rfl | (simp; done), HL4.out, HQ4.out, HB4.out⟩
    · go_enter Try.func8, Try.ntmps8
      go_wp2_with (first | ((with_reducible refine gate_dst (N := 5) rfl ?_); refine box_event ?hg (N := 5) ?hd (cs := #[.int .i64 k, .int .i64 a, .int .i64 b, .int .i64 c]) (t := 31) ?hr ?_; (case hd => rfl); (case hg => rfl); (case hr => first | (go_simp; done) | (go_simp; rfl)); intro bx hg wb hbox hb; have HL1 := Aside0.mk (HL0.out.below hb); have HQ1 := Aside0.mk (HQ0.out.below hb); have HB1 := Aside0.mk hb; have HX := Aside0.mk hbox; have HG := Aside0.mk (show g < bx by rw [hg]; exact HL0.out.lt); have cb0 : wb.cell? ⟨bx, 0, none⟩ = some (.int .i64 k) := (blk_cell hbox 0).trans rfl; have cb1 : wb.cell? ⟨bx, 1, none⟩ = some (.int .i64 a) := (blk_cell hbox 1).trans rfl; have cb2 : wb.cell? ⟨bx, 2, none⟩ = some (.int .i64 b) := (blk_cell hbox 2).trans rfl; have cb3 : wb.cell? ⟨bx, 3, none⟩ = some (.int .i64 c) := (blk_cell hbox 3).trans rfl; clear hbox hb hg HL0 HQ0) | (go_at_call 15; (with_reducible refine (HT.out _ HL1.out).mono ?_); rintro e w3 ⟨rfl, hl3, hb3, hk3⟩; have HQ3 := Aside0.mk (HQ1.out.high fun i h1 h2 => hk3.2 i (by omega) h2); have HL3 := Aside0.mk hl3; have HB3 := Aside0.mk (below_trans (below_lower HB1.out HLO.out) hb3); clear hl3 hb3 hk3 HL1 HQ1 HB1) | (go_at_call 22; (with_reducible refine (HU.out _ HQ3.out).mono ?_); rintro e w4 ⟨rfl, hq4, hb4, hk4⟩; have HL4 := Aside0.mk (HL3.out.kept fun i h1 h2 => hk4.2.2 i (by omega) h2); have HQ4 := Aside0.mk hq4; have HB4 := Aside0.mk (below_trans HB3.out (below_lower hb4 (Nat.le_succ_of_le HLG.out))); clear hq4 hb4 hk4 HL3 HQ3 HB3))
      go_ret
      exact ⟨by first | rfl | (simp; done), HL4.out, HQ4.out, HB4.out⟩
  have g2 : (k == 2) = false := beq_eq_false_iff_ne.mpr e2
  by_cases e3 : k = 3
  · have g3 : (k == 3) = true := beq_iff_eq.mpr e3
    have hst : doStep s r k a b c = ((advR s a).2, (qAdv r a).2) := by unfold doStep; rw [if_neg e1, if_neg e2, if_pos e3]
    rw [hst]
    have HE := Aside0.mk (hres.r3 e3)
    clear hst hres e1 e2 e3
    have heq := beq_iff_eq.mpr HE.out
    go_enter Try.func8, Try.ntmps8
    go_wp2_with (first | ((with_reducible refine gate_dst (N := 5) rfl ?_); refine box_event ?hg (N := 5) ?hd (cs := #[.int .i64 k, .int .i64 a, .int .i64 b, .int .i64 c]) (t := 31) ?hr ?_; (case hd => rfl); (case hg => rfl); (case hr => first | (go_simp; done) | (go_simp; rfl)); intro bx hg wb hbox hb; have HL1 := Aside0.mk (HL0.out.below hb); have HQ1 := Aside0.mk (HQ0.out.below hb); have HB1 := Aside0.mk hb; have HX := Aside0.mk hbox; have HG := Aside0.mk (show g < bx by rw [hg]; exact HL0.out.lt); have cb0 : wb.cell? ⟨bx, 0, none⟩ = some (.int .i64 k) := (blk_cell hbox 0).trans rfl; have cb1 : wb.cell? ⟨bx, 1, none⟩ = some (.int .i64 a) := (blk_cell hbox 1).trans rfl; have cb2 : wb.cell? ⟨bx, 2, none⟩ = some (.int .i64 b) := (blk_cell hbox 2).trans rfl; have cb3 : wb.cell? ⟨bx, 3, none⟩ = some (.int .i64 c) := (blk_cell hbox 3).trans rfl; clear hbox hb hg HL0 HQ0))
    refine start_ (n := 10) (S := fun w' => w'.cell? ⟨bx, 1, none⟩ = some (.int .i64 a) ∧ w'.cell? ⟨bx, 2, none⟩ = some (.int .i64 b) ∧ w'.cell? ⟨bx, 3, none⟩ = some (.int .i64 c)) (ds := []) #[false, false, false, false, false, false, false, false, false, false] (by kernel_rfl) rfl rfl (⟨cb1, cb2, cb3⟩) (fun hHeld => ?_); refine with_tabW dox.tab10 dox.bits10 (fun HT_ HW_ => ?_)
    clear cb1 cb2 cb3
    have HL2 := Aside0.mk (HL1.out.below (W1 := wb.drew) (below_drew1 (Below.refl _ _)))
    have HQ2 := Aside0.mk (HQ1.out.below (W1 := wb.drew) (below_drew1 (Below.refl _ _)))
    have HB2 := Aside0.mk (show Below w.heap.size w wb.drew from below_drew1 HB1.out)
    have HX2 := Aside0.mk (blk_drew HX.out)
    clear HL1 HQ1 HB1 HX
    generalize wb.drew = w2 at HL2 HQ2 HB2 HX2 hHeld ⊢
    refine pure_ (i := 0) (N := some 62) (v := ?_) (a' := ?_) #[true, false, false, false, false, false, false, false, false, false] rfl rfl (any_of HT_.out (by kernel_rfl)) (fun _ _ _ h => h) (Or.inl ⟨by rfl, ?_⟩) ?_ ?_
    rotate_left
    · intro w'
      go_simp
      with_reducible rfl
    rotate_left
    · simp only [Act.put, List.setIfInBounds_toArray, List.set_cons_zero, List.set_cons_succ, i64_w, i32_w]
      rfl
    refine pure_ (i := 1) (N := some 63) (v := ?_) (a' := ?_) #[true, true, false, false, false, false, false, false, false, false] rfl rfl (any_of HT_.out (by kernel_rfl)) (fun _ _ _ h => h) (Or.inl ⟨by rfl, ?_⟩) ?_ ?_
    rotate_left
    · intro w'
      go_simp
      with_reducible rfl
    rotate_left
    · simp only [Act.put, List.setIfInBounds_toArray, List.set_cons_zero, List.set_cons_succ, i64_w, i32_w]
      rfl
    refine pure_ (i := 4) (N := some 66) (v := ?_) (a' := ?_) #[true, true, false, false, true, false, false, false, false, false] rfl rfl (any_of HT_.out (by kernel_rfl)) (fun _ _ _ h => h) (Or.inl ⟨by rfl, ?_⟩) ?_ ?_
    rotate_left
    · intro w'
      go_simp
      with_reducible rfl
    rotate_left
    · simp only [Act.put, List.setIfInBounds_toArray, List.set_cons_zero, List.set_cons_succ, i64_w, i32_w]
      rfl
    refine pure_ (i := 5) (N := some 67) (v := ?_) (a' := ?_) #[true, true, false, false, true, true, false, false, false, false] rfl rfl (any_of HT_.out (by kernel_rfl)) (fun _ _ _ h => h) (Or.inl ⟨by rfl, ?_⟩) ?_ ?_
    rotate_left
    · intro w'
      go_simp
      with_reducible rfl
    rotate_left
    · simp only [Act.put, List.setIfInBounds_toArray, List.set_cons_zero, List.set_cons_succ, i64_w, i32_w]
      rfl
    refine take_ (i := 2) (N := some 64) (v := ?_) (a' := ?_) #[true, true, true, false, true, true, false, false, false, false] rfl rfl (take_ofW HT_.out HW_.out (by kernel_rfl)) (fun _ _ _ h => h) (Or.inl ⟨by rfl, ?_⟩) hHeld ?_ ?_
    rotate_left
    · rintro w' ⟨s0, s1, s2⟩
      go_simp
      with_reducible rfl
    rotate_left
    · simp only [Act.put, List.setIfInBounds_toArray, List.set_cons_zero, List.set_cons_succ, i64_w, i32_w]
      rfl
    refine take_ (i := 6) (N := some 68) (v := ?_) (a' := ?_) #[true, true, true, false, true, true, true, false, false, false] rfl rfl (take_ofW HT_.out HW_.out (by kernel_rfl)) (fun _ _ _ h => h) (Or.inl ⟨by rfl, ?_⟩) hHeld ?_ ?_
    rotate_left
    · rintro w' ⟨s0, s1, s2⟩
      go_simp
      with_reducible rfl
    rotate_left
    · simp only [Act.put, List.setIfInBounds_toArray, List.set_cons_zero, List.set_cons_succ, i64_w, i32_w]
      rfl
    refine one_ (i := 3) (N := some 65) #[true, true, true, true, true, true, true, false, false, false] rfl rfl (one_of HT_.out (by kernel_rfl)) (by decide) (fun K hK => ?_)
    refine goes_ Try.func17 (by kernel_rfl) rfl #[.pointer (some ⟨g, 0, none⟩), .int .i64 a] (by rfl) rfl rfl (by (try simp only [List.map_toArray, List.map_cons, List.map_nil]); first | done | rfl) ?_
    with_reducible refine (Advance_calls a HL2.out HSO.out.1 HSO.out.2).mono ?_
    rintro e w3 ⟨rfl, hl3, hb3, hk3⟩
    have HQ3 := Aside0.mk (HQ2.out.high fun i h1 h2 => hk3.2 i (by omega) h2)
    have HX3 := Aside0.mk ((hk3.2 bx HG.out (blk_lt HX2.out)).trans HX2.out)
    have HL3 := Aside0.mk hl3
    have HB3 := Aside0.mk (below_trans (below_lower HB2.out HLO.out) hb3)
    clear hl3 hb3 hk3 HL2 HQ2 HB2 HX2
    refine ⟨_, rfl, ?_⟩
    refine hK.out _ _ ⟨(blk_cell HX3.out 1).trans rfl, (blk_cell HX3.out 2).trans rfl, (blk_cell HX3.out 3).trans rfl⟩ (fun hHeld => ?_)
    clear hK K
    refine norm_ (a' := ?_) ?_ ?_
    rotate_left
    · show Act.put _ (some 65) _ = _
      simp only [Act.put, List.setIfInBounds_toArray, List.set_cons_zero, List.set_cons_succ, i64_w, i32_w]
      rfl
    refine one_ (i := 7) (N := some 69) #[true, true, true, true, true, true, true, true, false, false] rfl rfl (one_of HT_.out (by kernel_rfl)) (by decide) (fun K hK => ?_)
    refine goes_ Try.func23 (by kernel_rfl) rfl #[.pointer (some ⟨h, 0, none⟩), .int .i64 a] (by rfl) rfl rfl (by (try simp only [List.map_toArray, List.map_cons, List.map_nil]); first | done | rfl) ?_
    with_reducible refine (qAdv_calls a HQ3.out).mono ?_
    rintro e w4 ⟨rfl, hq4, hb4, hk4⟩
    have HX4 := Aside0.mk (hk4.2.1 bx _ _ _ HX3.out (by decide) (by decide))
    have HL4 := Aside0.mk (HL3.out.kept fun i h1 h2 => hk4.2.2 i (by omega) h2)
    have HQ4 := Aside0.mk hq4
    have HB4 := Aside0.mk (below_trans HB3.out (below_lower hb4 (Nat.le_succ_of_le HLG.out)))
    clear hq4 hb4 hk4 HL3 HQ3 HB3 HX3
    refine ⟨_, rfl, ?_⟩
    refine hK.out _ _ ⟨(blk_cell HX4.out 1).trans rfl, (blk_cell HX4.out 2).trans rfl, (blk_cell HX4.out 3).trans rfl⟩ (fun hHeld => ?_)
    clear hK K
    refine norm_ (a' := ?_) ?_ ?_
    rotate_left
    · show Act.put _ (some 69) _ = _
      simp only [Act.put, List.setIfInBounds_toArray, List.set_cons_zero, List.set_cons_succ, i64_w, i32_w]
      rfl
    refine pure_ (i := 8) (N := some 70) (v := ?_) (a' := ?_) #[true, true, true, true, true, true, true, true, true, false] rfl rfl (any_of HT_.out (by kernel_rfl)) (fun _ _ _ h => h) (Or.inl ⟨by rfl, ?_⟩) ?_ ?_
    rotate_left
    · intro w'
      go_simp
      with_reducible rfl
    rotate_left
    · simp only [Act.put, List.setIfInBounds_toArray, List.set_cons_zero, List.set_cons_succ, i64_w, i32_w]
      rfl
    refine pure_ (i := 9) (N := some 6) (v := ?_) (a' := ?_) #[true, true, true, true, true, true, true, true, true, true] rfl rfl (any_of HT_.out (by kernel_rfl)) (fun _ _ _ h => h) (Or.inl ⟨by rfl, ?_⟩) ?_ ?_
    rotate_left
    · intro w'
      go_simp
      with_reducible rfl
    rotate_left
    · simp only [Act.put, List.setIfInBounds_toArray, List.set_cons_zero, List.set_cons_succ, i64_w, i32_w]
      rfl
    refine done_ (done_of HT_.out (by kernel_rfl)) ?_
    go_wp2
    go_ret
    exact ⟨by first | rfl | (simp; done), HL4.out, HQ4.out, HB4.out⟩
  have g3 : (k == 3) = false := beq_eq_false_iff_ne.mpr e3
  by_cases e4 : k = 4
  · have g4 : (k == 4) = true := beq_iff_eq.mpr e4
    have hst : doStep s r k a b c = ((endR s 2).2, (qEnd r 2).2) := by unfold doStep; rw [if_neg e1, if_neg e2, if_neg e3, if_pos e4]
    rw [hst]
    have HE := Aside0.mk (hres.r4 e4)
    clear hst hres e1 e2 e3 e4
    have heq := beq_iff_eq.mpr HE.out
    go_enter Try.func8, Try.ntmps8
    go_wp2_with (first | ((with_reducible refine gate_dst (N := 5) rfl ?_); refine box_event ?hg (N := 5) ?hd (cs := #[.int .i64 k, .int .i64 a, .int .i64 b, .int .i64 c]) (t := 31) ?hr ?_; (case hd => rfl); (case hg => rfl); (case hr => first | (go_simp; done) | (go_simp; rfl)); intro bx hg wb hbox hb; have HL1 := Aside0.mk (HL0.out.below hb); have HQ1 := Aside0.mk (HQ0.out.below hb); have HB1 := Aside0.mk hb; have HX := Aside0.mk hbox; have HG := Aside0.mk (show g < bx by rw [hg]; exact HL0.out.lt); have cb0 : wb.cell? ⟨bx, 0, none⟩ = some (.int .i64 k) := (blk_cell hbox 0).trans rfl; have cb1 : wb.cell? ⟨bx, 1, none⟩ = some (.int .i64 a) := (blk_cell hbox 1).trans rfl; have cb2 : wb.cell? ⟨bx, 2, none⟩ = some (.int .i64 b) := (blk_cell hbox 2).trans rfl; have cb3 : wb.cell? ⟨bx, 3, none⟩ = some (.int .i64 c) := (blk_cell hbox 3).trans rfl; clear hbox hb hg HL0 HQ0) | (go_at_call 18; (with_reducible refine (Close_calls HL1.out HSO.out.1 HSO.out.2).mono ?_); rintro e w3 ⟨rfl, hl3, hb3, hk3⟩; have HQ3 := Aside0.mk (HQ1.out.high fun i h1 h2 => hk3.2 i (by omega) h2); have HL3 := Aside0.mk hl3; have HB3 := Aside0.mk (below_trans (below_lower HB1.out HLO.out) hb3); clear hl3 hb3 hk3 HL1 HQ1 HB1) | (go_at_call 24; (with_reducible refine (qEnd_calls 2 HQ3.out HQO.out.1).mono ?_); rintro e w4 ⟨rfl, hq4, hb4, hk4⟩; have HL4 := Aside0.mk (HL3.out.kept fun i h1 h2 => hk4.2.2 i (by omega) h2); have HQ4 := Aside0.mk hq4; have HB4 := Aside0.mk (below_trans HB3.out (below_lower hb4 (Nat.le_succ_of_le HLG.out))); clear hq4 hb4 hk4 HL3 HQ3 HB3))
    go_ret
    exact ⟨by first | rfl | (simp; done), HL4.out, HQ4.out, HB4.out⟩
  have g4 : (k == 4) = false := beq_eq_false_iff_ne.mpr e4
  by_cases e5 : k = 5
  · have g5 : (k == 5) = true := beq_iff_eq.mpr e5
    have hst : doStep s r k a b c = ((endR s 3).2, (qEnd r 3).2) := by unfold doStep; rw [if_neg e1, if_neg e2, if_neg e3, if_neg e4, if_pos e5]
    rw [hst]
    have HE := Aside0.mk (hres.r5 e5)
    clear hst hres e1 e2 e3 e4 e5
    have heq := beq_iff_eq.mpr HE.out
    go_enter Try.func8, Try.ntmps8
    go_wp2_with (first | ((with_reducible refine gate_dst (N := 5) rfl ?_); refine box_event ?hg (N := 5) ?hd (cs := #[.int .i64 k, .int .i64 a, .int .i64 b, .int .i64 c]) (t := 31) ?hr ?_; (case hd => rfl); (case hg => rfl); (case hr => first | (go_simp; done) | (go_simp; rfl)); intro bx hg wb hbox hb; have HL1 := Aside0.mk (HL0.out.below hb); have HQ1 := Aside0.mk (HQ0.out.below hb); have HB1 := Aside0.mk hb; have HX := Aside0.mk hbox; have HG := Aside0.mk (show g < bx by rw [hg]; exact HL0.out.lt); have cb0 : wb.cell? ⟨bx, 0, none⟩ = some (.int .i64 k) := (blk_cell hbox 0).trans rfl; have cb1 : wb.cell? ⟨bx, 1, none⟩ = some (.int .i64 a) := (blk_cell hbox 1).trans rfl; have cb2 : wb.cell? ⟨bx, 2, none⟩ = some (.int .i64 b) := (blk_cell hbox 2).trans rfl; have cb3 : wb.cell? ⟨bx, 3, none⟩ = some (.int .i64 c) := (blk_cell hbox 3).trans rfl; clear hbox hb hg HL0 HQ0) | (go_at_call 19; (with_reducible refine (Fail_calls HL1.out HSO.out.1 HSO.out.2).mono ?_); rintro e w3 ⟨rfl, hl3, hb3, hk3⟩; have HQ3 := Aside0.mk (HQ1.out.high fun i h1 h2 => hk3.2 i (by omega) h2); have HL3 := Aside0.mk hl3; have HB3 := Aside0.mk (below_trans (below_lower HB1.out HLO.out) hb3); clear hl3 hb3 hk3 HL1 HQ1 HB1) | (go_at_call 24; (with_reducible refine (qEnd_calls 3 HQ3.out HQO.out.1).mono ?_); rintro e w4 ⟨rfl, hq4, hb4, hk4⟩; have HL4 := Aside0.mk (HL3.out.kept fun i h1 h2 => hk4.2.2 i (by omega) h2); have HQ4 := Aside0.mk hq4; have HB4 := Aside0.mk (below_trans HB3.out (below_lower hb4 (Nat.le_succ_of_le HLG.out))); clear hq4 hb4 hk4 HL3 HQ3 HB3))
    go_ret
    exact ⟨by first | rfl | (simp; done), HL4.out, HQ4.out, HB4.out⟩
  have g5 : (k == 5) = false := beq_eq_false_iff_ne.mpr e5
  by_cases e6 : k = 6
  · have g6 : (k == 6) = true := beq_iff_eq.mpr e6
    have hst : doStep s r k a b c = ((freeR s a).2, (qFree r a).2) := by unfold doStep; rw [if_neg e1, if_neg e2, if_neg e3, if_neg e4, if_neg e5, if_pos e6]
    rw [hst]
    have HE := Aside0.mk (hres.r6 e6)
    clear hst hres e1 e2 e3 e4 e5 e6
    have heq := beq_iff_eq.mpr HE.out
    go_enter Try.func8, Try.ntmps8
    go_wp2_with (first | ((with_reducible refine gate_dst (N := 5) rfl ?_); refine box_event ?hg (N := 5) ?hd (cs := #[.int .i64 k, .int .i64 a, .int .i64 b, .int .i64 c]) (t := 31) ?hr ?_; (case hd => rfl); (case hg => rfl); (case hr => first | (go_simp; done) | (go_simp; rfl)); intro bx hg wb hbox hb; have HL1 := Aside0.mk (HL0.out.below hb); have HQ1 := Aside0.mk (HQ0.out.below hb); have HB1 := Aside0.mk hb; have HX := Aside0.mk hbox; have HG := Aside0.mk (show g < bx by rw [hg]; exact HL0.out.lt); have cb0 : wb.cell? ⟨bx, 0, none⟩ = some (.int .i64 k) := (blk_cell hbox 0).trans rfl; have cb1 : wb.cell? ⟨bx, 1, none⟩ = some (.int .i64 a) := (blk_cell hbox 1).trans rfl; have cb2 : wb.cell? ⟨bx, 2, none⟩ = some (.int .i64 b) := (blk_cell hbox 2).trans rfl; have cb3 : wb.cell? ⟨bx, 3, none⟩ = some (.int .i64 c) := (blk_cell hbox 3).trans rfl; clear hbox hb hg HL0 HQ0))
    refine start_ (n := 10) (S := fun w' => w'.cell? ⟨bx, 1, none⟩ = some (.int .i64 a) ∧ w'.cell? ⟨bx, 2, none⟩ = some (.int .i64 b) ∧ w'.cell? ⟨bx, 3, none⟩ = some (.int .i64 c)) (ds := []) #[false, false, false, false, false, false, false, false, false, false] (by kernel_rfl) rfl rfl (⟨cb1, cb2, cb3⟩) (fun hHeld => ?_); refine with_tabW dox.tab16 dox.bits16 (fun HT_ HW_ => ?_)
    clear cb1 cb2 cb3
    have HL2 := Aside0.mk (HL1.out.below (W1 := wb.drew) (below_drew1 (Below.refl _ _)))
    have HQ2 := Aside0.mk (HQ1.out.below (W1 := wb.drew) (below_drew1 (Below.refl _ _)))
    have HB2 := Aside0.mk (show Below w.heap.size w wb.drew from below_drew1 HB1.out)
    have HX2 := Aside0.mk (blk_drew HX.out)
    clear HL1 HQ1 HB1 HX
    generalize wb.drew = w2 at HL2 HQ2 HB2 HX2 hHeld ⊢
    refine pure_ (i := 0) (N := some 87) (v := ?_) (a' := ?_) #[true, false, false, false, false, false, false, false, false, false] rfl rfl (any_of HT_.out (by kernel_rfl)) (fun _ _ _ h => h) (Or.inl ⟨by rfl, ?_⟩) ?_ ?_
    rotate_left
    · intro w'
      go_simp
      with_reducible rfl
    rotate_left
    · simp only [Act.put, List.setIfInBounds_toArray, List.set_cons_zero, List.set_cons_succ, i64_w, i32_w]
      rfl
    refine pure_ (i := 1) (N := some 88) (v := ?_) (a' := ?_) #[true, true, false, false, false, false, false, false, false, false] rfl rfl (any_of HT_.out (by kernel_rfl)) (fun _ _ _ h => h) (Or.inl ⟨by rfl, ?_⟩) ?_ ?_
    rotate_left
    · intro w'
      go_simp
      with_reducible rfl
    rotate_left
    · simp only [Act.put, List.setIfInBounds_toArray, List.set_cons_zero, List.set_cons_succ, i64_w, i32_w]
      rfl
    refine pure_ (i := 4) (N := some 91) (v := ?_) (a' := ?_) #[true, true, false, false, true, false, false, false, false, false] rfl rfl (any_of HT_.out (by kernel_rfl)) (fun _ _ _ h => h) (Or.inl ⟨by rfl, ?_⟩) ?_ ?_
    rotate_left
    · intro w'
      go_simp
      with_reducible rfl
    rotate_left
    · simp only [Act.put, List.setIfInBounds_toArray, List.set_cons_zero, List.set_cons_succ, i64_w, i32_w]
      rfl
    refine pure_ (i := 5) (N := some 92) (v := ?_) (a' := ?_) #[true, true, false, false, true, true, false, false, false, false] rfl rfl (any_of HT_.out (by kernel_rfl)) (fun _ _ _ h => h) (Or.inl ⟨by rfl, ?_⟩) ?_ ?_
    rotate_left
    · intro w'
      go_simp
      with_reducible rfl
    rotate_left
    · simp only [Act.put, List.setIfInBounds_toArray, List.set_cons_zero, List.set_cons_succ, i64_w, i32_w]
      rfl
    refine take_ (i := 2) (N := some 89) (v := ?_) (a' := ?_) #[true, true, true, false, true, true, false, false, false, false] rfl rfl (take_ofW HT_.out HW_.out (by kernel_rfl)) (fun _ _ _ h => h) (Or.inl ⟨by rfl, ?_⟩) hHeld ?_ ?_
    rotate_left
    · rintro w' ⟨s0, s1, s2⟩
      go_simp
      with_reducible rfl
    rotate_left
    · simp only [Act.put, List.setIfInBounds_toArray, List.set_cons_zero, List.set_cons_succ, i64_w, i32_w]
      rfl
    refine take_ (i := 6) (N := some 93) (v := ?_) (a' := ?_) #[true, true, true, false, true, true, true, false, false, false] rfl rfl (take_ofW HT_.out HW_.out (by kernel_rfl)) (fun _ _ _ h => h) (Or.inl ⟨by rfl, ?_⟩) hHeld ?_ ?_
    rotate_left
    · rintro w' ⟨s0, s1, s2⟩
      go_simp
      with_reducible rfl
    rotate_left
    · simp only [Act.put, List.setIfInBounds_toArray, List.set_cons_zero, List.set_cons_succ, i64_w, i32_w]
      rfl
    refine one_ (i := 3) (N := some 90) #[true, true, true, true, true, true, true, false, false, false] rfl rfl (one_of HT_.out (by kernel_rfl)) (by decide) (fun K hK => ?_)
    refine goes_ Try.func20 (by kernel_rfl) rfl #[.pointer (some ⟨g, 0, none⟩), .int .i64 a] (by rfl) rfl rfl (by (try simp only [List.map_toArray, List.map_cons, List.map_nil]); first | done | rfl) ?_
    with_reducible refine (Free_calls a HL2.out).mono ?_
    rintro e w3 ⟨rfl, hl3, hb3, hk3⟩
    have HQ3 := Aside0.mk (HQ2.out.high fun i h1 h2 => hk3.2 i (by omega) h2)
    have HX3 := Aside0.mk ((hk3.2 bx HG.out (blk_lt HX2.out)).trans HX2.out)
    have HL3 := Aside0.mk hl3
    have HB3 := Aside0.mk (below_trans (below_lower HB2.out HLO.out) hb3)
    clear hl3 hb3 hk3 HL2 HQ2 HB2 HX2
    refine ⟨_, rfl, ?_⟩
    refine hK.out _ _ ⟨(blk_cell HX3.out 1).trans rfl, (blk_cell HX3.out 2).trans rfl, (blk_cell HX3.out 3).trans rfl⟩ (fun hHeld => ?_)
    clear hK K
    refine norm_ (a' := ?_) ?_ ?_
    rotate_left
    · show Act.put _ (some 90) _ = _
      simp only [Act.put, List.setIfInBounds_toArray, List.set_cons_zero, List.set_cons_succ, i64_w, i32_w]
      rfl
    refine one_ (i := 7) (N := some 94) #[true, true, true, true, true, true, true, true, false, false] rfl rfl (one_of HT_.out (by kernel_rfl)) (by decide) (fun K hK => ?_)
    refine goes_ Try.func25 (by kernel_rfl) rfl #[.pointer (some ⟨h, 0, none⟩), .int .i64 a] (by rfl) rfl rfl (by (try simp only [List.map_toArray, List.map_cons, List.map_nil]); first | done | rfl) ?_
    with_reducible refine (qFree_calls a HQ3.out).mono ?_
    rintro e w4 ⟨rfl, hq4, hb4, hk4⟩
    have HX4 := Aside0.mk (hk4.2.1 bx _ _ _ HX3.out (by decide) (by decide))
    have HL4 := Aside0.mk (HL3.out.kept fun i h1 h2 => hk4.2.2 i (by omega) h2)
    have HQ4 := Aside0.mk hq4
    have HB4 := Aside0.mk (below_trans HB3.out (below_lower hb4 (Nat.le_succ_of_le HLG.out)))
    clear hq4 hb4 hk4 HL3 HQ3 HB3 HX3
    refine ⟨_, rfl, ?_⟩
    refine hK.out _ _ ⟨(blk_cell HX4.out 1).trans rfl, (blk_cell HX4.out 2).trans rfl, (blk_cell HX4.out 3).trans rfl⟩ (fun hHeld => ?_)
    clear hK K
    refine norm_ (a' := ?_) ?_ ?_
    rotate_left
    · show Act.put _ (some 94) _ = _
      simp only [Act.put, List.setIfInBounds_toArray, List.set_cons_zero, List.set_cons_succ, i64_w, i32_w]
      rfl
    refine pure_ (i := 8) (N := some 95) (v := ?_) (a' := ?_) #[true, true, true, true, true, true, true, true, true, false] rfl rfl (any_of HT_.out (by kernel_rfl)) (fun _ _ _ h => h) (Or.inl ⟨by rfl, ?_⟩) ?_ ?_
    rotate_left
    · intro w'
      go_simp
      with_reducible rfl
    rotate_left
    · simp only [Act.put, List.setIfInBounds_toArray, List.set_cons_zero, List.set_cons_succ, i64_w, i32_w]
      rfl
    refine pure_ (i := 9) (N := some 6) (v := ?_) (a' := ?_) #[true, true, true, true, true, true, true, true, true, true] rfl rfl (any_of HT_.out (by kernel_rfl)) (fun _ _ _ h => h) (Or.inl ⟨by rfl, ?_⟩) ?_ ?_
    rotate_left
    · intro w'
      go_simp
      with_reducible rfl
    rotate_left
    · simp only [Act.put, List.setIfInBounds_toArray, List.set_cons_zero, List.set_cons_succ, i64_w, i32_w]
      rfl
    refine done_ (done_of HT_.out (by kernel_rfl)) ?_
    go_wp2
    go_ret
    exact ⟨by first | rfl | (simp; done), HL4.out, HQ4.out, HB4.out⟩
  have g6 : (k == 6) = false := beq_eq_false_iff_ne.mpr e6
  rw [show doStep s r k a b c = (s, r) by unfold doStep; rw [if_neg e1, if_neg e2, if_neg e3, if_neg e4, if_neg e5, if_neg e6]]
  clear hres e1 e2 e3 e4 e5 e6
  go_enter Try.func8, Try.ntmps8
  go_wp2_with (first | ((with_reducible refine gate_dst (N := 5) rfl ?_); refine box_event ?hg (N := 5) ?hd (cs := #[.int .i64 k, .int .i64 a, .int .i64 b, .int .i64 c]) (t := 31) ?hr ?_; (case hd => rfl); (case hg => rfl); (case hr => first | (go_simp; done) | (go_simp; rfl)); intro bx hg wb hbox hb; have HL1 := Aside0.mk (HL0.out.below hb); have HQ1 := Aside0.mk (HQ0.out.below hb); have HB1 := Aside0.mk hb; have HX := Aside0.mk hbox; have HG := Aside0.mk (show g < bx by rw [hg]; exact HL0.out.lt); have cb0 : wb.cell? ⟨bx, 0, none⟩ = some (.int .i64 k) := (blk_cell hbox 0).trans rfl; have cb1 : wb.cell? ⟨bx, 1, none⟩ = some (.int .i64 a) := (blk_cell hbox 1).trans rfl; have cb2 : wb.cell? ⟨bx, 2, none⟩ = some (.int .i64 b) := (blk_cell hbox 2).trans rfl; have cb3 : wb.cell? ⟨bx, 3, none⟩ = some (.int .i64 c) := (blk_cell hbox 3).trans rfl; clear hbox hb hg HL0 HQ0))
  go_ret
  exact ⟨by first | rfl | (simp; done), HL1.out, HQ1.out, below_lower HB1.out HLO.out⟩
end Go.Proofs.Ytpjmmmgjiaallaa.M
