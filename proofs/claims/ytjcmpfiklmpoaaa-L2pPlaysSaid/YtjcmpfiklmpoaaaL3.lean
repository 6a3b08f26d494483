/-
  l2p's function Drop: what it answers, told of the state.
-/
import Derived.Test.YtjcmpfiklmpoaaaL2
namespace Go.Proofs.Ytjcmpfiklmpoaaa.M
open Go.RowKit Go.Maps Go.Proofs.YtjcmpfiklmpoaaaW.PrintWords Go.Proofs.YtjcmpfiklmpoaaaW.PrintLast Go.Proofs.YtjcmpfiklmpoaaaW.PrintMore
set_option linter.unusedVariables false
set_option linter.unusedSimpArgs false
/-- what is left when a sector that stands in row r goes -/
def gone (s : St) (a r : Int) : St := { s with f := fun x => if x = a then none else s.f x, g := fun x => if x = r then none else s.g x, n := s.n - 1, V := s.V.set (r / s.pages).toNat (wrap64 (rdV s.V (r / s.pages) - 1)) }
def l2p_Map_Drop.f (s : St) (a1 : Int) : Option (Bool × St) :=
  if -9223372036854775808 ≤ a1 ∧ a1 ≤ 9223372036854775807 then
    match s.f a1 with
    | none => some (false, s)
    | some r => if (1 ≤ s.pages ∧ s.pages ≤ 64) ∧ (0 ≤ r ∧ r ≤ 1000000) ∧ r / s.pages < (s.V.length : Int) then some (true, gone s a1 r) else none
  else none
theorem At.gb0 {w0 W : World} {g b0 b1 gv : Nat} {R S : Dm} {s : St} (h : At w0 W g b0 b1 gv R S s) : b0 ≠ g ∧ b1 ≠ g ∧ b0 ≠ gv ∧ b1 ≠ gv ∧ g ≠ gv := by
  obtain ⟨_, _, k0⟩ := own_blk h.oR
  obtain ⟨_, _, k1⟩ := own_blk h.oS
  exact ⟨map_ne_cells k0 h.blk, map_ne_cells k1 h.blk, map_ne_cells k0 h.row, map_ne_cells k1 h.row, cells_ty h.blk h.row (by decide)⟩
theorem KeepT.turn {g : Nat} {w w1 w2 : World} {b : Nat} (h : KeepT g w w1) (t : w1.mapTurned w2 b) (hg : b < g) : KeepT g w w2 := by
  refine ⟨Nat.le_trans h.1 t.grown.size, fun i cs ty fr hb h1 h2 => ?_, fun i hi hl => ?_⟩
  · have k := h.blk hb h1 h2
    obtain ⟨es, clock, _, _, hm, _⟩ := id t
    exact blk_grown k t.grown (by
      intro e
      injection e with e
      exact map_ne_cells hm k e.symm)
  · refine (t.grown.block i (Nat.lt_of_lt_of_le hl h.1) (by
      intro e
      injection e with e
      omega)).trans (h.2.2 i hi hl)
theorem KeepT.put {g : Nat} {w w1 : World} (h : KeepT g w w1) {gv : Nat} {cs : Array Value} {fr : Nat × Nat} (hb : w1.heap[gv]? = some (.cells cs 3 fr)) (hg : gv < g) (j : Nat) (u : Value) : KeepT g w (w1.setCell ⟨gv, j, none⟩ u) := by
  refine ⟨by simpa [World.setCell] using h.1, fun i cs' ty fr' hi h1 h2 => ?_, fun i hi hl => ?_⟩
  · have k := h.blk hi h1 h2
    exact (Below.heap_setCell w1 ⟨gv, j, none⟩ u i (cells_ty k hb (Ne.symm h2))).trans k
  · exact (Below.heap_setCell w1 ⟨gv, j, none⟩ u i (show i ≠ gv by omega)).trans (h.2.2 i hi hl)
theorem below_turn {a w w' : World} {b : Nat} (h : Below a.heap.size a w) (t : w.mapTurned w' b) (hb : a.heap.size ≤ b) : Below a.heap.size a w' := h.grown t.grown h.size (by
  intro k hk
  injection hk with hk
  omega)
theorem vals_set (V : List Int) (i : Nat) (x : Int) : (vals V).setIfInBounds i (.int .i64 x) = vals (V.set i x) := by
  unfold vals
  simp [List.map_set]
def l2p_Map_Drop.T5 : Bool × List (List Nat × List Nat) := (true, [([], []), ([0], [0]), ([1], [1]), ([2], [2]), ([], []), ([], []), ([5], [5]), ([6], [6]), ([7], [7]), ([4, 8], [4, 8]), ([3, 9], [3, 9]), ([10], [10]), ([11], [11]), ([3, 9, 0, 1, 2, 3, 4, 5, 6, 7, 8, 9, 10, 11, 12], [3, 9]), ([13, 12, 0, 1, 2, 3, 4, 5, 6, 7, 8, 9, 10, 11, 12], [12, 13])])
def l2p_Map_Drop.B5 : List Nat := [0, 1, 3, 7, 0, 0, 32, 96, 224, 496, 1023, 2047, 4095, 8191, 16383]
theorem l2p_Map_Drop.tab5 : rtab .any (opsOf Try.f11 5) = l2p_Map_Drop.T5 := by kernel_rfl
theorem l2p_Map_Drop.bits5 : waitsOk l2p_Map_Drop.T5.2 l2p_Map_Drop.B5 = true := by kernel_rfl
set_option maxHeartbeats 8000000 in
set_option maxRecDepth 100000 in
theorem l2p_Map_Drop.calls (g : Nat) (s0_0 : St) (a1 : Int) (r1 : Bool) (r2 : St) (w0 w : World) (hI : IsS49 w0 w g s0_0) (hB : Below w0.heap.size w0 w) (h : l2p_Map_Drop.f s0_0 a1 = some (r1, r2)) :
    Calls Try.prog 11 #[.pointer (some ⟨g, 0, none⟩), .int .i64 a1] w fun e w' => e = .returned (.bool r1) ∧ IsS49 w0 w' g r2 ∧ Below w0.heap.size w0 w' ∧ KeepT g w w' := by
  unfold l2p_Map_Drop.f at h
  split at h
  · rename_i ha
    have hI' := hI
    obtain ⟨b0, b1, gv, R, S, hA⟩ := hI
    obtain ⟨e1, e2, e3, e4, e5⟩ := hA.gb0
    cases hf : s0_0.f a1 with
    | none =>
      rw [hf] at h
      simp only [Option.some.injEq, Prod.mk.injEq] at h
      obtain ⟨rfl, rfl⟩ := h
      go_enter Try.func11, Try.ntmps11
      go_wp2_with (first
        | (go_at_call 13; (with_reducible refine (l2p_Row_drawn (w0 := w0) (s := s0_0) a1 (by repeat (first | exact hI' | apply IsS49.drew)) ha).mono ?_); rintro e w' ⟨rfl, ⟨nd, rfl⟩⟩; rw [hf]))
      go_ret
      exact ⟨by first | rfl | (simp; done), hI'.drewN nd, pw_below_drewN hB nd, (KeepT.refl g w).drewN nd⟩
    | some r =>
      rw [hf] at h
      simp only at h
      split at h
      · rename_i hc
        simp only [Option.some.injEq, Prod.mk.injEq] at h
        obtain ⟨rfl, rfl⟩ := h
        obtain ⟨⟨p0, p1⟩, ⟨p2, p3⟩, p4⟩ := hc
        have hwr : (Lit.int .i64 r).wf = true := wf_of (by omega)
        have hkey := keyOf_int_mk Try.underlying3 (wf_of ha)
        have hkeyr := keyOf_int_mk Try.underlying3 hwr
        have c0 : w.cell? ⟨g, 0, none⟩ = some (.map (some b0)) := (blk_cell hA.blk 0).trans rfl
        have f0 := blk_frozen hA.blk 0
        go_enter Try.func11, Try.ntmps11
        go_wp2_with (first
          | (go_at_call 13; (with_reducible refine (l2p_Row_drawn (w0 := w0) (s := s0_0) a1 (by repeat (first | exact hI' | apply IsS49.drew)) ha).mono ?_); rintro e w' ⟨rfl, ⟨nd, rfl⟩⟩; rw [hf])
          | (at_delete; refine wpList_delete_own _ rfl _ _ 47 3 rfl 3 key3 Try.underlying47 _ b0 s0_0.c R rfl (own_of_block hA.oR rfl) _ _ rfl hkey ?_; intro w1 hown1 hturn1; have hb1 := blk_grown (w := w.drewN nd) hA.blk hturn1.grown (by simpa using Ne.symm e1); have hr1 := blk_grown (w := w.drewN nd) hA.row hturn1.grown (by simpa using Ne.symm e3); have hS1 : Own w1 b1 s0_0.c S := (show Own (w.drewN nd) b1 s0_0.c S from own_of_block hA.oS rfl).kept hturn1.grown (by simpa using Ne.symm hA.ne); clear c0 f0; have c1 : w1.cell? ⟨g, 1, none⟩ = some (.map (some b1)) := (blk_cell hb1 1).trans rfl; have f1 := blk_frozen hb1 1)
          | (at_delete; refine wpList_delete_own _ rfl _ _ 47 3 rfl 3 key3 Try.underlying47 _ b1 s0_0.c S rfl hS1 _ _ rfl hkeyr ?_; intro w2 hown2 hturn2; have hb2 := blk_grown hb1 hturn2.grown (by simpa using Ne.symm e2); have hr2 := blk_grown hr1 hturn2.grown (by simpa using Ne.symm e4); have hR2 : Own w2 b0 s0_0.c _ := hown1.kept hturn2.grown (by simpa using hA.ne); clear c1 f1))
        have hsz : Maps.size (R.del (.int .i64 a1)) = s0_0.n - 1 := by
          have hsd := size_del (k := .int .i64 a1) (hA.oR.tidy key3)
          rw [hA.size, (hA.rR a1).1, hf] at hsd
          simp at hsd
          omega
        have hA3 : At w0 w2.drew g b0 b1 gv (R.del (.int .i64 a1)) (S.del (.int .i64 r)) { gone s0_0 a1 r with V := s0_0.V } :=
          ⟨hb2, hr2, own_of_block hR2 rfl, own_of_block hown2 rfl, hsz, hA.rR.del a1, hA.rS.del r, hA.ne, hA.gg, hA.g0, hA.g1, hA.g2, hA.lo⟩
        have hK3 : KeepT g w w2.drew := ((((KeepT.refl g w).drewN nd).turn hturn1 hA.lo.1).turn hturn2 hA.lo.2.1).drew
        have hB3 : Below w0.heap.size w0 w2.drew := below_drew1 (below_turn (below_turn (pw_below_drewN hB nd) hturn1 hA.g0) hturn2 hA.g1)
        obtain ⟨q, hqe⟩ : ∃ q, q = r / s0_0.pages := ⟨_, rfl⟩
        have q0 : 0 ≤ q := hqe ▸ Int.ediv_nonneg p2 (by omega)
        have q1 : q < (s0_0.V.length : Int) := hqe ▸ p4
        have hq : IntKind.i64.wrap (Int.tdiv r s0_0.pages) = q := by
          have : r / s0_0.pages ≤ r := Int.ediv_le_self _ p2
          rw [Int.tdiv_eq_ediv_of_nonneg p2, IntKind.wrap_i64, hqe]
          omega
        have hq' : wrap64 (Int.tdiv r s0_0.pages) = q := by
          have : r / s0_0.pages ≤ r := Int.ediv_le_self _ p2
          rw [Int.tdiv_eq_ediv_of_nonneg p2, hqe]
          unfold wrap64
          omega
        have hz : (s0_0.pages == 0) = false := by simp; omega
        have hz' : s0_0.pages ≠ 0 := by omega
        have c2 : w2.cell? ⟨g, 2, none⟩ = some (.slice (some ⟨gv, 0, none⟩) s0_0.V.length s0_0.V.length) := (blk_cell hb2 2).trans rfl
        have c4 : w2.cell? ⟨g, 4, none⟩ = some (.int .i64 s0_0.pages) := (blk_cell hb2 4).trans rfl
        have f2 := blk_frozen hb2 2
        have f4 := blk_frozen hb2 4
        have cv := vals_at hr2 q0 q1
        have fv := blk_frozen hr2 q.toNat
        have hQ := Aside0.mk hqe
        clear hqe
        clear hown1 hown2 hturn1 hturn2 hb1 hb2 hr1 hr2 hS1 hR2 hsz
        replace q0 := eq_true q0
        replace q1 := eq_true q1
        refine start_ (n := 15) (S := fun w' => w'.cell? ⟨g, 2, none⟩ = some (.slice (some ⟨gv, 0, none⟩) s0_0.V.length s0_0.V.length) ∧ w'.cell? ⟨g, 4, none⟩ = some (.int .i64 s0_0.pages) ∧ w'.cell? ⟨gv, q.toNat, none⟩ = some (.int .i64 (rdV s0_0.V q))) (ds := [14]) #[false, false, false, false, false, false, false, false, false, false, false, false, false, false, false] (by kernel_rfl) rfl rfl (⟨c2, c4, cv⟩) (fun hHeld => ?_); refine with_tabW l2p_Map_Drop.tab5 l2p_Map_Drop.bits5 (fun HT_ HW_ => ?_)
        clear c2 c4 cv f2 f4 fv
        generalize w2.drew = w3 at hA3 hK3 hB3 hHeld ⊢
        have fv := blk_frozen hA3.row q.toNat
        have cv := hHeld.2.2
        refine pure_ (i := 0) (N := some 24) (v := ?_) (a' := ?_) #[true, false, false, false, false, false, false, false, false, false, false, false, false, false, false] rfl rfl (any_of HT_.out (by kernel_rfl)) (fun _ _ _ h => h) (Or.inl ⟨by rfl, ?_⟩) ?_ ?_
        rotate_left
        · intro w'
          go_simp
          with_reducible rfl
        rotate_left
        · simp only [Act.put, List.setIfInBounds_toArray, List.set_cons_zero, List.set_cons_succ, i64_w, i32_w]
          rfl
        refine pure_ (i := 1) (N := some 25) (v := ?_) (a' := ?_) #[true, true, false, false, false, false, false, false, false, false, false, false, false, false, false] rfl rfl (any_of HT_.out (by kernel_rfl)) (fun _ _ _ h => h) (Or.inl ⟨by rfl, ?_⟩) ?_ ?_
        rotate_left
        · intro w'
          go_simp
          with_reducible rfl
        rotate_left
        · simp only [Act.put, List.setIfInBounds_toArray, List.set_cons_zero, List.set_cons_succ, i64_w, i32_w]
          rfl
        refine pure_ (i := 2) (N := some 26) (v := ?_) (a' := ?_) #[true, true, true, false, false, false, false, false, false, false, false, false, false, false, false] rfl rfl (any_of HT_.out (by kernel_rfl)) (fun _ _ _ h => h) (Or.inl ⟨by rfl, ?_⟩) ?_ ?_
        rotate_left
        · intro w'
          go_simp
          with_reducible rfl
        rotate_left
        · simp only [Act.put, List.setIfInBounds_toArray, List.set_cons_zero, List.set_cons_succ, i64_w, i32_w]
          rfl
        refine pure_ (i := 4) (N := some 28) (v := ?_) (a' := ?_) #[true, true, true, false, true, false, false, false, false, false, false, false, false, false, false] rfl rfl (any_of HT_.out (by kernel_rfl)) (fun _ _ _ h => h) (Or.inl ⟨by rfl, ?_⟩) ?_ ?_
        rotate_left
        · intro w'
          go_simp
          with_reducible rfl
        rotate_left
        · simp only [Act.put, List.setIfInBounds_toArray, List.set_cons_zero, List.set_cons_succ, i64_w, i32_w]
          rfl
        refine pure_ (i := 5) (N := some 29) (v := ?_) (a' := ?_) #[true, true, true, false, true, true, false, false, false, false, false, false, false, false, false] rfl rfl (any_of HT_.out (by kernel_rfl)) (fun _ _ _ h => h) (Or.inl ⟨by rfl, ?_⟩) ?_ ?_
        rotate_left
        · intro w'
          go_simp
          with_reducible rfl
        rotate_left
        · simp only [Act.put, List.setIfInBounds_toArray, List.set_cons_zero, List.set_cons_succ, i64_w, i32_w]
          rfl
        refine pure_ (i := 6) (N := some 30) (v := ?_) (a' := ?_) #[true, true, true, false, true, true, true, false, false, false, false, false, false, false, false] rfl rfl (any_of HT_.out (by kernel_rfl)) (fun _ _ _ h => h) (Or.inl ⟨by rfl, ?_⟩) ?_ ?_
        rotate_left
        · intro w'
          go_simp
          with_reducible rfl
        rotate_left
        · simp only [Act.put, List.setIfInBounds_toArray, List.set_cons_zero, List.set_cons_succ, i64_w, i32_w]
          rfl
        refine pure_ (i := 7) (N := some 31) (v := ?_) (a' := ?_) #[true, true, true, false, true, true, true, true, false, false, false, false, false, false, false] rfl rfl (any_of HT_.out (by kernel_rfl)) (fun _ _ _ h => h) (Or.inl ⟨by rfl, ?_⟩) ?_ ?_
        rotate_left
        · intro w'
          go_simp
          with_reducible rfl
        rotate_left
        · simp only [Act.put, List.setIfInBounds_toArray, List.set_cons_zero, List.set_cons_succ, i64_w, i32_w]
          rfl
        refine take_ (i := 3) (N := some 27) (v := ?_) (a' := ?_) #[true, true, true, true, true, true, true, true, false, false, false, false, false, false, false] rfl rfl (take_ofW HT_.out HW_.out (by kernel_rfl)) (fun _ _ _ h => h) (Or.inl ⟨by rfl, ?_⟩) hHeld ?_ ?_
        rotate_left
        · rintro w' ⟨s0, s1, s2⟩
          go_simp
          with_reducible rfl
        rotate_left
        · simp only [Act.put, List.setIfInBounds_toArray, List.set_cons_zero, List.set_cons_succ, i64_w, i32_w]
          rfl
        refine take_ (i := 8) (N := some 32) (v := ?_) (a' := ?_) #[true, true, true, true, true, true, true, true, true, false, false, false, false, false, false] rfl rfl (take_ofW HT_.out HW_.out (by kernel_rfl)) (fun _ _ _ h => h) (Or.inl ⟨by rfl, ?_⟩) hHeld ?_ ?_
        rotate_left
        · rintro w' ⟨s0, s1, s2⟩
          go_simp
          with_reducible rfl
        rotate_left
        · simp only [Act.put, List.setIfInBounds_toArray, List.set_cons_zero, List.set_cons_succ, i64_w, i32_w]
          rfl
        refine pure_ (i := 9) (N := some 33) (v := ?_) (a' := ?_) #[true, true, true, true, true, true, true, true, true, true, false, false, false, false, false] rfl rfl (any_of HT_.out (by kernel_rfl)) (fun _ _ _ h => h) (Or.inl ⟨by rfl, ?_⟩) ?_ ?_
        rotate_left
        · intro w'
          go_simp
          with_reducible rfl
        rotate_left
        · simp only [Act.put, List.setIfInBounds_toArray, List.set_cons_zero, List.set_cons_succ, i64_w, i32_w]
          rfl
        refine pure_ (i := 10) (N := some 34) (v := ?_) (a' := ?_) #[true, true, true, true, true, true, true, true, true, true, true, false, false, false, false] rfl rfl (any_of HT_.out (by kernel_rfl)) (fun _ _ _ h => h) (Or.inl ⟨by rfl, ?_⟩) ?_ ?_
        rotate_left
        · intro w'
          go_simp
          with_reducible rfl
        rotate_left
        · simp only [Act.put, List.setIfInBounds_toArray, List.set_cons_zero, List.set_cons_succ, i64_w, i32_w]
          rfl
        refine take_ (i := 11) (N := some 35) (v := ?_) (a' := ?_) #[true, true, true, true, true, true, true, true, true, true, true, true, false, false, false] rfl rfl (take_ofW HT_.out HW_.out (by kernel_rfl)) (fun _ _ _ h => h) (Or.inl ⟨by rfl, ?_⟩) hHeld ?_ ?_
        rotate_left
        · rintro w' ⟨s0, s1, s2⟩
          go_simp
          with_reducible rfl
        rotate_left
        · simp only [Act.put, List.setIfInBounds_toArray, List.set_cons_zero, List.set_cons_succ, i64_w, i32_w]
          rfl
        refine pure_ (i := 12) (N := some 36) (v := ?_) (a' := ?_) #[true, true, true, true, true, true, true, true, true, true, true, true, true, false, false] rfl rfl (any_of HT_.out (by kernel_rfl)) (fun _ _ _ h => h) (Or.inl ⟨by rfl, ?_⟩) ?_ ?_
        rotate_left
        · intro w'
          go_simp
          with_reducible rfl
        rotate_left
        · simp only [Act.put, List.setIfInBounds_toArray, List.set_cons_zero, List.set_cons_succ, i64_w, i32_w]
          rfl
        refine pure_ (i := 13) (N := some 37) (v := ?_) (a' := ?_) #[true, true, true, true, true, true, true, true, true, true, true, true, true, true, false] rfl rfl (any_of HT_.out (by kernel_rfl)) (fun _ _ _ h => h) (Or.inl ⟨by rfl, ?_⟩) ?_ ?_
        rotate_left
        · intro w'
          go_simp
          with_reducible rfl
        rotate_left
        · simp only [Act.put, List.setIfInBounds_toArray, List.set_cons_zero, List.set_cons_succ, i64_w, i32_w]
          rfl
        refine last_ (i := 14) (N := none) #[true, true, true, true, true, true, true, true, true, true, true, true, true, true, true] rfl rfl (one_of HT_.out (by kernel_rfl)) (by decide) (fun K hK => ?_)
        refine skip_ (w1 := ?_) (by rfl) rfl ?_ ?_
        rotate_left
        · go_simp
          rfl
        refine hK.out _ _ ?_
        clear hK K
        refine done_ (done_of HT_.out (by kernel_rfl)) ?_
        go_wp2
        go_ret
        refine ⟨by first | rfl | (simp; done), ⟨b0, b1, gv, R.del (.int .i64 a1), S.del (.int .i64 r), ?_⟩, below_set hB3 hA.g2, hK3.put hA3.row hA3.lo.2.2 _ _⟩
        have hne : ∀ i, i = g ∨ i = b0 ∨ i = b1 → i ≠ gv := by
          rintro i (rfl | rfl | rfl)
          · exact e5
          · exact e3
          · exact e4
        have hV : (gone s0_0 a1 r).V = s0_0.V.set q.toNat (wrap64 (rdV s0_0.V q - 1)) := by rw [hQ.out]; rfl
        refine ⟨?_, ?_, own_of_block hA3.oR ?_, own_of_block hA3.oS ?_, hA3.size, hA3.rR, hA3.rS, hA3.ne, hA3.gg, hA3.g0, hA3.g1, hA3.g2, hA3.lo⟩
        · rw [hV, List.length_set]
          exact blk_far hA3.blk (hne g (.inl rfl)) _
        · rw [hV]
          exact blk_put hA3.row q.toNat _ (vals_set _ _ _)
        · exact Below.heap_setCell _ _ _ _ (hne b0 (.inr (.inl rfl)))
        · exact Below.heap_setCell _ _ _ _ (hne b1 (.inr (.inr rfl)))
      · cases h
  · cases h
set_option maxHeartbeats 8000000 in
theorem l2p_Drop_nil (a1 : Int) (w : World) : Calls Try.prog 11 #[.pointer none, .int .i64 a1] w fun e w' => e = .returned (.bool false) ∧ Drawn0 w w' := by
  go_enter Try.func11, Try.ntmps11
  go_wp2_with (first | (go_at_call 13; (with_reducible refine (l2p_Row_nil a1 _).mono ?_); rintro e w' ⟨rfl, ⟨nd, rfl⟩⟩))
  go_ret
  exact ⟨by first | rfl | (simp; done) | (simp [*]; done), by repeat (first | exact Drawn0.refl _ | apply Drawn0.step | exact ⟨_, rfl⟩)⟩
end Go.Proofs.Ytjcmpfiklmpoaaa.M
