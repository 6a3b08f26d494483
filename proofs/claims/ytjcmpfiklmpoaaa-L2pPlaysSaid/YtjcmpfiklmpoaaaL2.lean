/-
  l2p's functions New, Valid, Drop: what they answer, told of the state.
-/
import Derived.Test.YtjcmpfiklmpoaaaL1
import Derived.Deep.RegionHeld3
namespace Go.Proofs.Ytjcmpfiklmpoaaa.M
open Go.RowKit Go.Maps Go.Proofs.YtjcmpfiklmpoaaaW.PrintWords Go.Proofs.YtjcmpfiklmpoaaaW.PrintLast Go.Proofs.YtjcmpfiklmpoaaaW.PrintMore
set_option linter.unusedVariables false
set_option linter.unusedSimpArgs false
theorem inf3 : (Try.prog.info? 3).map (fun i => (i.zero, i.size, i.bytes)) = some (some (.int .i64 0), 1, 8) := by kernel_rfl
theorem made_vals (n : Nat) : madeCells (Value.int .i64 0).cells (n * 1) = vals (List.replicate n 0) := by
  unfold madeCells vals
  apply Array.ext
  · simp
  · intro i h1 h2
    simp [Value.cells, Nat.mod_one]
def newOk (a0 a1 a2 : Int) : Prop := (1 ≤ a0 ∧ a0 ≤ 65536) ∧ (1 ≤ a1 ∧ a1 ≤ 256) ∧ (1 ≤ a2 ∧ a2 ≤ 64)
instance (a0 a1 a2 : Int) : Decidable (newOk a0 a1 a2) := by unfold newOk; infer_instance
def l2p_New.f (a0 a1 a2 : Int) : Option St := if newOk a0 a1 a2 then some ⟨a0, a2, fun _ => none, fun _ => none, 0, 0, List.replicate a1.toNat 0⟩ else none
set_option maxHeartbeats 8000000 in
theorem l2p_New.calls (a0 : Int) (a1 : Int) (a2 : Int) (r : St) (w0 w : World) (hB : Below w0.heap.size w0 w) (h : l2p_New.f a0 a1 a2 = some r) :
    Calls Try.prog 7 #[.int .i64 a0, .int .i64 a1, .int .i64 a2] w fun e w' => ∃ g_ : Nat, e = .returned (.tuple #[.pointer (some ⟨g_, 0, none⟩), .int .i64 0]) ∧ IsS49 w0 w' g_ r ∧ Below w0.heap.size w0 w' ∧ Below w.heap.size w w' := by
  unfold l2p_New.f at h
  split at h
  · rename_i ha
    obtain rfl := Option.some.inj h
    obtain ⟨⟨p0, q0⟩, ⟨p1, q1⟩, ⟨p2, q2⟩⟩ := ha
    have d0 : decide (a0 < 1) = false := decide_eq_false (by omega)
    have d1 : decide (65536 < a0) = false := decide_eq_false (by omega)
    have d2 : decide (a1 < 1) = false := decide_eq_false (by omega)
    have d3 : decide (256 < a1) = false := decide_eq_false (by omega)
    have d4 : decide (a2 < 1) = false := decide_eq_false (by omega)
    have d5 : decide (64 < a2) = false := decide_eq_false (by omega)
    have hmm := @run_makeMap Try.prog
    obtain ⟨i0, hi0, hz0, hz1, hz2⟩ := info_parts inf3
    have hms : ∀ W : World, (Instr.makeSlice 40 (.int .i64 a1) (.int .i64 a1)).run Try.prog W = .ok (.slice (some ⟨W.heap.size, 0, none⟩) a1.toNat a1.toNat) (W.alloc (.cells (vals (List.replicate a1.toNat 0)) 3)) := by
      intro W
      have e := run_make W 40 3 i0 _ Try.underlying40 hi0 hz0 .i64 .i64 a1 a1 (by omega) (Int.le_refl _) (by rw [hz2]; omega) (by omega)
      rw [hz1, made_vals] at e
      exact e
    clear hi0 hz0 hz1 hz2
    go_enter Try.func7, Try.ntmps7
    go_wp2
    go_ret2
    have b4 : ∀ {v : World}, Below v.heap.size v w → Below v.heap.size v ((((w.alloc (Obj.map #[] 0)).alloc (Obj.map #[] 0)).alloc (Obj.cells (vals (List.replicate a1.toNat 0)) 3)).alloc (Obj.cells #[Value.map (some w.heap.size), Value.map (some (w.heap.size + 1)), Value.slice (some { block := w.heap.size + 1 + 1, off := 0 }) a1.toNat a1.toNat, Value.int IntKind.i64 a0, Value.int IntKind.i64 a2] 49)) := fun h => below_alloc (below_alloc (below_alloc (below_alloc h _) _) _) _
    have hs := hB.size
    refine ⟨_, rfl, ⟨w.heap.size, w.heap.size + 1, w.heap.size + 1 + 1, .map [], .map [], ?_⟩, b4 hB, b4 (Below.refl _ _)⟩
    have o0 : Own (w.alloc (.map #[] 0)) w.heap.size 0 (.map []) := World.ownsMap_made w Try.prog 3 _
    have o1 : Own ((w.alloc (.map #[] 0)).alloc (.map #[] 0)) (w.heap.size + 1) 0 (.map []) := by
      have := World.ownsMap_made (H := Unit) (w.alloc (.map #[] 0)) Try.prog 3 (plainElem Try.prog 3)
      simpa using this
    have k2 : (((w.alloc (Obj.map #[] 0)).alloc (Obj.map #[] 0)).alloc (Obj.cells (vals (List.replicate a1.toNat 0)) 3)).heap[w.heap.size + 1 + 1]? = some (Obj.cells (vals (List.replicate a1.toNat 0)) 3 (0, 0)) := by
      have := heap_alloc_new ((w.alloc (Obj.map #[] 0)).alloc (Obj.map #[] 0)) (Obj.cells (vals (List.replicate a1.toNat 0)) 3)
      simpa using this
    constructor
    · have := heap_alloc_new (((w.alloc (Obj.map #[] 0)).alloc (Obj.map #[] 0)).alloc (Obj.cells (vals (List.replicate a1.toNat 0)) 3)) (Obj.cells #[Value.map (some w.heap.size), Value.map (some (w.heap.size + 1)), Value.slice (some { block := w.heap.size + 1 + 1, off := 0 }) a1.toNat a1.toNat, Value.int IntKind.i64 a0, Value.int IntKind.i64 a2] 49)
      simpa using this
    · exact blk_below k2 (below_alloc (Below.refl _ _) _)
    · exact ((o0.alloc _).alloc _).alloc _
    · exact (o1.alloc _).alloc _
    · rfl
    · exact Rep.nil
    · exact Rep.nil
    · show w.heap.size ≠ w.heap.size + 1
      omega
    · show w0.heap.size ≤ w.heap.size + 1 + 1 + 1
      omega
    · exact hs
    · show w0.heap.size ≤ w.heap.size + 1
      omega
    · show w0.heap.size ≤ w.heap.size + 1 + 1
      omega
    · show w.heap.size < w.heap.size + 1 + 1 + 1 ∧ w.heap.size + 1 < w.heap.size + 1 + 1 + 1 ∧ w.heap.size + 1 + 1 < w.heap.size + 1 + 1 + 1
      omega
  · cases h
def rdV (V : List Int) (i : Int) : Int := V.getD i.toNat 0
theorem vals_at {w : World} {gv : Nat} {V : List Int} (h : w.heap[gv]? = some (.cells (vals V) 3 (0, 0))) {i : Int} (h0 : 0 ≤ i) (h1 : i < (V.length : Int)) : w.cell? ⟨gv, i.toNat, none⟩ = some (.int .i64 (rdV V i)) := by
  refine (blk_cell h i.toNat).trans ?_
  have hi : i.toNat < V.length := by omega
  unfold vals rdV
  simp [hi]
def l2p_Map_Valid.f (s : St) (a1 : Int) : Option (Int × St) := some (if a1 < 0 then 0 else (if (s.V.length : Int) ≤ a1 then 0 else rdV s.V a1), s)
set_option maxHeartbeats 8000000 in
theorem l2p_Valid_drawn {w0 w : World} {g : Nat} {s : St} (a1 : Int) (hI : IsS49 w0 w g s) :
    Calls Try.prog 18 #[.pointer (some ⟨g, 0, none⟩), .int .i64 a1] w fun e w' => e = .returned (.int .i64 (if a1 < 0 then 0 else (if (s.V.length : Int) ≤ a1 then 0 else rdV s.V a1))) ∧ Drawn0 w w' := by
  have hI' := hI
  obtain ⟨b0, b1, gv, R, S, h⟩ := hI
  have c2 : w.cell? ⟨g, 2, none⟩ = some (.slice (some ⟨gv, 0, none⟩) s.V.length s.V.length) := (blk_cell h.blk 2).trans rfl
  have f2 := blk_frozen h.blk 2
  by_cases p0 : a1 < 0
  · rw [if_pos p0]
    have q0 : decide (a1 < 0) = true := decide_eq_true p0
    go_enter Try.func18, Try.ntmps18
    go_wp2_with (first
      | (go_at_call 21; (with_reducible refine (l2p_is_calls (w0 := w0) (s := s) (by repeat (first | exact hI' | apply IsS49.drew))).mono ?_); rintro e w' ⟨rfl, ⟨nd, rfl⟩⟩))
    go_ret
    exact ⟨by first | rfl | (simp; done) | (simp [*]; done), by repeat (first | exact Drawn0.refl _ | apply Drawn0.step | exact ⟨_, rfl⟩)⟩
  · rw [if_neg p0]
    have q0 : decide (a1 < 0) = false := decide_eq_false p0
    by_cases p1 : (s.V.length : Int) ≤ a1
    · rw [if_pos p1]
      have q1 : decide ((s.V.length : Int) ≤ a1) = true := decide_eq_true p1
      go_enter Try.func18, Try.ntmps18
      go_wp2_with (first
        | (go_at_call 21; (with_reducible refine (l2p_is_calls (w0 := w0) (s := s) (by repeat (first | exact hI' | apply IsS49.drew))).mono ?_); rintro e w' ⟨rfl, ⟨nd, rfl⟩⟩))
      go_ret
      exact ⟨by first | rfl | (simp; done) | (simp [*]; done), by repeat (first | exact Drawn0.refl _ | apply Drawn0.step | exact ⟨_, rfl⟩)⟩
    · rw [if_neg p1]
      have q1 : decide ((s.V.length : Int) ≤ a1) = false := decide_eq_false p1
      have r0 : 0 ≤ a1 := by omega
      have r1 : a1 < (s.V.length : Int) := by omega
      have cv := vals_at h.row r0 r1
      have fv := blk_frozen h.row a1.toNat
      replace r0 := eq_true r0
      replace r1 := eq_true r1
      go_enter Try.func18, Try.ntmps18
      go_wp2_with (first
        | (go_at_call 21; (with_reducible refine (l2p_is_calls (w0 := w0) (s := s) (by repeat (first | exact hI' | apply IsS49.drew))).mono ?_); rintro e w' ⟨rfl, ⟨nd, rfl⟩⟩))
      go_ret
      exact ⟨by first | rfl | (simp; done) | (simp [*]; done), by repeat (first | exact Drawn0.refl _ | apply Drawn0.step | exact ⟨_, rfl⟩)⟩
theorem l2p_Map_Valid.calls (g : Nat) (s0_0 : St) (a1 : Int) (r1 : Int) (r2 : St) (w0 w : World) (hI : IsS49 w0 w g s0_0) (hB : Below w0.heap.size w0 w) (h : l2p_Map_Valid.f s0_0 a1 = some (r1, r2)) :
    Calls Try.prog 18 #[.pointer (some ⟨g, 0, none⟩), .int .i64 a1] w fun e w' => e = .returned (.int .i64 r1) ∧ IsS49 w0 w' g r2 ∧ Below w0.heap.size w0 w' ∧ KeepBut w w' g none := by
  unfold l2p_Map_Valid.f at h
  simp only [Option.some.injEq, Prod.mk.injEq] at h
  obtain ⟨rfl, rfl⟩ := h
  refine (l2p_Valid_drawn a1 hI).mono ?_
  rintro e w' ⟨rfl, ⟨nd, rfl⟩⟩
  exact ⟨rfl, hI.drewN nd, pw_below_drewN hB nd, keep_drewN (KeepBut.refl w g none) nd⟩
set_option maxHeartbeats 8000000 in
theorem l2p_Valid_nil (a1 : Int) (w : World) : Calls Try.prog 18 #[.pointer none, .int .i64 a1] w fun e w' => e = .returned (.int .i64 0) ∧ Drawn0 w w' := by
  go_enter Try.func18, Try.ntmps18
  go_wp2_with (first | (go_at_call 21; (with_reducible refine l2p_is_nil.mono ?_); rintro e w' ⟨rfl, ⟨nd, rfl⟩⟩))
  go_ret
  exact ⟨by first | rfl | (simp; done) | (simp [*]; done), by repeat (first | exact Drawn0.refl _ | apply Drawn0.step | exact ⟨_, rfl⟩)⟩
set_option maxHeartbeats 8000000 in
/-- no map of such sizes -/
theorem l2p_New_bad (a0 a1 a2 : Int) (w : World) (h : ¬ newOk a0 a1 a2) :
    Calls Try.prog 7 #[.int .i64 a0, .int .i64 a1, .int .i64 a2] w fun e w' => e = .returned (.tuple #[.pointer none, .int .i64 2]) ∧ Drawn0 w w' := by
  unfold newOk at h
  by_cases p0 : a0 < 1
  · have d0 : decide (a0 < 1) = true := decide_eq_true p0
    go_enter Try.func7, Try.ntmps7
    go_wp2
    go_ret2
    exact ⟨by first | rfl | (simp; done), by repeat (first | exact Drawn0.refl _ | apply Drawn0.step | exact ⟨_, rfl⟩)⟩
  · have d0 : decide (a0 < 1) = false := decide_eq_false p0
    by_cases p1 : 65536 < a0
    · have d1 : decide (65536 < a0) = true := decide_eq_true p1
      go_enter Try.func7, Try.ntmps7
      go_wp2
      go_ret2
      exact ⟨by first | rfl | (simp; done), by repeat (first | exact Drawn0.refl _ | apply Drawn0.step | exact ⟨_, rfl⟩)⟩
    · have d1 : decide (65536 < a0) = false := decide_eq_false p1
      by_cases p2 : a1 < 1
      · have d2 : decide (a1 < 1) = true := decide_eq_true p2
        go_enter Try.func7, Try.ntmps7
        go_wp2
        go_ret2
        exact ⟨by first | rfl | (simp; done), by repeat (first | exact Drawn0.refl _ | apply Drawn0.step | exact ⟨_, rfl⟩)⟩
      · have d2 : decide (a1 < 1) = false := decide_eq_false p2
        by_cases p3 : 256 < a1
        · have d3 : decide (256 < a1) = true := decide_eq_true p3
          go_enter Try.func7, Try.ntmps7
          go_wp2
          go_ret2
          exact ⟨by first | rfl | (simp; done), by repeat (first | exact Drawn0.refl _ | apply Drawn0.step | exact ⟨_, rfl⟩)⟩
        · have d3 : decide (256 < a1) = false := decide_eq_false p3
          by_cases p4 : a2 < 1
          · have d4 : decide (a2 < 1) = true := decide_eq_true p4
            go_enter Try.func7, Try.ntmps7
            go_wp2
            go_ret2
            exact ⟨by first | rfl | (simp; done), by repeat (first | exact Drawn0.refl _ | apply Drawn0.step | exact ⟨_, rfl⟩)⟩
          · have d4 : decide (a2 < 1) = false := decide_eq_false p4
            have p5 : 64 < a2 := by omega
            have d5 : decide (64 < a2) = true := decide_eq_true p5
            go_enter Try.func7, Try.ntmps7
            go_wp2
            go_ret2
            exact ⟨by first | rfl | (simp; done), by repeat (first | exact Drawn0.refl _ | apply Drawn0.step | exact ⟨_, rfl⟩)⟩
end Go.Proofs.Ytjcmpfiklmpoaaa.M
