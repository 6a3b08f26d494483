/-
  l2p's functions: what they answer, told of the state.
-/
import Derived.Test.YtjcmpfiklmpoaaaSt
namespace Go.Proofs.Ytjcmpfiklmpoaaa.M
open Go.RowKit Go.Maps Go.Proofs.YtjcmpfiklmpoaaaW.PrintWords Go.Proofs.YtjcmpfiklmpoaaaW.PrintLast Go.Proofs.YtjcmpfiklmpoaaaW.PrintMore
set_option linter.unusedVariables false
set_option linter.unusedSimpArgs false
theorem key3 : Keyed Try.prog 3 := int_keyed Try.underlying3
theorem zero3 (w : World) : (zeroValue 3).run Try.prog w = .ok (.int .i64 0) w := by kernel_rfl
theorem wf_of {x : Int} (h : -9223372036854775808 ≤ x ∧ x ≤ 9223372036854775807) : (Lit.int .i64 x).wf = true := by
  have hmin : IntKind.i64.min = -9223372036854775808 := rfl
  have hmax : IntKind.i64.max = 9223372036854775807 := rfl
  simp only [Lit.wf, Bool.and_eq_true, decide_eq_true_eq]
  omega
theorem map_nn (b : Nat) (w : World) : (binOp BinOp.neq 47 (Value.map (some b)) (Value.map none)).run Try.prog w = .ok (.bool true) w := rfl
set_option maxHeartbeats 8000000 in
theorem l2p_is_calls {w0 w : World} {g : Nat} {s : St} (hI : IsS49 w0 w g s) :
    Calls Try.prog 21 #[.pointer (some ⟨g, 0, none⟩)] w fun e w' => e = .returned (.bool true) ∧ Drawn0 w w' := by
  obtain ⟨b0, b1, gv, R, S, h⟩ := hI
  have c0 : w.cell? ⟨g, 0, none⟩ = some (.map (some b0)) := (blk_cell h.blk 0).trans rfl
  have f0 := blk_frozen h.blk 0
  have hmn := map_nn b0
  go_enter Try.func21, Try.ntmps21
  go_wp2
  go_ret
  exact ⟨by first | rfl | (simp; done) | (simp [*]; done), by repeat (first | exact Drawn0.refl _ | apply Drawn0.step)⟩
set_option maxHeartbeats 8000000 in
theorem l2p_is_nil {w : World} :
    Calls Try.prog 21 #[.pointer none] w fun e w' => e = .returned (.bool false) ∧ Drawn0 w w' := by
  go_enter Try.func21, Try.ntmps21
  go_wp2
  go_ret
  exact ⟨by first | rfl | (simp; done) | (simp [*]; done), by repeat (first | exact Drawn0.refl _ | apply Drawn0.step)⟩
/-- Row -/
def l2p_Map_Row.f (s : St) (a1 : Int) : Option (Int × Bool × St) := if -9223372036854775808 ≤ a1 ∧ a1 ≤ 9223372036854775807 then some ((s.f a1).getD 0, (s.f a1).isSome, s) else none
def l2p_Map_Sector.f (s : St) (a1 : Int) : Option (Int × Bool × St) := if -9223372036854775808 ≤ a1 ∧ a1 ≤ 9223372036854775807 then some ((s.g a1).getD 0, (s.g a1).isSome, s) else none
def l2p_Map_Len.f (s : St) : Option (Int × St) := some ((s.n : Int), s)
set_option maxHeartbeats 8000000 in
theorem l2p_Row_drawn {w0 w : World} {g : Nat} {s : St} (a1 : Int) (hI : IsS49 w0 w g s) (ha : -9223372036854775808 ≤ a1 ∧ a1 ≤ 9223372036854775807) :
    Calls Try.prog 13 #[.pointer (some ⟨g, 0, none⟩), .int .i64 a1] w fun e w' => e = .returned (.tuple #[.int .i64 ((s.f a1).getD 0), .bool (s.f a1).isSome]) ∧ Drawn0 w w' := by
  have hI' := hI
  obtain ⟨b0, b1, gv, R, S, h⟩ := hI
  have c0 : w.cell? ⟨g, 0, none⟩ = some (.map (some b0)) := (blk_cell h.blk 0).trans rfl
  have f0 := blk_frozen h.blk 0
  have hkey := keyOf_int_mk Try.underlying3 (wf_of ha)
  go_enter Try.func13, Try.ntmps13
  go_wp2_with (first
    | (go_at_call 21; (with_reducible refine (l2p_is_calls (w0 := w0) (s := s) (by repeat (first | exact hI' | apply IsS49.drew))).mono ?_); rintro e w' ⟨rfl, ⟨nd, rfl⟩⟩)
    | (at_lookup; refine wpList_lookup_own_ok_int _ rfl _ _ 47 rfl 3 3 .i64 key3 Try.underlying47 Try.underlying3 (zero3 _) b0 s.c R rfl (own_of_block h.oR rfl) _ _ rfl hkey ?_; intro c hat hwc; obtain ⟨e1, e2⟩ := h.rR.look hat; rw [e1, e2]))
  go_ret2
  exact ⟨by first | rfl | (simp; done) | (simp [*]; done), by repeat (first | exact Drawn0.refl _ | apply Drawn0.step | exact ⟨_, rfl⟩)⟩
theorem l2p_Map_Row.calls (g : Nat) (s0_0 : St) (a1 : Int) (r1 : Int) (r2 : Bool) (r3 : St) (w0 w : World) (hI : IsS49 w0 w g s0_0) (hB : Below w0.heap.size w0 w) (h : l2p_Map_Row.f s0_0 a1 = some (r1, r2, r3)) :
    Calls Try.prog 13 #[.pointer (some ⟨g, 0, none⟩), .int .i64 a1] w fun e w' => e = .returned (.tuple #[.int .i64 r1, .bool r2]) ∧ IsS49 w0 w' g r3 ∧ Below w0.heap.size w0 w' ∧ KeepBut w w' g none := by
  unfold l2p_Map_Row.f at h
  split at h
  · rename_i ha
    simp only [Option.some.injEq, Prod.mk.injEq] at h
    obtain ⟨rfl, rfl, rfl⟩ := h
    refine (l2p_Row_drawn a1 hI ha).mono ?_
    rintro e w' ⟨rfl, ⟨nd, rfl⟩⟩
    exact ⟨rfl, hI.drewN nd, pw_below_drewN hB nd, keep_drewN (KeepBut.refl w g none) nd⟩
  · cases h
set_option maxHeartbeats 8000000 in
theorem l2p_Row_nil (a1 : Int) (w : World) : Calls Try.prog 13 #[.pointer none, .int .i64 a1] w fun e w' => e = .returned (.tuple #[.int .i64 0, .bool false]) ∧ Drawn0 w w' := by
  go_enter Try.func13, Try.ntmps13
  go_wp2_with (first | (go_at_call 21; (with_reducible refine l2p_is_nil.mono ?_); rintro e w' ⟨rfl, ⟨nd, rfl⟩⟩))
  go_ret2
  exact ⟨by first | rfl | (simp; done) | (simp [*]; done), by repeat (first | exact Drawn0.refl _ | apply Drawn0.step | exact ⟨_, rfl⟩)⟩
set_option maxHeartbeats 8000000 in
theorem l2p_Sector_drawn {w0 w : World} {g : Nat} {s : St} (a1 : Int) (hI : IsS49 w0 w g s) (ha : -9223372036854775808 ≤ a1 ∧ a1 ≤ 9223372036854775807) :
    Calls Try.prog 20 #[.pointer (some ⟨g, 0, none⟩), .int .i64 a1] w fun e w' => e = .returned (.tuple #[.int .i64 ((s.g a1).getD 0), .bool (s.g a1).isSome]) ∧ Drawn0 w w' := by
  have hI' := hI
  obtain ⟨b0, b1, gv, R, S, h⟩ := hI
  have c0 : w.cell? ⟨g, 1, none⟩ = some (.map (some b1)) := (blk_cell h.blk 1).trans rfl
  have f0 := blk_frozen h.blk 1
  have hkey := keyOf_int_mk Try.underlying3 (wf_of ha)
  go_enter Try.func20, Try.ntmps20
  go_wp2_with (first
    | (go_at_call 21; (with_reducible refine (l2p_is_calls (w0 := w0) (s := s) (by repeat (first | exact hI' | apply IsS49.drew))).mono ?_); rintro e w' ⟨rfl, ⟨nd, rfl⟩⟩)
    | (at_lookup; refine wpList_lookup_own_ok_int _ rfl _ _ 47 rfl 3 3 .i64 key3 Try.underlying47 Try.underlying3 (zero3 _) b1 s.c S rfl (own_of_block h.oS rfl) _ _ rfl hkey ?_; intro c hat hwc; obtain ⟨e1, e2⟩ := h.rS.look hat; rw [e1, e2]))
  go_ret2
  exact ⟨by first | rfl | (simp; done) | (simp [*]; done), by repeat (first | exact Drawn0.refl _ | apply Drawn0.step | exact ⟨_, rfl⟩)⟩
theorem l2p_Map_Sector.calls (g : Nat) (s0_0 : St) (a1 : Int) (r1 : Int) (r2 : Bool) (r3 : St) (w0 w : World) (hI : IsS49 w0 w g s0_0) (hB : Below w0.heap.size w0 w) (h : l2p_Map_Sector.f s0_0 a1 = some (r1, r2, r3)) :
    Calls Try.prog 20 #[.pointer (some ⟨g, 0, none⟩), .int .i64 a1] w fun e w' => e = .returned (.tuple #[.int .i64 r1, .bool r2]) ∧ IsS49 w0 w' g r3 ∧ Below w0.heap.size w0 w' ∧ KeepBut w w' g none := by
  unfold l2p_Map_Sector.f at h
  split at h
  · rename_i ha
    simp only [Option.some.injEq, Prod.mk.injEq] at h
    obtain ⟨rfl, rfl, rfl⟩ := h
    refine (l2p_Sector_drawn a1 hI ha).mono ?_
    rintro e w' ⟨rfl, ⟨nd, rfl⟩⟩
    exact ⟨rfl, hI.drewN nd, pw_below_drewN hB nd, keep_drewN (KeepBut.refl w g none) nd⟩
  · cases h
set_option maxHeartbeats 8000000 in
theorem l2p_Sector_nil (a1 : Int) (w : World) : Calls Try.prog 20 #[.pointer none, .int .i64 a1] w fun e w' => e = .returned (.tuple #[.int .i64 0, .bool false]) ∧ Drawn0 w w' := by
  go_enter Try.func20, Try.ntmps20
  go_wp2_with (first | (go_at_call 21; (with_reducible refine l2p_is_nil.mono ?_); rintro e w' ⟨rfl, ⟨nd, rfl⟩⟩))
  go_ret2
  exact ⟨by first | rfl | (simp; done) | (simp [*]; done), by repeat (first | exact Drawn0.refl _ | apply Drawn0.step | exact ⟨_, rfl⟩)⟩
set_option maxHeartbeats 8000000 in
theorem l2p_Len_drawn {w0 w : World} {g : Nat} {s : St} (hI : IsS49 w0 w g s) :
    Calls Try.prog 19 #[.pointer (some ⟨g, 0, none⟩)] w fun e w' => e = .returned (.int .i64 (s.n : Int)) ∧ Drawn0 w w' := by
  have hI' := hI
  obtain ⟨b0, b1, gv, R, S, h⟩ := hI
  have c0 : w.cell? ⟨g, 0, none⟩ = some (.map (some b0)) := (blk_cell h.blk 0).trans rfl
  have f0 := blk_frozen h.blk 0
  go_enter Try.func19, Try.ntmps19
  go_wp2_with (first
    | (go_at_call 21; (with_reducible refine (l2p_is_calls (w0 := w0) (s := s) (by repeat (first | exact hI' | apply IsS49.drew))).mono ?_); rintro e w' ⟨rfl, ⟨nd, rfl⟩⟩)
    | (at_len; refine wpList_len_own _ rfl _ 47 rfl 3 3 Try.underlying47 (plainElem Try.prog 3) b0 s.c R rfl (own_of_block h.oR rfl) ?_; rw [h.size]))
  go_ret
  exact ⟨by first | rfl | (simp; done) | (simp [*]; done), by repeat (first | exact Drawn0.refl _ | apply Drawn0.step | exact ⟨_, rfl⟩)⟩
theorem l2p_Map_Len.calls (g : Nat) (s0_0 : St) (r1 : Int) (r2 : St) (w0 w : World) (hI : IsS49 w0 w g s0_0) (hB : Below w0.heap.size w0 w) (h : l2p_Map_Len.f s0_0 = some (r1, r2)) :
    Calls Try.prog 19 #[.pointer (some ⟨g, 0, none⟩)] w fun e w' => e = .returned (.int .i64 r1) ∧ IsS49 w0 w' g r2 ∧ Below w0.heap.size w0 w' ∧ KeepBut w w' g none := by
  unfold l2p_Map_Len.f at h
  simp only [Option.some.injEq, Prod.mk.injEq] at h
  obtain ⟨rfl, rfl⟩ := h
  refine (l2p_Len_drawn hI).mono ?_
  rintro e w' ⟨rfl, ⟨nd, rfl⟩⟩
  exact ⟨rfl, hI.drewN nd, pw_below_drewN hB nd, keep_drewN (KeepBut.refl w g none) nd⟩
set_option maxHeartbeats 8000000 in
theorem l2p_Len_nil (w : World) : Calls Try.prog 19 #[.pointer none] w fun e w' => e = .returned (.int .i64 0) ∧ Drawn0 w w' := by
  go_enter Try.func19, Try.ntmps19
  go_wp2_with (first | (go_at_call 21; (with_reducible refine l2p_is_nil.mono ?_); rintro e w' ⟨rfl, ⟨nd, rfl⟩⟩))
  go_ret
  exact ⟨by first | rfl | (simp; done) | (simp [*]; done), by repeat (first | exact Drawn0.refl _ | apply Drawn0.step | exact ⟨_, rfl⟩)⟩
end Go.Proofs.Ytjcmpfiklmpoaaa.M
