/-
  The law ParityField: for all three bytes the call returns true, and nothing that was there has turned.
-/
import Derived.Test.YtibkckcpclkclaaEvA
import Derived.Lib.Hide
namespace Go.Proofs.Ytibkckcpclkclaa.FieldW
open Go.RowKit Go.Proofs.Ytibkckcpclkclaa.M Go.Proofs.Ytibkckcpclkclaa.Gf Go.Proofs.Ytibkckcpclkclaa.EvA Go.Proofs.YtibkckcpclkclaaW.PrintWords
/-- a call of Times, its answer spelled as the caller wants it -/
theorem tc {a b r : Nat} (w : World) (ha : a < 256) (hb : b < 256) (hr : mul a b = r) : Calls Try.prog 8 #[.int .u8 (a : Int), .int .u8 (b : Int)] w fun e w' => e = .returned (.int .u8 (r : Int)) ∧ ∃ n, w' = w.drewN n := by
  subst hr
  exact (parity_Times.calls 9 a b (mul a b) w (times_f ha hb (Nat.le_refl _))).mono fun _ _ ⟨he, hd⟩ => ⟨he, hd.out⟩
theorem rc {a b : Nat} (w : World) (ha : a < 256) (hb : b < 256) : Calls Try.prog 9 #[.int .i64 (a : Int), .int .i64 (b : Int)] w fun e w' => e = .returned (.int .i64 (mul a b : Int)) ∧ ∃ n, w' = w.drewN n :=
  (incunableref45_Times.calls 40 a b (mul a b) w (rtimes_f ha hb (Nat.le_refl _))).mono fun _ _ ⟨he, hd⟩ => ⟨he, hd.out⟩
theorem ic {a : Nat} (w : World) (ha : a < 256) : Calls Try.prog 10 #[.int .u8 (a : Int)] w fun e w' => e = .returned (.int .u8 (inv a : Int)) ∧ ∃ n, w' = w.drewN n :=
  (parity_Inverse.calls 18 a (inv a) w (inverse_f ha (Nat.le_refl _))).mono fun _ _ ⟨he, hd⟩ => ⟨he, hd.out⟩
theorem ric {a : Nat} (w : World) (ha : a < 256) : Calls Try.prog 11 #[.int .i64 (a : Int)] w fun e w' => e = .returned (.int .i64 (inv a : Int)) ∧ ∃ n, w' = w.drewN n :=
  (incunableref45_Inverse.calls 310 a (inv a) w (rinverse_f ha (Nat.le_refl _))).mono fun _ _ ⟨he, hd⟩ => ⟨he, hd.out⟩
theorem awc (w : World) : Calls Try.prog 7 #[] w fun e w' => e = .returned (.bool true) ∧ ∃ n, w' = w.drewN n :=
  (incunablelaw45_awake.calls 9 true w (awake_f (Nat.le_refl _))).mono fun _ _ ⟨he, hd⟩ => ⟨he, hd.out⟩
theorem tc1 {a : Nat} (w : World) (ha : a < 256) : Calls Try.prog 8 #[.int .u8 (a : Int), .int .u8 1] w fun e w' => e = .returned (.int .u8 (a : Int)) ∧ ∃ n, w' = w.drewN n := tc w ha (b := 1) (by decide) (mul_one a ha)
theorem tc0 {a : Nat} (w : World) (ha : a < 256) : Calls Try.prog 8 #[.int .u8 (a : Int), .int .u8 0] w fun e w' => e = .returned (.int .u8 0) ∧ ∃ n, w' = w.drewN n := tc w ha (b := 0) (r := 0) (by decide) (mul_zero a ha)
theorem tci {a : Nat} (w : World) (ha : a < 256) (h0 : a ≠ 0) : Calls Try.prog 8 #[.int .u8 (a : Int), .int .u8 (inv a : Int)] w fun e w' => e = .returned (.int .u8 1) ∧ ∃ n, w' = w.drewN n := tc w ha (r := 1) (inv_lt a ha) (mul_inv a ha h0)
set_option maxHeartbeats 2000000 in
theorem law (a b c : Nat) (ha : a < 256) (hb : b < 256) (hc : c < 256) (w : World) : Calls Try.prog 3 #[.int .u8 (a : Int), .int .u8 (b : Int), .int .u8 (c : Int)] w fun e w' => e = .returned (.bool true) ∧ ∃ n, w' = w.drewN n := by
  have hab := mul_lt (a := a) (b := b) ha
  have hac := mul_lt (a := a) (b := c) ha
  have hbc := mul_lt (a := b) (b := c) hb
  have hin := inv_lt a ha
  have hxx := xor_lt hb hc
  have eq2 := Go.Lib.hid (mul_assoc ha hb hc).symm
  have eq3 := Go.Lib.hid (mul_xor_right a b c)
  have x1 := bx hb hc
  have x2 := bx hab hac
  by_cases h0 : a = 0
  · have q1 : ((a : Int) == 0) = true := by simp [h0]
    have q2 : ((inv a : Int) == 0) = true := by rw [h0, inv_zero]; rfl
    have q3 : ((a : Int) != 0) = false := by simp [h0]
    have hz := Go.Lib.hid h0
    clear h0
    go_enter Try.func3, Try.ntmps3
    go_wp2_with (first | (go_at_call 7; (with_reducible refine (awc _).mono ?_); rintro e w' ⟨rfl, ⟨nd, rfl⟩⟩) | (go_at_call 9; (with_reducible refine (rc _ ha hb).mono ?_); rintro e w' ⟨rfl, ⟨nd, rfl⟩⟩) | (go_at_call 11; (with_reducible refine (ric _ ha).mono ?_); rintro e w' ⟨rfl, ⟨nd, rfl⟩⟩) | (go_at_call 10; (with_reducible refine (ic _ ha).mono ?_); rintro e w' ⟨rfl, ⟨nd, rfl⟩⟩) | (go_at_call 8; (first | (with_reducible refine (tc (a := a) (b := b) _ ha hb rfl).mono ?_) | (with_reducible refine (tc (a := b) (b := a) _ hb ha (mul_comm hb ha)).mono ?_) | (with_reducible refine (tc (a := mul a b) (b := c) _ hab hc rfl).mono ?_) | (with_reducible refine (tc (a := b) (b := c) _ hb hc rfl).mono ?_) | (with_reducible refine (tc (a := a) (b := mul b c) _ ha hbc eq2.out).mono ?_) | (with_reducible refine (tc (a := a) (b := b ^^^ c) _ ha hxx eq3.out).mono ?_) | (with_reducible refine (tc (a := a) (b := c) _ ha hc rfl).mono ?_) | (with_reducible refine (tc1 _ ha).mono ?_) | (with_reducible refine (tc0 _ ha).mono ?_)); rintro e w' ⟨rfl, ⟨nd, rfl⟩⟩))
    go_ret
    exact ⟨rfl, _, rfl⟩
  · have q1 : ((a : Int) == 0) = false := by simp [h0]
    have q3 : ((a : Int) != 0) = true := by simp [h0]
    have hz := Go.Lib.hid h0
    clear h0
    go_enter Try.func3, Try.ntmps3
    go_wp2_with (first | (go_at_call 7; (with_reducible refine (awc _).mono ?_); rintro e w' ⟨rfl, ⟨nd, rfl⟩⟩) | (go_at_call 9; (with_reducible refine (rc _ ha hb).mono ?_); rintro e w' ⟨rfl, ⟨nd, rfl⟩⟩) | (go_at_call 11; (with_reducible refine (ric _ ha).mono ?_); rintro e w' ⟨rfl, ⟨nd, rfl⟩⟩) | (go_at_call 10; (with_reducible refine (ic _ ha).mono ?_); rintro e w' ⟨rfl, ⟨nd, rfl⟩⟩) | (go_at_call 8; (first | (with_reducible refine (tc (a := a) (b := b) _ ha hb rfl).mono ?_) | (with_reducible refine (tc (a := b) (b := a) _ hb ha (mul_comm hb ha)).mono ?_) | (with_reducible refine (tc (a := mul a b) (b := c) _ hab hc rfl).mono ?_) | (with_reducible refine (tc (a := b) (b := c) _ hb hc rfl).mono ?_) | (with_reducible refine (tc (a := a) (b := mul b c) _ ha hbc eq2.out).mono ?_) | (with_reducible refine (tc (a := a) (b := b ^^^ c) _ ha hxx eq3.out).mono ?_) | (with_reducible refine (tc (a := a) (b := c) _ ha hc rfl).mono ?_) | (with_reducible refine (tc1 _ ha).mono ?_) | (with_reducible refine (tci _ ha hz.out).mono ?_) | (with_reducible refine (tc0 _ ha).mono ?_)); rintro e w' ⟨rfl, ⟨nd, rfl⟩⟩))
    go_ret
    exact ⟨rfl, _, rfl⟩
end Go.Proofs.Ytibkckcpclkclaa.FieldW
