/-
  block's Set and Free: what they answer and leave; what a ledger that is none answers.
-/
import Derived.Test.YtpjmmmgjiaallaaLu
namespace Go.Proofs.Ytpjmmmgjiaallaa.M
open Go.RowKit Go.Proofs.YtpjmmmgjiaallaaW.PrintWords Go.Proofs.YtpjmmmgjiaallaaW.PrintLast Go.Proofs.YtpjmmmgjiaallaaW.PrintMore
set_option linter.unusedVariables false
set_option linter.unusedSimpArgs false
theorem drawn_more {w w' : World} {n : Nat} (h : Drawn0 (w.drewN n) w') : Drawn0 w w' := by
  obtain ⟨m, rfl⟩ := h
  exact ⟨n + m, by rw [World.drewN_drewN]⟩
theorem LAt.put2 {lo : Nat} {W : World} {g ge : Nat} {s : Lg} (h : LAt lo W g ge s) (i x y : Int) : LAt lo ((W.setCell ⟨ge, i.toNat * 2, none⟩ (.int .i64 x)).setCell ⟨ge, i.toNat * 2 + 1, none⟩ (.int .i64 y)) g ge { s with E := s.E.set i.toNat ⟨x, y⟩ } := by
  have e : setE (setS s.E i x) i y = s.E.set i.toNat ⟨x, y⟩ := by
    unfold setE setS
    rw [List.set_set]
    by_cases hl : i.toNat < s.E.length
    · congr 2
      unfold eS en
      rw [List.getD_eq_getElem?_getD, List.getElem?_set, if_pos rfl, if_pos hl]
      rfl
    · rw [List.set_eq_of_length_le (by omega), List.set_eq_of_length_le (by omega)]
  have := (h.putS i x).putE i y
  rw [e] at this
  exact this
def setBad (s : Lg) (b st er : Int) : Prop := ¬ (0 ≤ b ∧ b < (s.E.length : Int)) ∨ ¬ (st = 0 ∨ st = 2 ∨ st = 3) ∨ er < 0 ∨ 2147483648 ≤ er ∨ eS s.E b = 1
instance (s : Lg) (b st er : Int) : Decidable (setBad s b st er) := by unfold setBad; infer_instance
def setR (s : Lg) (b st er : Int) : Int × Lg := if setBad s b st er then (2, s) else (0, { s with E := s.E.set b.toNat ⟨st, er⟩ })
set_option maxHeartbeats 8000000 in
set_option maxRecDepth 100000 in
theorem Set_calls {lo : Nat} {w : World} {g : Nat} {s : Lg} (b st er : Int) (hI : IsL lo w g s) :
    Calls Try.prog 16 #[.pointer (some ⟨g, 0, none⟩), .int .i64 b, .int .i64 st, .int .i64 er] w fun e w' => e = .returned (.int .i64 (setR s b st er).1) ∧ IsL lo w' g (setR s b st er).2 ∧ Below lo w w' ∧ KeepL g w w' := by
  have HI := Aside0.mk hI
  have hlo : lo ≤ w.heap.size := by have := hI.lo_le; have := hI.lt; omega
  have HLO := Aside0.mk hlo
  clear hlo
  by_cases hbb : 0 ≤ b ∧ b < (s.E.length : Int)
  case neg =>
    rw [show setR s b st er = (2, s) from if_pos (.inl hbb)]
    have HO := Aside0.mk (show b < 0 ∨ (s.E.length : Int) ≤ b by omega)
    have fin : ∀ nd : Nat, IsL lo (w.drewN nd) g s ∧ Below lo w (w.drewN nd) ∧ KeepL g w (w.drewN nd) := fun nd => ⟨HI.out.drewN nd, pw_below_drewN (Below.refl _ _) nd, KeepL.of_below (pw_below_drewN (Below.refl _ _) nd)⟩
    have FIN := Aside0.mk fin
    clear hI hbb fin
    by_cases k0 : st = 0
    · have g0 : (st == 0) = true := beq_iff_eq.mpr k0
      clear k0
      go_enter Try.func16, Try.ntmps16
      go_wp2_with (first | (go_at_call 26; (with_reducible refine (is_calls HI.out).mono ?_); rintro e w' ⟨rfl, ⟨nd, rfl⟩⟩) | (go_at_call 27; (with_reducible refine (at_out (HI.out.drewN _) b HO.out).mono ?_); rintro e w5 ⟨rfl, hd⟩; have HD := Aside0.mk (drawn_more hd); clear hd))
      go_ret
      obtain ⟨nd, rfl⟩ := HD.out
      exact ⟨by first | rfl | (simp; done), FIN.out nd⟩
    have g0 : (st == 0) = false := beq_eq_false_iff_ne.mpr k0
    by_cases k1 : st = 2
    · have g1 : (st == 2) = true := beq_iff_eq.mpr k1
      clear k0 k1
      go_enter Try.func16, Try.ntmps16
      go_wp2_with (first | (go_at_call 26; (with_reducible refine (is_calls HI.out).mono ?_); rintro e w' ⟨rfl, ⟨nd, rfl⟩⟩) | (go_at_call 27; (with_reducible refine (at_out (HI.out.drewN _) b HO.out).mono ?_); rintro e w5 ⟨rfl, hd⟩; have HD := Aside0.mk (drawn_more hd); clear hd))
      go_ret
      obtain ⟨nd, rfl⟩ := HD.out
      exact ⟨by first | rfl | (simp; done), FIN.out nd⟩
    have g1 : (st == 2) = false := beq_eq_false_iff_ne.mpr k1
    clear k0 k1
    go_enter Try.func16, Try.ntmps16
    go_wp2_with (first | (go_at_call 26; (with_reducible refine (is_calls HI.out).mono ?_); rintro e w' ⟨rfl, ⟨nd, rfl⟩⟩) | (go_at_call 27; (with_reducible refine (at_out (HI.out.drewN _) b HO.out).mono ?_); rintro e w5 ⟨rfl, hd⟩; have HD := Aside0.mk (drawn_more hd); clear hd))
    go_ret
    obtain ⟨nd, rfl⟩ := HD.out
    exact ⟨by first | rfl | (simp; done), FIN.out nd⟩
  obtain ⟨ge, h⟩ := hI
  have HA := Aside0.mk h
  have HBB := Aside0.mk hbb
  clear h hbb
  by_cases k0 : st = 0
  · have g0 : (st == 0) = true := beq_iff_eq.mpr k0
    by_cases e0 : er < 0
    · have f0 : decide (er < 0) = true := decide_eq_true e0
      rw [show setR s b st er = (2, s) from if_pos (.inr (.inr (.inl e0)))]
      clear e0 k0
      go_enter Try.func16, Try.ntmps16
      go_wp2_with (first | (go_at_call 26; (with_reducible refine (is_calls HI.out).mono ?_); rintro e w' ⟨rfl, ⟨nd, rfl⟩⟩) | (go_at_call 27; (with_reducible refine (at_in (HA.out.below (pw_below_drewN (Below.refl _ _) _)) b HBB.out.1 HBB.out.2).mono ?_); rintro e w5 ⟨rfl, hd⟩; have HD := Aside0.mk (drawn_more hd); have HA5 := Aside0.mk (HA.out.below HD.out.below); have cS_ := HA5.out.cS b HBB.out.1 HBB.out.2; have cE_ := HA5.out.cE b HBB.out.1 HBB.out.2; have fS_ := blk_frozen HA5.out.row (b.toNat * 2); have fE_ := blk_frozen HA5.out.row (b.toNat * 2 + 1); clear hd))
      go_ret
      exact ⟨by first | rfl | (simp; done), ⟨ge, HA5.out⟩, below_lower HD.out.below HLO.out, KeepL.of_below HD.out.below⟩
    have f0 : decide (er < 0) = false := decide_eq_false e0
    by_cases e1 : 2147483648 ≤ er
    · have f1 : decide (2147483648 ≤ er) = true := decide_eq_true e1
      rw [show setR s b st er = (2, s) from if_pos (.inr (.inr (.inr (.inl e1))))]
      clear e0 e1 k0
      go_enter Try.func16, Try.ntmps16
      go_wp2_with (first | (go_at_call 26; (with_reducible refine (is_calls HI.out).mono ?_); rintro e w' ⟨rfl, ⟨nd, rfl⟩⟩) | (go_at_call 27; (with_reducible refine (at_in (HA.out.below (pw_below_drewN (Below.refl _ _) _)) b HBB.out.1 HBB.out.2).mono ?_); rintro e w5 ⟨rfl, hd⟩; have HD := Aside0.mk (drawn_more hd); have HA5 := Aside0.mk (HA.out.below HD.out.below); have cS_ := HA5.out.cS b HBB.out.1 HBB.out.2; have cE_ := HA5.out.cE b HBB.out.1 HBB.out.2; have fS_ := blk_frozen HA5.out.row (b.toNat * 2); have fE_ := blk_frozen HA5.out.row (b.toNat * 2 + 1); clear hd))
      go_ret
      exact ⟨by first | rfl | (simp; done), ⟨ge, HA5.out⟩, below_lower HD.out.below HLO.out, KeepL.of_below HD.out.below⟩
    have f1 : decide (2147483648 ≤ er) = false := decide_eq_false e1
    by_cases e2 : eS s.E b = 1
    · have f2 : (eS s.E b == 1) = true := beq_iff_eq.mpr e2
      rw [show setR s b st er = (2, s) from if_pos (.inr (.inr (.inr (.inr e2))))]
      clear e0 e1 e2 k0
      go_enter Try.func16, Try.ntmps16
      go_wp2_with (first | (go_at_call 26; (with_reducible refine (is_calls HI.out).mono ?_); rintro e w' ⟨rfl, ⟨nd, rfl⟩⟩) | (go_at_call 27; (with_reducible refine (at_in (HA.out.below (pw_below_drewN (Below.refl _ _) _)) b HBB.out.1 HBB.out.2).mono ?_); rintro e w5 ⟨rfl, hd⟩; have HD := Aside0.mk (drawn_more hd); have HA5 := Aside0.mk (HA.out.below HD.out.below); have cS_ := HA5.out.cS b HBB.out.1 HBB.out.2; have cE_ := HA5.out.cE b HBB.out.1 HBB.out.2; have fS_ := blk_frozen HA5.out.row (b.toNat * 2); have fE_ := blk_frozen HA5.out.row (b.toNat * 2 + 1); clear hd))
      go_ret
      exact ⟨by first | rfl | (simp; done), ⟨ge, HA5.out⟩, below_lower HD.out.below HLO.out, KeepL.of_below HD.out.below⟩
    have f2 : (eS s.E b == 1) = false := beq_eq_false_iff_ne.mpr e2
    rw [show setR s b st er = (0, { s with E := s.E.set b.toNat ⟨st, er⟩ }) from if_neg (by rintro (h | h | h | h | h); exact h HBB.out; exact h (by first | exact .inl k0 | exact .inr (.inl k1) | exact .inr (.inr k2)); exact e0 h; exact e1 h; exact e2 h)]
    clear e0 e1 e2 k0
    go_enter Try.func16, Try.ntmps16
    go_wp2_with (first | (go_at_call 26; (with_reducible refine (is_calls HI.out).mono ?_); rintro e w' ⟨rfl, ⟨nd, rfl⟩⟩) | (go_at_call 27; (with_reducible refine (at_in (HA.out.below (pw_below_drewN (Below.refl _ _) _)) b HBB.out.1 HBB.out.2).mono ?_); rintro e w5 ⟨rfl, hd⟩; have HD := Aside0.mk (drawn_more hd); have HA5 := Aside0.mk (HA.out.below HD.out.below); have cS_ := HA5.out.cS b HBB.out.1 HBB.out.2; have cE_ := HA5.out.cE b HBB.out.1 HBB.out.2; have fS_ := blk_frozen HA5.out.row (b.toNat * 2); have fE_ := blk_frozen HA5.out.row (b.toNat * 2 + 1); clear hd) | ((with_reducible refine gate_store (t := 55) (p := 56) rfl ?_); refine store_event (t := 55) (p := 56) (v := .tmp 55) (w1 := (w5.setCell ⟨ge, b.toNat * 2, none⟩ (.int .i64 st)).setCell ⟨ge, b.toNat * 2 + 1, none⟩ (.int .i64 er)) ?hg ?ho ?hn ?hr ?_; (case ho => rfl); (case hg => rfl); (case hn => rfl); (case hr => first | (go_simp; done) | (go_simp; rfl)); intro w6 hw; have HA6 := Aside0.mk (show LAt lo w6 g ge _ from by rw [hw]; exact HA5.out.put2 b st er); have HW6 := Aside0.mk hw; clear hw))
    go_ret
    exact ⟨by first | rfl | (simp; done), ⟨ge, HA6.out⟩, by rw [HW6.out]; exact ((below_lower HD.out.below HLO.out).setCell HA.out.lo _).setCell HA.out.lo _, by rw [HW6.out]; exact ((KeepL.of_below HD.out.below).put (p := ⟨ge, b.toNat * 2, none⟩) (Nat.le_of_lt HA.out.lt) _).put (p := ⟨ge, b.toNat * 2 + 1, none⟩) (Nat.le_of_lt HA.out.lt) _⟩
  have g0 : (st == 0) = false := beq_eq_false_iff_ne.mpr k0
  by_cases k1 : st = 2
  · have g1 : (st == 2) = true := beq_iff_eq.mpr k1
    by_cases e0 : er < 0
    · have f0 : decide (er < 0) = true := decide_eq_true e0
      rw [show setR s b st er = (2, s) from if_pos (.inr (.inr (.inl e0)))]
      clear e0 k0 k1
      go_enter Try.func16, Try.ntmps16
      go_wp2_with (first | (go_at_call 26; (with_reducible refine (is_calls HI.out).mono ?_); rintro e w' ⟨rfl, ⟨nd, rfl⟩⟩) | (go_at_call 27; (with_reducible refine (at_in (HA.out.below (pw_below_drewN (Below.refl _ _) _)) b HBB.out.1 HBB.out.2).mono ?_); rintro e w5 ⟨rfl, hd⟩; have HD := Aside0.mk (drawn_more hd); have HA5 := Aside0.mk (HA.out.below HD.out.below); have cS_ := HA5.out.cS b HBB.out.1 HBB.out.2; have cE_ := HA5.out.cE b HBB.out.1 HBB.out.2; have fS_ := blk_frozen HA5.out.row (b.toNat * 2); have fE_ := blk_frozen HA5.out.row (b.toNat * 2 + 1); clear hd))
      go_ret
      exact ⟨by first | rfl | (simp; done), ⟨ge, HA5.out⟩, below_lower HD.out.below HLO.out, KeepL.of_below HD.out.below⟩
    have f0 : decide (er < 0) = false := decide_eq_false e0
    by_cases e1 : 2147483648 ≤ er
    · have f1 : decide (2147483648 ≤ er) = true := decide_eq_true e1
      rw [show setR s b st er = (2, s) from if_pos (.inr (.inr (.inr (.inl e1))))]
      clear e0 e1 k0 k1
      go_enter Try.func16, Try.ntmps16
      go_wp2_with (first | (go_at_call 26; (with_reducible refine (is_calls HI.out).mono ?_); rintro e w' ⟨rfl, ⟨nd, rfl⟩⟩) | (go_at_call 27; (with_reducible refine (at_in (HA.out.below (pw_below_drewN (Below.refl _ _) _)) b HBB.out.1 HBB.out.2).mono ?_); rintro e w5 ⟨rfl, hd⟩; have HD := Aside0.mk (drawn_more hd); have HA5 := Aside0.mk (HA.out.below HD.out.below); have cS_ := HA5.out.cS b HBB.out.1 HBB.out.2; have cE_ := HA5.out.cE b HBB.out.1 HBB.out.2; have fS_ := blk_frozen HA5.out.row (b.toNat * 2); have fE_ := blk_frozen HA5.out.row (b.toNat * 2 + 1); clear hd))
      go_ret
      exact ⟨by first | rfl | (simp; done), ⟨ge, HA5.out⟩, below_lower HD.out.below HLO.out, KeepL.of_below HD.out.below⟩
    have f1 : decide (2147483648 ≤ er) = false := decide_eq_false e1
    by_cases e2 : eS s.E b = 1
    · have f2 : (eS s.E b == 1) = true := beq_iff_eq.mpr e2
      rw [show setR s b st er = (2, s) from if_pos (.inr (.inr (.inr (.inr e2))))]
      clear e0 e1 e2 k0 k1
      go_enter Try.func16, Try.ntmps16
      go_wp2_with (first | (go_at_call 26; (with_reducible refine (is_calls HI.out).mono ?_); rintro e w' ⟨rfl, ⟨nd, rfl⟩⟩) | (go_at_call 27; (with_reducible refine (at_in (HA.out.below (pw_below_drewN (Below.refl _ _) _)) b HBB.out.1 HBB.out.2).mono ?_); rintro e w5 ⟨rfl, hd⟩; have HD := Aside0.mk (drawn_more hd); have HA5 := Aside0.mk (HA.out.below HD.out.below); have cS_ := HA5.out.cS b HBB.out.1 HBB.out.2; have cE_ := HA5.out.cE b HBB.out.1 HBB.out.2; have fS_ := blk_frozen HA5.out.row (b.toNat * 2); have fE_ := blk_frozen HA5.out.row (b.toNat * 2 + 1); clear hd))
      go_ret
      exact ⟨by first | rfl | (simp; done), ⟨ge, HA5.out⟩, below_lower HD.out.below HLO.out, KeepL.of_below HD.out.below⟩
    have f2 : (eS s.E b == 1) = false := beq_eq_false_iff_ne.mpr e2
    rw [show setR s b st er = (0, { s with E := s.E.set b.toNat ⟨st, er⟩ }) from if_neg (by rintro (h | h | h | h | h); exact h HBB.out; exact h (by first | exact .inl k0 | exact .inr (.inl k1) | exact .inr (.inr k2)); exact e0 h; exact e1 h; exact e2 h)]
    clear e0 e1 e2 k0 k1
    go_enter Try.func16, Try.ntmps16
    go_wp2_with (first | (go_at_call 26; (with_reducible refine (is_calls HI.out).mono ?_); rintro e w' ⟨rfl, ⟨nd, rfl⟩⟩) | (go_at_call 27; (with_reducible refine (at_in (HA.out.below (pw_below_drewN (Below.refl _ _) _)) b HBB.out.1 HBB.out.2).mono ?_); rintro e w5 ⟨rfl, hd⟩; have HD := Aside0.mk (drawn_more hd); have HA5 := Aside0.mk (HA.out.below HD.out.below); have cS_ := HA5.out.cS b HBB.out.1 HBB.out.2; have cE_ := HA5.out.cE b HBB.out.1 HBB.out.2; have fS_ := blk_frozen HA5.out.row (b.toNat * 2); have fE_ := blk_frozen HA5.out.row (b.toNat * 2 + 1); clear hd) | ((with_reducible refine gate_store (t := 55) (p := 56) rfl ?_); refine store_event (t := 55) (p := 56) (v := .tmp 55) (w1 := (w5.setCell ⟨ge, b.toNat * 2, none⟩ (.int .i64 st)).setCell ⟨ge, b.toNat * 2 + 1, none⟩ (.int .i64 er)) ?hg ?ho ?hn ?hr ?_; (case ho => rfl); (case hg => rfl); (case hn => rfl); (case hr => first | (go_simp; done) | (go_simp; rfl)); intro w6 hw; have HA6 := Aside0.mk (show LAt lo w6 g ge _ from by rw [hw]; exact HA5.out.put2 b st er); have HW6 := Aside0.mk hw; clear hw))
    go_ret
    exact ⟨by first | rfl | (simp; done), ⟨ge, HA6.out⟩, by rw [HW6.out]; exact ((below_lower HD.out.below HLO.out).setCell HA.out.lo _).setCell HA.out.lo _, by rw [HW6.out]; exact ((KeepL.of_below HD.out.below).put (p := ⟨ge, b.toNat * 2, none⟩) (Nat.le_of_lt HA.out.lt) _).put (p := ⟨ge, b.toNat * 2 + 1, none⟩) (Nat.le_of_lt HA.out.lt) _⟩
  have g1 : (st == 2) = false := beq_eq_false_iff_ne.mpr k1
  by_cases k2 : st = 3
  · have g2 : (st == 3) = true := beq_iff_eq.mpr k2
    by_cases e0 : er < 0
    · have f0 : decide (er < 0) = true := decide_eq_true e0
      rw [show setR s b st er = (2, s) from if_pos (.inr (.inr (.inl e0)))]
      clear e0 k0 k1 k2
      go_enter Try.func16, Try.ntmps16
      go_wp2_with (first | (go_at_call 26; (with_reducible refine (is_calls HI.out).mono ?_); rintro e w' ⟨rfl, ⟨nd, rfl⟩⟩) | (go_at_call 27; (with_reducible refine (at_in (HA.out.below (pw_below_drewN (Below.refl _ _) _)) b HBB.out.1 HBB.out.2).mono ?_); rintro e w5 ⟨rfl, hd⟩; have HD := Aside0.mk (drawn_more hd); have HA5 := Aside0.mk (HA.out.below HD.out.below); have cS_ := HA5.out.cS b HBB.out.1 HBB.out.2; have cE_ := HA5.out.cE b HBB.out.1 HBB.out.2; have fS_ := blk_frozen HA5.out.row (b.toNat * 2); have fE_ := blk_frozen HA5.out.row (b.toNat * 2 + 1); clear hd))
      go_ret
      exact ⟨by first | rfl | (simp; done), ⟨ge, HA5.out⟩, below_lower HD.out.below HLO.out, KeepL.of_below HD.out.below⟩
    have f0 : decide (er < 0) = false := decide_eq_false e0
    by_cases e1 : 2147483648 ≤ er
    · have f1 : decide (2147483648 ≤ er) = true := decide_eq_true e1
      rw [show setR s b st er = (2, s) from if_pos (.inr (.inr (.inr (.inl e1))))]
      clear e0 e1 k0 k1 k2
      go_enter Try.func16, Try.ntmps16
      go_wp2_with (first | (go_at_call 26; (with_reducible refine (is_calls HI.out).mono ?_); rintro e w' ⟨rfl, ⟨nd, rfl⟩⟩) | (go_at_call 27; (with_reducible refine (at_in (HA.out.below (pw_below_drewN (Below.refl _ _) _)) b HBB.out.1 HBB.out.2).mono ?_); rintro e w5 ⟨rfl, hd⟩; have HD := Aside0.mk (drawn_more hd); have HA5 := Aside0.mk (HA.out.below HD.out.below); have cS_ := HA5.out.cS b HBB.out.1 HBB.out.2; have cE_ := HA5.out.cE b HBB.out.1 HBB.out.2; have fS_ := blk_frozen HA5.out.row (b.toNat * 2); have fE_ := blk_frozen HA5.out.row (b.toNat * 2 + 1); clear hd))
      go_ret
      exact ⟨by first | rfl | (simp; done), ⟨ge, HA5.out⟩, below_lower HD.out.below HLO.out, KeepL.of_below HD.out.below⟩
    have f1 : decide (2147483648 ≤ er) = false := decide_eq_false e1
    by_cases e2 : eS s.E b = 1
    · have f2 : (eS s.E b == 1) = true := beq_iff_eq.mpr e2
      rw [show setR s b st er = (2, s) from if_pos (.inr (.inr (.inr (.inr e2))))]
      clear e0 e1 e2 k0 k1 k2
      go_enter Try.func16, Try.ntmps16
      go_wp2_with (first | (go_at_call 26; (with_reducible refine (is_calls HI.out).mono ?_); rintro e w' ⟨rfl, ⟨nd, rfl⟩⟩) | (go_at_call 27; (with_reducible refine (at_in (HA.out.below (pw_below_drewN (Below.refl _ _) _)) b HBB.out.1 HBB.out.2).mono ?_); rintro e w5 ⟨rfl, hd⟩; have HD := Aside0.mk (drawn_more hd); have HA5 := Aside0.mk (HA.out.below HD.out.below); have cS_ := HA5.out.cS b HBB.out.1 HBB.out.2; have cE_ := HA5.out.cE b HBB.out.1 HBB.out.2; have fS_ := blk_frozen HA5.out.row (b.toNat * 2); have fE_ := blk_frozen HA5.out.row (b.toNat * 2 + 1); clear hd))
      go_ret
      exact ⟨by first | rfl | (simp; done), ⟨ge, HA5.out⟩, below_lower HD.out.below HLO.out, KeepL.of_below HD.out.below⟩
    have f2 : (eS s.E b == 1) = false := beq_eq_false_iff_ne.mpr e2
    rw [show setR s b st er = (0, { s with E := s.E.set b.toNat ⟨st, er⟩ }) from if_neg (by rintro (h | h | h | h | h); exact h HBB.out; exact h (by first | exact .inl k0 | exact .inr (.inl k1) | exact .inr (.inr k2)); exact e0 h; exact e1 h; exact e2 h)]
    clear e0 e1 e2 k0 k1 k2
    go_enter Try.func16, Try.ntmps16
    go_wp2_with (first | (go_at_call 26; (with_reducible refine (is_calls HI.out).mono ?_); rintro e w' ⟨rfl, ⟨nd, rfl⟩⟩) | (go_at_call 27; (with_reducible refine (at_in (HA.out.below (pw_below_drewN (Below.refl _ _) _)) b HBB.out.1 HBB.out.2).mono ?_); rintro e w5 ⟨rfl, hd⟩; have HD := Aside0.mk (drawn_more hd); have HA5 := Aside0.mk (HA.out.below HD.out.below); have cS_ := HA5.out.cS b HBB.out.1 HBB.out.2; have cE_ := HA5.out.cE b HBB.out.1 HBB.out.2; have fS_ := blk_frozen HA5.out.row (b.toNat * 2); have fE_ := blk_frozen HA5.out.row (b.toNat * 2 + 1); clear hd) | ((with_reducible refine gate_store (t := 55) (p := 56) rfl ?_); refine store_event (t := 55) (p := 56) (v := .tmp 55) (w1 := (w5.setCell ⟨ge, b.toNat * 2, none⟩ (.int .i64 st)).setCell ⟨ge, b.toNat * 2 + 1, none⟩ (.int .i64 er)) ?hg ?ho ?hn ?hr ?_; (case ho => rfl); (case hg => rfl); (case hn => rfl); (case hr => first | (go_simp; done) | (go_simp; rfl)); intro w6 hw; have HA6 := Aside0.mk (show LAt lo w6 g ge _ from by rw [hw]; exact HA5.out.put2 b st er); have HW6 := Aside0.mk hw; clear hw))
    go_ret
    exact ⟨by first | rfl | (simp; done), ⟨ge, HA6.out⟩, by rw [HW6.out]; exact ((below_lower HD.out.below HLO.out).setCell HA.out.lo _).setCell HA.out.lo _, by rw [HW6.out]; exact ((KeepL.of_below HD.out.below).put (p := ⟨ge, b.toNat * 2, none⟩) (Nat.le_of_lt HA.out.lt) _).put (p := ⟨ge, b.toNat * 2 + 1, none⟩) (Nat.le_of_lt HA.out.lt) _⟩
  have g2 : (st == 3) = false := beq_eq_false_iff_ne.mpr k2
  rw [show setR s b st er = (2, s) from if_pos (.inr (.inl (by rintro (h | h | h); exact k0 h; exact k1 h; exact k2 h)))]
  clear k0 k1 k2
  go_enter Try.func16, Try.ntmps16
  go_wp2_with (first | (go_at_call 26; (with_reducible refine (is_calls HI.out).mono ?_); rintro e w' ⟨rfl, ⟨nd, rfl⟩⟩) | (go_at_call 27; (with_reducible refine (at_in (HA.out.below (pw_below_drewN (Below.refl _ _) _)) b HBB.out.1 HBB.out.2).mono ?_); rintro e w5 ⟨rfl, hd⟩; have HD := Aside0.mk (drawn_more hd); have HA5 := Aside0.mk (HA.out.below HD.out.below); have cS_ := HA5.out.cS b HBB.out.1 HBB.out.2; have cE_ := HA5.out.cE b HBB.out.1 HBB.out.2; have fS_ := blk_frozen HA5.out.row (b.toNat * 2); have fE_ := blk_frozen HA5.out.row (b.toNat * 2 + 1); clear hd))
  go_ret
  exact ⟨by first | rfl | (simp; done), ⟨ge, HA5.out⟩, below_lower HD.out.below HLO.out, KeepL.of_below HD.out.below⟩
def freeR (s : Lg) (b : Int) : Int × Lg := if ¬ (0 ≤ b ∧ b < (s.E.length : Int)) then (2, s) else (if eS s.E b ≠ 2 then (33, s) else (0, { s with E := setS s.E b 0 }))
set_option maxHeartbeats 8000000 in
set_option maxRecDepth 100000 in
theorem Free_calls {lo : Nat} {w : World} {g : Nat} {s : Lg} (b : Int) (hI : IsL lo w g s) :
    Calls Try.prog 20 #[.pointer (some ⟨g, 0, none⟩), .int .i64 b] w fun e w' => e = .returned (.int .i64 (freeR s b).1) ∧ IsL lo w' g (freeR s b).2 ∧ Below lo w w' ∧ KeepL g w w' := by
  have HI := Aside0.mk hI
  have hlo : lo ≤ w.heap.size := by have := hI.lo_le; have := hI.lt; omega
  have HLO := Aside0.mk hlo
  clear hlo
  by_cases hbb : 0 ≤ b ∧ b < (s.E.length : Int)
  case neg =>
    rw [show freeR s b = (2, s) from if_pos hbb]
    have HO := Aside0.mk (show b < 0 ∨ (s.E.length : Int) ≤ b by omega)
    clear hI hbb
    go_enter Try.func20, Try.ntmps20
    go_wp2_with (first | (go_at_call 26; (with_reducible refine (is_calls HI.out).mono ?_); rintro e w' ⟨rfl, ⟨nd, rfl⟩⟩) | (go_at_call 27; (with_reducible refine (at_out (HI.out.drewN _) b HO.out).mono ?_); rintro e w5 ⟨rfl, hd⟩; have HD := Aside0.mk (drawn_more hd); clear hd))
    go_ret
    obtain ⟨nd, rfl⟩ := HD.out
    exact ⟨by first | rfl | (simp; done), HI.out.drewN nd, pw_below_drewN (Below.refl _ _) nd, KeepL.of_below (pw_below_drewN (Below.refl _ _) nd)⟩
  obtain ⟨ge, h⟩ := hI
  have HA := Aside0.mk h
  have HBB := Aside0.mk hbb
  have e1 : freeR s b = if eS s.E b ≠ 2 then (33, s) else (0, { s with E := setS s.E b 0 }) := if_neg (fun h => h hbb)
  rw [e1]
  clear h hbb e1
  by_cases k0 : eS s.E b = 2
  · rw [if_neg (fun h => h k0)]
    have g0 : (eS s.E b != 2) = false := bne_eq_false_iff_eq.mpr k0
    clear k0
    go_enter Try.func20, Try.ntmps20
    go_wp2_with (first | (go_at_call 26; (with_reducible refine (is_calls HI.out).mono ?_); rintro e w' ⟨rfl, ⟨nd, rfl⟩⟩) | (go_at_call 27; (with_reducible refine (at_in (HA.out.below (pw_below_drewN (Below.refl _ _) _)) b HBB.out.1 HBB.out.2).mono ?_); rintro e w5 ⟨rfl, hd⟩; have HD := Aside0.mk (drawn_more hd); have HA5 := Aside0.mk (HA.out.below HD.out.below); have cS_ := HA5.out.cS b HBB.out.1 HBB.out.2; have cE_ := HA5.out.cE b HBB.out.1 HBB.out.2; have fS_ := blk_frozen HA5.out.row (b.toNat * 2); have fE_ := blk_frozen HA5.out.row (b.toNat * 2 + 1); clear hd) | ((with_reducible refine gate_store (t := 3) (p := 27) rfl ?_); refine store_event (t := 3) (p := 27) (v := .const (.int .i64 0)) (w1 := w5.setCell ⟨ge, b.toNat * 2, none⟩ (.int .i64 0)) ?hg ?ho ?hn ?hr ?_; (case ho => rfl); (case hg => rfl); (case hn => rfl); (case hr => first | (go_simp; done) | (go_simp; rfl)); intro w6 hw; have HA6 := Aside0.mk (show LAt lo w6 g ge _ from by rw [hw]; exact HA5.out.putS b 0); have HW6 := Aside0.mk hw; clear hw))
    go_ret
    exact ⟨by first | rfl | (simp; done), ⟨ge, HA6.out⟩, by rw [HW6.out]; exact (below_lower HD.out.below HLO.out).setCell HA.out.lo _, by rw [HW6.out]; exact (KeepL.of_below HD.out.below).put (p := ⟨ge, b.toNat * 2, none⟩) (Nat.le_of_lt HA.out.lt) _⟩
  · rw [if_pos k0]
    have g0 : (eS s.E b != 2) = true := bne_iff_ne.mpr k0
    clear k0
    go_enter Try.func20, Try.ntmps20
    go_wp2_with (first | (go_at_call 26; (with_reducible refine (is_calls HI.out).mono ?_); rintro e w' ⟨rfl, ⟨nd, rfl⟩⟩) | (go_at_call 27; (with_reducible refine (at_in (HA.out.below (pw_below_drewN (Below.refl _ _) _)) b HBB.out.1 HBB.out.2).mono ?_); rintro e w5 ⟨rfl, hd⟩; have HD := Aside0.mk (drawn_more hd); have HA5 := Aside0.mk (HA.out.below HD.out.below); have cS_ := HA5.out.cS b HBB.out.1 HBB.out.2; have cE_ := HA5.out.cE b HBB.out.1 HBB.out.2; have fS_ := blk_frozen HA5.out.row (b.toNat * 2); have fE_ := blk_frozen HA5.out.row (b.toNat * 2 + 1); clear hd))
    go_ret
    exact ⟨by first | rfl | (simp; done), ⟨ge, HA5.out⟩, below_lower HD.out.below HLO.out, KeepL.of_below HD.out.below⟩
/- a ledger that is none -/
set_option maxHeartbeats 8000000 in
theorem Take_nil (w : World) : Calls Try.prog 15 #[.pointer none] w fun e w' => e = .returned (.tuple #[.int .i64 0, .bool false]) ∧ Drawn0 w w' := by
  go_enter Try.func15, Try.ntmps15
  go_wp2_with (first | (go_at_call 26; (with_reducible refine (is_nil _).mono ?_); rintro e w' ⟨rfl, ⟨nd, rfl⟩⟩))
  go_ret2
  exact ⟨by first | rfl | (simp; done), by repeat (first | exact Drawn0.refl _ | apply Drawn0.step | exact ⟨_, rfl⟩)⟩
set_option maxHeartbeats 8000000 in
theorem Set_nil (a b c : Int) (w : World) : Calls Try.prog 16 #[.pointer none, .int .i64 a, .int .i64 b, .int .i64 c] w fun e w' => e = .returned (.int .i64 1) ∧ Drawn0 w w' := by
  go_enter Try.func16, Try.ntmps16
  go_wp2_with (first | (go_at_call 26; (with_reducible refine (is_nil _).mono ?_); rintro e w' ⟨rfl, ⟨nd, rfl⟩⟩))
  go_ret
  exact ⟨by first | rfl | (simp; done), by repeat (first | exact Drawn0.refl _ | apply Drawn0.step | exact ⟨_, rfl⟩)⟩
set_option maxHeartbeats 8000000 in
theorem Free_nil (a : Int) (w : World) : Calls Try.prog 20 #[.pointer none, .int .i64 a] w fun e w' => e = .returned (.int .i64 1) ∧ Drawn0 w w' := by
  go_enter Try.func20, Try.ntmps20
  go_wp2_with (first | (go_at_call 26; (with_reducible refine (is_nil _).mono ?_); rintro e w' ⟨rfl, ⟨nd, rfl⟩⟩))
  go_ret
  exact ⟨by first | rfl | (simp; done), by repeat (first | exact Drawn0.refl _ | apply Drawn0.step | exact ⟨_, rfl⟩)⟩
set_option maxHeartbeats 8000000 in
theorem Advance_nil (n : Int) (w : World) : Calls Try.prog 17 #[.pointer none, .int .i64 n] w fun e w' => e = .returned (.int .i64 1) ∧ Below w.heap.size w w' := by
  go_enter Try.func17, Try.ntmps17
  go_wp2_with (first | ((with_reducible refine gate_dst (N := 2) rfl ?_); refine box_event ?hg (N := 2) ?hd (cs := #[.pointer none]) (t := 24) ?hr ?_; (case hd => rfl); (case hg => rfl); (case hr => first | (go_simp; done) | (go_simp; rfl)); intro b2 hg wa hbox hb; have HBa := Aside0.mk hb; have H2a := Aside0.mk hbox; clear hbox hb hg) | ((with_reducible refine gate_dst (N := 3) rfl ?_); refine box_event ?hg (N := 3) ?hd (cs := #[.int .i64 n]) (t := 3) ?hr ?_; (case hd => rfl); (case hg => rfl); (case hr => first | (go_simp; done) | (go_simp; rfl)); intro b3 hg wb hbox hb; have HBb := Aside0.mk (below_step HBa.out hb); have H2b := Aside0.mk (blk_below H2a.out hb); have kk2 : wb.cell? ⟨b2, 0, none⟩ = some (.pointer none) := (blk_cell H2b.out 0).trans rfl; clear hbox hb hg HBa H2a) | (go_at_call 28; (with_reducible refine (with_nil _ _).mono ?_); rintro e w' ⟨rfl, ⟨nd, rfl⟩⟩))
  go_ret
  exact ⟨by first | rfl | (simp; done), pw_below_drewN HBb.out _⟩
set_option maxHeartbeats 8000000 in
theorem End_nil (n : Int) (w : World) : Calls Try.prog 30 #[.pointer none, .int .i64 n] w fun e w' => e = .returned (.int .i64 1) ∧ Below w.heap.size w w' := by
  go_enter Try.func30, Try.ntmps30
  go_wp2_with (first | ((with_reducible refine gate_dst (N := 2) rfl ?_); refine box_event ?hg (N := 2) ?hd (cs := #[.pointer none]) (t := 24) ?hr ?_; (case hd => rfl); (case hg => rfl); (case hr => first | (go_simp; done) | (go_simp; rfl)); intro b2 hg wa hbox hb; have HBa := Aside0.mk hb; have H2a := Aside0.mk hbox; clear hbox hb hg) | ((with_reducible refine gate_dst (N := 3) rfl ?_); refine box_event ?hg (N := 3) ?hd (cs := #[.int .i64 n]) (t := 3) ?hr ?_; (case hd => rfl); (case hg => rfl); (case hr => first | (go_simp; done) | (go_simp; rfl)); intro b3 hg wb hbox hb; have HBb := Aside0.mk (below_step HBa.out hb); have H2b := Aside0.mk (blk_below H2a.out hb); have kk2 : wb.cell? ⟨b2, 0, none⟩ = some (.pointer none) := (blk_cell H2b.out 0).trans rfl; clear hbox hb hg HBa H2a) | (go_at_call 28; (with_reducible refine (with_nil _ _).mono ?_); rintro e w' ⟨rfl, ⟨nd, rfl⟩⟩))
  go_ret
  exact ⟨by first | rfl | (simp; done), pw_below_drewN HBb.out _⟩

theorem Close_nil (w : World) : Calls Try.prog 18 #[.pointer none] w fun e w' => e = .returned (.int .i64 1) ∧ Below w.heap.size w w' := by
  go_enter Try.func18, Try.ntmps18
  go_wp2_with (first | (go_at_call 30; (with_reducible refine (End_nil 2 _).mono ?_); rintro e w5 ⟨rfl, h1⟩))
  go_ret
  exact ⟨by first | rfl | (simp; done), h1⟩
theorem Fail_nil (w : World) : Calls Try.prog 19 #[.pointer none] w fun e w' => e = .returned (.int .i64 1) ∧ Below w.heap.size w w' := by
  go_enter Try.func19, Try.ntmps19
  go_wp2_with (first | (go_at_call 30; (with_reducible refine (End_nil 3 _).mono ?_); rintro e w5 ⟨rfl, h1⟩))
  go_ret
  exact ⟨by first | rfl | (simp; done), h1⟩
end Go.Proofs.Ytpjmmmgjiaallaa.M
