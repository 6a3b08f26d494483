/-
  The reference's Spread: what it answers.
-/
import Derived.Test.YtpjmmmgjiaallaaQt
namespace Go.Proofs.Ytpjmmmgjiaallaa.M
open Go.RowKit Go.Proofs.YtpjmmmgjiaallaaW.PrintWords Go.Proofs.YtpjmmmgjiaallaaW.PrintLast Go.Proofs.YtpjmmmgjiaallaaW.PrintMore
set_option linter.unusedVariables false
set_option linter.unusedSimpArgs false
def qsI (r : Rg) (x : Int) : Nat → Int → Int → Int
  | 0, _, m => m
  | e + 1, y, m => if rd r.S x ≠ 3 ∧ rd r.S y ≠ 3 ∧ m < wrap64 (rd r.E x - rd r.E y) then qsI r x e (y + 1) (wrap64 (rd r.E x - rd r.E y)) else qsI r x e (y + 1) m
def qsO (r : Rg) : Nat → Int → Int → Int
  | 0, _, m => m
  | d + 1, x, m => qsO r d (x + 1) (qsI r x r.S.length 0 m)
def qSpread (r : Rg) : Int := qsO r r.S.length 0 0
set_option maxHeartbeats 8000000 in
set_option maxRecDepth 100000 in
theorem qSpread_calls {lo : Nat} {w : World} {h : Nat} {r : Rg} (H : IsQ lo w h r) (hlen : r.S.length < 1000000) :
    Calls Try.prog 11 #[.pointer (some ⟨h, 0, none⟩)] w fun e w' => e = .returned (.int .i64 (qSpread r)) ∧ Drawn0 w w' := by
  obtain ⟨a1, k1, a2, k2, H⟩ := H
  have HQ := Aside0.mk H
  have HL := Aside0.mk hlen
  obtain ⟨res, hres⟩ : ∃ res, res = qSpread r := ⟨_, rfl⟩
  rw [← hres]
  have HR := Aside0.mk hres
  clear H hlen hres
  go_enter Try.func11, Try.ntmps11
  go_wp2
  go_loopg [3, 4, 5] (r.S.length + 1) (fun kq v3 v4 v5 w' => ∃ (m x : Int) (d n : Nat), v3 = .int .i64 m ∧ v4 = .int .i64 x ∧ Aside0 (0 ≤ x ∧ x + d = r.S.length) ∧ Aside0 (kq = d + 1) ∧ Aside0 (qsO r d x m = res) ∧ w' = w.drewN n)
  case atStart => exact ⟨0, 0, r.S.length, 0, rfl, rfl, ⟨Int.le_refl _, Int.zero_add _⟩, ⟨rfl⟩, ⟨HR.out.symm⟩, rfl⟩
  case round =>
    obtain ⟨m, x, d, n, rfl, rfl, Hn, HK, HF, rfl⟩ := hrel
    have c0_ := HQ.out.c0
    have c1_ := HQ.out.c1
    cases d with
    | zero =>
      have hb : decide (x < (r.S.length : Int)) = false := decide_eq_false (by have := Hn.out; omega)
      have hnr : m = res := HF.out
      subst hnr
      clear HR
      go_wp2
      go_ret
      exact ⟨by first | rfl | (simp; done), by first | exact ⟨_, rfl⟩ | exact Drawn0.step (Drawn0.refl _) _⟩
    | succ d =>
      have hb : decide (x < (r.S.length : Int)) = true := decide_eq_true (by have := Hn.out; omega)
      have cS_ := HQ.out.cS x Hn.out.1 (by have := Hn.out; omega)
      have cE_ := HQ.out.cE x Hn.out.1 (by have := Hn.out; omega)
      have p1 := eq_true Hn.out.1
      have p2 := eq_true (show x < (r.S.length : Int) by have := Hn.out; omega)
      have hw : wrap64 (x + 1) = x + 1 := w64s (by have := Hn.out; omega) (by have := Hn.out; have := HL.out; omega)
      have HW := Aside0.mk hw
      have hf := HF.out
      simp only [qsO] at hf
      obtain ⟨ri, hri⟩ : ∃ ri, ri = qsI r x r.S.length 0 m := ⟨_, rfl⟩
      rw [← hri] at hf
      have HRI := Aside0.mk hri
      have HF1 := Aside0.mk hf
      clear hw HF HR hf hri
      go_wp2
      go_loopg [3, 5] (r.S.length + 1) (fun kq v3 v5 w' => ∃ (m y : Int) (e n : Nat), v3 = .int .i64 m ∧ v5 = .int .i64 y ∧ Aside0 (0 ≤ y ∧ y + e = r.S.length) ∧ Aside0 (kq = e + 1) ∧ Aside0 (qsI r x e y m = ri) ∧ w' = w.drewN n)
      case atStart => exact ⟨m, 0, r.S.length, n, rfl, rfl, ⟨Int.le_refl _, Int.zero_add _⟩, ⟨rfl⟩, ⟨HRI.out.symm⟩, rfl⟩
      case round =>
        clear HRI hb
        obtain ⟨m, y, e, n, rfl, rfl, Hy, HK2, HF, rfl⟩ := hrel
        cases e with
        | zero =>
          have hb2 : decide (y < (r.S.length : Int)) = false := decide_eq_false (by have := Hy.out; omega)
          have hnr : m = ri := HF.out
          subst hnr
          go_wp2
          go_roundg (d + 1)
          case measure => have := HK.out; omega
          case rel => exact ⟨m, x + 1, d, n, rfl, by rw [HW.out], ⟨by have := Hn.out; omega, by have := Hn.out; omega⟩, ⟨rfl⟩, HF1, rfl⟩
        | succ e =>
          have hb2 : decide (y < (r.S.length : Int)) = true := decide_eq_true (by have := Hy.out; omega)
          have dS_ := HQ.out.cS y Hy.out.1 (by have := Hy.out; omega)
          have dE_ := HQ.out.cE y Hy.out.1 (by have := Hy.out; omega)
          have q1 := eq_true Hy.out.1
          have q2 := eq_true (show y < (r.S.length : Int) by have := Hy.out; omega)
          have hw2 : wrap64 (y + 1) = y + 1 := w64s (by have := Hy.out; omega) (by have := Hy.out; have := HL.out; omega)
          have HW2 := Aside0.mk hw2
          have hf := HF.out
          simp only [qsI] at hf
          clear hw2 HF
          by_cases c5 : rd r.S x = 3
          · have c5b : (rd r.S x != 3) = false := bne_eq_false_iff_eq.mpr c5
            rw [if_neg (fun z => z.1 c5)] at hf
            clear c5
            have HF2 := Aside0.mk hf
            clear hf
            go_wp2
            repeat (go_quiet (fail); try go_wp2)
            go_roundg (e + 1)
            case measure => have := HK2.out; omega
            case rel => exact ⟨_, y + 1, e, _, rfl, by rw [HW2.out], ⟨by have := Hy.out; omega, by have := Hy.out; omega⟩, ⟨rfl⟩, HF2, by first | rfl | (rw [World.drewN_drewN]) | (rw [World.drewN_drewN, World.drewN_drewN])⟩
          have c5b : (rd r.S x != 3) = true := bne_iff_ne.mpr c5
          by_cases c6 : rd r.S y = 3
          · have c6b : (rd r.S y != 3) = false := bne_eq_false_iff_eq.mpr c6
            rw [if_neg (fun z => z.2.1 c6)] at hf
            clear c5 c6
            have HF2 := Aside0.mk hf
            clear hf
            go_wp2
            repeat (go_quiet (fail); try go_wp2)
            go_roundg (e + 1)
            case measure => have := HK2.out; omega
            case rel => exact ⟨_, y + 1, e, _, rfl, by rw [HW2.out], ⟨by have := Hy.out; omega, by have := Hy.out; omega⟩, ⟨rfl⟩, HF2, by first | rfl | (rw [World.drewN_drewN]) | (rw [World.drewN_drewN, World.drewN_drewN])⟩
          have c6b : (rd r.S y != 3) = true := bne_iff_ne.mpr c6
          by_cases c7 : m < wrap64 (rd r.E x - rd r.E y)
          · have c7b : decide (m < wrap64 (rd r.E x - rd r.E y)) = true := decide_eq_true c7
            rw [if_pos ⟨c5, c6, c7⟩] at hf
            clear c5 c6 c7
            have HF2 := Aside0.mk hf
            clear hf
            go_wp2
            repeat (go_quiet (fail); try go_wp2)
            go_roundg (e + 1)
            case measure => have := HK2.out; omega
            case rel => exact ⟨_, y + 1, e, _, rfl, by rw [HW2.out], ⟨by have := Hy.out; omega, by have := Hy.out; omega⟩, ⟨rfl⟩, HF2, by first | rfl | (rw [World.drewN_drewN]) | (rw [World.drewN_drewN, World.drewN_drewN])⟩
          · have c7b : decide (m < wrap64 (rd r.E x - rd r.E y)) = false := decide_eq_false c7
            rw [if_neg (fun z => c7 z.2.2)] at hf
            clear c5 c6 c7
            have HF2 := Aside0.mk hf
            clear hf
            go_wp2
            repeat (go_quiet (fail); try go_wp2)
            go_roundg (e + 1)
            case measure => have := HK2.out; omega
            case rel => exact ⟨_, y + 1, e, _, rfl, by rw [HW2.out], ⟨by have := Hy.out; omega, by have := Hy.out; omega⟩, ⟨rfl⟩, HF2, by first | rfl | (rw [World.drewN_drewN]) | (rw [World.drewN_drewN, World.drewN_drewN])⟩
end Go.Proofs.Ytpjmmmgjiaallaa.M
