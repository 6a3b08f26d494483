/-
  The law VictimEnds, in plain Lean over what the printed functions answer.
-/
import Derived.Test.YtlcafhmcambaaaaMx8
import Derived.Test.YtlcafhmcambaaaaEv
namespace Go.Proofs.Ytlcafhmcambaaaa.Ends
open Go.RowKit Go.Proofs.Ytlcafhmcambaaaa.M Go.Proofs.Ytlcafhmcambaaaa.Pl Go.Proofs.Ytlcafhmcambaaaa.Ev Go.Proofs.YtlcafhmcambaaaaW.PrintWords Go.Proofs.YtlcafhmcambaaaaW.PrintMore
theorem neb_iff (x y : S25) : (!(x.f0 == y.f0) || (!(x.f1 == y.f1) || (!(x.f2 == y.f2)))) = false ↔ x = y := by
  obtain ⟨x0, x1, x2⟩ := x
  obtain ⟨y0, y1, y2⟩ := y
  simp
theorem eqb_iff (x y : S25) : (x.f0 == y.f0 && (x.f1 == y.f1 && (x.f2 == y.f2))) = true ↔ x = y := by
  obtain ⟨x0, x1, x2⟩ := x
  obtain ⟨y0, y1, y2⟩ := y
  simp
theorem j1_f {l : List S25} {high n0 n1 : Int} {k : Nat} (ho : okc l = true) (hl : l.length ≤ 60) (h0 : 0 ≤ high) (h1 : high ≤ 2147483648) (hn0 : 0 ≤ n0) (hn1 : 0 ≤ n1) (hk : 100 ≤ k) :
    VictimEnds.j1 k l high false n0 n1 (best true l).f0 (best true l).f1 (best true l).f2 (best false l).f0 (best false l).f1 (best false l).f2 = some true := by
  obtain ⟨k, rfl⟩ : ∃ m, k = m + 1 := ⟨k - 1, by omega⟩
  simp only [VictimEnds.j1, Bool.false_eq_true, if_false]
  rw [choose_f (by omega) (by omega)]
  simp only [Option.bind_some]
  rw [choose_f (by omega) (by omega)]
  simp only [Option.bind_some]
  have hmx : n0 ≤ mx n0 n1 ∧ n1 ≤ mx n0 n1 ∧ 0 ≤ mx n0 n1 := by unfold mx; omega
  have hmn : Go.Proofs.YtlcafhmcambaaaaW.PrintWords.mn n0 n1 ≤ mx n0 n1 ∧ 0 ≤ Go.Proofs.YtlcafhmcambaaaaW.PrintWords.mn n0 n1 := by unfold Go.Proofs.YtlcafhmcambaaaaW.PrintWords.mn mx; omega
  generalize mx n0 n1 = a at *
  generalize Go.Proofs.YtlcafhmcambaaaaW.PrintWords.mn n0 n1 = b at *
  have e1 : chosen l high a = if high - (best false l).f2 ≥ a then (best false l, true) else (best true l, true) := by unfold chosen; rw [if_pos ⟨ho, h0, h1, hmx.2.2⟩]
  have e2 : chosen l high b = if high - (best false l).f2 ≥ b then (best false l, true) else (best true l, true) := by unfold chosen; rw [if_pos ⟨ho, h0, h1, hmn.2⟩]
  by_cases c : high - (best false l).f2 ≥ a
  · rw [e1, if_pos c, (neb_iff (best false l) (best false l)).mpr rfl, if_neg (by simp), e2, if_pos (show high - (best false l).f2 ≥ b by omega), (eqb_iff (best false l) (best false l)).mpr rfl]
    split <;> rfl
  · rw [e1, e2, if_neg c]
    by_cases d : best true l = best false l
    · rw [d]
      split <;> simp
    · have hne : (!((best true l).f0 == (best false l).f0) || (!((best true l).f1 == (best false l).f1) || (!((best true l).f2 == (best false l).f2)))) = true := by
        rw [← Bool.not_eq_false]; intro h; exact d ((neb_iff _ _).mp h)
      rw [hne, if_pos rfl]
theorem main (l : List S25) (high n0 n1 : Int) : ∃ k, VictimEnds.f k l high n0 n1 = some true := by
  refine ⟨1000, ?_⟩
  unfold VictimEnds.f
  rw [awake_f (by omega)]
  simp only [Option.bind_some, if_true]
  by_cases h1 : (l.length : Int) > 60
  · rw [if_pos h1]; rfl
  · rw [if_neg h1]
    by_cases h2 : high < 0
    · rw [if_pos h2]; rfl
    · rw [if_neg h2]
      by_cases h3 : high > 2147483648
      · rw [if_pos h3]; rfl
      · rw [if_neg h3]
        by_cases h4 : n0 < 0
        · rw [if_pos h4]; rfl
        · rw [if_neg h4]
          by_cases h5 : n1 < 0
          · rw [decide_eq_true h5]; rfl
          · rw [decide_eq_false h5]
            show VictimEnds.j0 (999 + 1) l high false n0 n1 = some true
            simp only [VictimEnds.j0, Bool.false_eq_true, if_false]
            rw [cheapest_f (by omega) (by omega)]
            simp only [Option.bind_some]
            rw [freshest_f (by omega) (by omega)]
            simp only [Option.bind_some]
            rw [choose_f (by omega) (by omega)]
            simp only [Option.bind_some]
            rw [choose_f (by omega) (by omega)]
            simp only [Option.bind_some]
            cases ho : okc l with
            | false =>
              have e1 : chosen l high 0 = (⟨0, 0, 0⟩, false) := by unfold chosen; rw [ho]; simp
              have e2 : chosen l high 2147483649 = (⟨0, 0, 0⟩, false) := by unfold chosen; rw [ho]; simp
              rw [e1, e2]; simp
            | true =>
              have hi := best_inr (p := false) ho
              have e1 : chosen l high 0 = if high - (best false l).f2 ≥ 0 then (best false l, true) else (best true l, true) := by unfold chosen; rw [if_pos ⟨ho, by omega, by omega, by omega⟩]
              have e2 : chosen l high 2147483649 = (best true l, true) := by
                unfold chosen; rw [if_pos ⟨ho, by omega, by omega, by omega⟩, if_neg (by unfold inr at hi; omega)]
              have j := fun k (hk : 100 ≤ k) => j1_f (l := l) (high := high) (n0 := n0) (n1 := n1) (k := k) ho (by omega) (by omega) (by omega) (by omega) (by omega) hk
              rw [e2]
              simp only [if_true]
              rw [(neb_iff (best true l) (best true l)).mpr rfl]
              by_cases c : high ≥ (best false l).f2
              · rw [e1, if_pos (show high - (best false l).f2 ≥ 0 by omega), if_pos rfl, if_neg (by simp), if_pos c, (neb_iff (best false l) (best false l)).mpr rfl]
                exact j 999 (by omega)
              · rw [e1, if_neg (show ¬ high - (best false l).f2 ≥ 0 by omega), if_pos rfl, if_neg (by simp), if_neg c]
                exact j 999 (by omega)
end Go.Proofs.Ytlcafhmcambaaaa.Ends
