/-
  Arguments that are candidates, and small arrays of numbers: what they read as, in the words of the walk.
-/
import Derived.Test.YtlcafhmcambaaaaMx0
import Derived.ProofKit
import Derived.OpenShut
import Derived.Deep.Slices
import Derived.Deep.Strs
namespace Go.Proofs.Ytlcafhmcambaaaa.Open
open Go.ChangeShapes Go.WideShapes Go.ChangeAt Go.RowKit Go.Deep Go.Proofs.YtlcafhmcambaaaaW.PrintWords Go.Proofs.Ytlcafhmcambaaaa.M
theorem cells25 : Try.prog.cellsOf 25 = 3 := by kernel_rfl
theorem cells3 : Try.prog.cellsOf 3 = 1 := by kernel_rfl
theorem cand_of {H : Type} {enc : TypeId × Value → H} {W : World} {n : Nat} {cs : List Value} {y : DataW H × List MemPlace} (h : DataW.trod enc Try.prog W 0 (fun _ => true) true n 25 cs = some y) :
    ∃ x : S25, cs = [.int .i64 x.f0, .int .i64 x.f1, .int .i64 x.f2] := by
  obtain ⟨y0, y1, y2, m, _, hl, h0, h1, h2⟩ := trod_struct3 Try.underlying25 h
  rw [cells25] at hl
  match cs, hl with
  | [c0, c1, c2], _ =>
    simp only [cells3, List.drop_zero, List.drop_succ_cons, List.take_succ_cons, List.take_zero] at h0 h1 h2
    obtain ⟨a, e0, _, _⟩ := DataW.trod_int Try.underlying3 h0
    obtain ⟨b, e1, _, _⟩ := DataW.trod_int Try.underlying3 h1
    obtain ⟨c, e2, _, _⟩ := DataW.trod_int Try.underlying3 h2
    simp at e0 e1 e2
    subst e0 e1 e2
    exact ⟨⟨a, b, c⟩, rfl⟩
theorem slice_of {H : Type} {enc : TypeId × Value → H} {W : World} {n : Nat} {A : Option Addr} {len cap : Nat} {y : DataW H × List MemPlace} (h : DataW.trod enc Try.prog W 0 (fun _ => true) true n 22 [.slice A len cap] = some y) :
    ∃ l : List S25, len = l.length ∧ len ≤ cap ∧ Kd.C k25 W A l.length l ∧ l.length ≤ maxLen := by
  rcases open_slice Try.underlying22 h with ⟨hcs, _⟩ | ⟨a, len', cap', m, n', D, Pl, hcs, _, hl, hm, hmm, _, hel⟩
  · simp at hcs
    obtain ⟨rfl, rfl, rfl⟩ := hcs
    exact ⟨[], rfl, Nat.le_refl _, ⟨rfl, by decide, fun h0 => by simp at h0⟩, by decide⟩
  · simp at hcs
    obtain ⟨rfl, rfl, rfl⟩ := hcs
    have hle : len ≤ m := by rw [hmm]; split <;> omega
    have key : ∀ i, i < len → ∃ x : S25, W.cell? (a.add (i * 3)) = some (.int .i64 x.f0) ∧ W.cell? (a.add (i * 3 + 1)) = some (.int .i64 x.f1) ∧ W.cell? (a.add (i * 3 + 2)) = some (.int .i64 x.f2) := by
      intro i hi
      obtain ⟨cs', h1, h2⟩ := hel i (by omega)
      obtain ⟨x, rfl⟩ := cand_of h2
      rw [cells25] at h1
      obtain ⟨_, _, hc⟩ := World.cells?_some h1
      refine ⟨x, ?_, ?_, ?_⟩
      · have := hc 0 (by decide); simpa [Addr.add] using this
      · have := hc 1 (by decide); rw [Addr.add_add] at this; simpa using this
      · have := hc 2 (by decide); rw [Addr.add_add] at this; simpa using this
    have : Inhabited S25 := ⟨⟨0, 0, 0⟩⟩
    obtain ⟨f, hf⟩ := choose_lt key
    refine ⟨(List.range len).map f, by simp, hl, ⟨by simp, by unfold maxLen at hm; simp; omega, fun _ => ⟨a, rfl, fun j p hj => ?_⟩⟩, by simp; omega⟩
    have hjl : j < len := by
      by_cases hj' : j < len
      · exact hj'
      · rw [List.getElem?_eq_none (by simp; omega)] at hj; cases hj
    have hp : p = f j := by
      rw [List.getElem?_eq_getElem (by simp; omega)] at hj
      simpa using hj.symm
    subst hp
    obtain ⟨h1, h2, h3⟩ := hf j hjl
    refine ⟨[.int .i64 (f j).f0, .int .i64 (f j).f1, .int .i64 (f j).f2], rfl, ⟨[_], [_, _], rfl, rfl, ⟨[_], [_], rfl, rfl, rfl⟩⟩, fun i u hu => ?_⟩
    match i, hu with
    | 0, hu =>
      have e : u = .int .i64 (f j).f0 := by simpa using hu.symm
      subst e; exact h1
    | 1, hu =>
      have e : u = .int .i64 (f j).f1 := by simpa using hu.symm
      subst e; exact h2
    | 2, hu =>
      have e : u = .int .i64 (f j).f2 := by simpa using hu.symm
      subst e; exact h3
    | i + 3, hu => simp at hu
theorem okWide_arr {P : Program} {w : World} {r : Reach} {base : Nat} {t n e : Nat} {v : Value} (ht : P.underlying t = some (.array n e)) (h : Value.okWide P w r base t v) : ∃ cs, v = .agg cs ∧ cs.size = P.cellsOf t := by
  simp only [Value.okWide, ht] at h
  obtain ⟨cs, h1, h2, _⟩ := h
  exact ⟨cs, h1, h2⟩
theorem cells34 : Try.prog.cellsOf 34 = 2 := by kernel_rfl
theorem cells32 : Try.prog.cellsOf 32 = 3 := by kernel_rfl
theorem arr2_of {H : Type} {enc : TypeId × Value → H} {W : World} {base : Nat} {v : Value} {d : DataW H} {p : List MemPlace} (hv : Value.okWide Try.prog W .any base 34 v) (h : DataW.Trod enc Try.prog W 0 (fun _ => true) true 34 v d p) :
    ∃ a b, v = .agg #[.int .i64 a, .int .i64 b] := by
  obtain ⟨cs, rfl, hsz⟩ := okWide_arr Try.underlying34 hv
  rw [cells34] at hsz
  obtain ⟨fuel, hf⟩ := h
  obtain ⟨xs, m, _, _, _, hxl, hx⟩ := DataW.trod_array Try.underlying34 hf
  obtain ⟨c0, c1, rfl⟩ : ∃ c0 c1, cs = #[c0, c1] := by
    match cs, hsz with
    | ⟨[c0, c1]⟩, _ => exact ⟨c0, c1, rfl⟩
  have x0 := hx 0 (by decide)
  have x1 := hx 1 (by decide)
  rw [List.getElem?_eq_getElem (by omega)] at x0 x1
  simp only [Value.cells, cells3, Nat.zero_mul, Nat.one_mul, List.drop_zero, List.drop_succ_cons, List.take_succ_cons, List.take_zero] at x0 x1
  obtain ⟨a, e0, _, _⟩ := DataW.trod_int Try.underlying3 x0
  obtain ⟨b, e1, _, _⟩ := DataW.trod_int Try.underlying3 x1
  simp at e0 e1
  subst e0 e1
  exact ⟨a, b, rfl⟩
theorem arr3_of {H : Type} {enc : TypeId × Value → H} {W : World} {base : Nat} {v : Value} {d : DataW H} {p : List MemPlace} (hv : Value.okWide Try.prog W .any base 32 v) (h : DataW.Trod enc Try.prog W 0 (fun _ => true) true 32 v d p) :
    ∃ a b c, v = .agg #[.int .i64 a, .int .i64 b, .int .i64 c] ∧ (Lit.int .i64 c).wf = true := by
  obtain ⟨cs, rfl, hsz⟩ := okWide_arr Try.underlying32 hv
  rw [cells32] at hsz
  obtain ⟨fuel, hf⟩ := h
  obtain ⟨xs, m, _, _, _, hxl, hx⟩ := DataW.trod_array Try.underlying32 hf
  obtain ⟨c0, c1, c2, rfl⟩ : ∃ c0 c1 c2, cs = #[c0, c1, c2] := by
    match cs, hsz with
    | ⟨[c0, c1, c2]⟩, _ => exact ⟨c0, c1, c2, rfl⟩
  have x0 := hx 0 (by decide)
  have x1 := hx 1 (by decide)
  have x2 := hx 2 (by decide)
  rw [List.getElem?_eq_getElem (by omega)] at x0 x1 x2
  simp only [Value.cells, cells3, Nat.mul_one, List.drop_zero, List.drop_succ_cons, List.take_succ_cons, List.take_zero] at x0 x1 x2
  obtain ⟨a, e0, _, _⟩ := DataW.trod_int Try.underlying3 x0
  obtain ⟨b, e1, _, _⟩ := DataW.trod_int Try.underlying3 x1
  obtain ⟨c, e2, _, w⟩ := DataW.trod_int Try.underlying3 x2
  simp at e0 e1 e2
  subst e0 e1 e2
  exact ⟨a, b, c, rfl, w⟩
end Go.Proofs.Ytlcafhmcambaaaa.Open
