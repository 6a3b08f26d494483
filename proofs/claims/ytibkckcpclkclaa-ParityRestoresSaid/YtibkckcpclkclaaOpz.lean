/-
  Arguments that are small arrays of bytes: what they read as.
-/
import Derived.Test.YtibkckcpclkclaaOpen
import Derived.OpenShut
namespace Go.Proofs.Ytibkckcpclkclaa.Open
open Go.ChangeShapes Go.WideShapes Go.ChangeAt Go.RowKit Go.Deep Go.Proofs.YtibkckcpclkclaaW.PrintWords
theorem okWide_arr {P : Program} {w : World} {r : Reach} {base : Nat} {t n e : Nat} {v : Value} (ht : P.underlying t = some (.array n e)) (h : Value.okWide P w r base t v) : ∃ cs, v = .agg cs ∧ cs.size = P.cellsOf t := by
  simp only [Value.okWide, ht] at h
  obtain ⟨cs, h1, h2, _⟩ := h
  exact ⟨cs, h1, h2⟩
theorem cells37 : Try.prog.cellsOf 37 = 3 := by kernel_rfl
theorem cells38 : Try.prog.cellsOf 38 = 2 := by kernel_rfl
theorem arr2_of {H : Type} {enc : TypeId × Value → H} {W : World} {base : Nat} {v : Value} {d : DataW H} {p : List MemPlace} (hv : Value.okWide Try.prog W .any base 38 v) (h : DataW.Trod enc Try.prog W 0 (fun _ => true) true 38 v d p) :
    ∃ a b, v = .agg #[.int .u8 a, .int .u8 b] ∧ (0 ≤ a ∧ a ≤ 255) ∧ (0 ≤ b ∧ b ≤ 255) := by
  obtain ⟨cs, rfl, hsz⟩ := okWide_arr Try.underlying38 hv
  rw [cells38] at hsz
  obtain ⟨fuel, hf⟩ := h
  obtain ⟨xs, m, _, _, _, hxl, hx⟩ := DataW.trod_array Try.underlying38 hf
  obtain ⟨c0, c1, rfl⟩ : ∃ c0 c1, cs = #[c0, c1] := by
    match cs, hsz with
    | ⟨[c0, c1]⟩, _ => exact ⟨c0, c1, rfl⟩
  have x0 := hx 0 (by decide)
  have x1 := hx 1 (by decide)
  rw [List.getElem?_eq_getElem (by omega)] at x0 x1
  simp only [Value.cells, cells5, Nat.zero_mul, Nat.one_mul, List.drop_zero, List.drop_succ_cons, List.take_succ_cons, List.take_zero] at x0 x1
  obtain ⟨a, e0, _, w0⟩ := DataW.trod_int Try.underlying5 x0
  obtain ⟨b, e1, _, w1⟩ := DataW.trod_int Try.underlying5 x1
  simp at e0 e1
  subst e0 e1
  exact ⟨a, b, rfl, byte_wf w0, byte_wf w1⟩
theorem arr3_of {H : Type} {enc : TypeId × Value → H} {W : World} {base : Nat} {v : Value} {d : DataW H} {p : List MemPlace} (hv : Value.okWide Try.prog W .any base 37 v) (h : DataW.Trod enc Try.prog W 0 (fun _ => true) true 37 v d p) :
    ∃ a b c, v = .agg #[.int .u8 a, .int .u8 b, .int .u8 c] ∧ (0 ≤ a ∧ a ≤ 255) ∧ (0 ≤ b ∧ b ≤ 255) ∧ (0 ≤ c ∧ c ≤ 255) := by
  obtain ⟨cs, rfl, hsz⟩ := okWide_arr Try.underlying37 hv
  rw [cells37] at hsz
  obtain ⟨fuel, hf⟩ := h
  obtain ⟨xs, m, _, _, _, hxl, hx⟩ := DataW.trod_array Try.underlying37 hf
  obtain ⟨c0, c1, c2, rfl⟩ : ∃ c0 c1 c2, cs = #[c0, c1, c2] := by
    match cs, hsz with
    | ⟨[c0, c1, c2]⟩, _ => exact ⟨c0, c1, c2, rfl⟩
  have x0 := hx 0 (by decide)
  have x1 := hx 1 (by decide)
  have x2 := hx 2 (by decide)
  rw [List.getElem?_eq_getElem (by omega)] at x0 x1 x2
  simp only [Value.cells, cells5, Nat.mul_one, List.drop_zero, List.drop_succ_cons, List.take_succ_cons, List.take_zero] at x0 x1 x2
  obtain ⟨a, e0, _, w0⟩ := DataW.trod_int Try.underlying5 x0
  obtain ⟨b, e1, _, w1⟩ := DataW.trod_int Try.underlying5 x1
  obtain ⟨c, e2, _, w2⟩ := DataW.trod_int Try.underlying5 x2
  simp at e0 e1 e2
  subst e0 e1 e2
  exact ⟨a, b, c, rfl, byte_wf w0, byte_wf w1, byte_wf w2⟩
end Go.Proofs.Ytibkckcpclkclaa.Open
