/-
  An argument that is a load, or a number: what it reads as, in the words of the walk.
-/
import Derived.Test.YtgdkikclniamlaaMx0
import Derived.ProofKit
import Derived.OpenShut
import Derived.Deep.Slices
import Derived.ChangeSame
namespace Go.Proofs.Ytgdkikclniamlaa.Open
set_option linter.unusedSimpArgs false
open Go.ChangeShapes Go.WideShapes Go.ChangeAt Go.RowKit Go.Deep
theorem cells35 : Try.prog.cellsOf 35 = 7 := by kernel_rfl
theorem cells3 : Try.prog.cellsOf 3 = 1 := by kernel_rfl
theorem load_of {H : Type} {enc : TypeId × Value → H} {W : World} {base : Nat} {v : Value} {d : DataW H} {p : List MemPlace} (hv : Value.okWide Try.prog W .any base 35 v) (h : DataW.Trod enc Try.prog W 0 (fun _ => true) true 35 v d p) :
    ∃ a0 a1 a2 a3 a4 a5 a6, v = .agg #[.int .i64 a0, .int .i64 a1, .int .i64 a2, .int .i64 a3, .int .i64 a4, .int .i64 a5, .int .i64 a6] := by
  obtain ⟨cs, rfl, hsz⟩ := okWide_struct Try.underlying35 hv
  rw [cells35] at hsz
  obtain ⟨fuel, hf⟩ := h
  obtain ⟨xs, n, _, _, hl, hlen, hF⟩ := DataW.trod_struct Try.underlying35 hf
  obtain ⟨c0, c1, c2, c3, c4, c5, c6, rfl⟩ : ∃ c0 c1 c2 c3 c4 c5 c6, cs = #[c0, c1, c2, c3, c4, c5, c6] := by
    match cs, hsz with
    | ⟨[c0, c1, c2, c3, c4, c5, c6]⟩, _ => exact ⟨c0, c1, c2, c3, c4, c5, c6, rfl⟩
  match xs, hlen with
  | [y0, y1, y2, y3, y4, y5, y6], _ =>
    have x0 := hF 0 _ rfl
    have x1 := hF 1 _ rfl
    have x2 := hF 2 _ rfl
    have x3 := hF 3 _ rfl
    have x4 := hF 4 _ rfl
    have x5 := hF 5 _ rfl
    have x6 := hF 6 _ rfl
    simp only [Value.cells, cells3, List.drop_zero, List.drop_succ_cons, List.take_succ_cons, List.take_zero, List.getElem?_cons_zero, List.getElem?_cons_succ] at x0 x1 x2 x3 x4 x5 x6
    obtain ⟨a0, e0, _, _⟩ := DataW.trod_int Try.underlying3 x0
    obtain ⟨a1, e1, _, _⟩ := DataW.trod_int Try.underlying3 x1
    obtain ⟨a2, e2, _, _⟩ := DataW.trod_int Try.underlying3 x2
    obtain ⟨a3, e3, _, _⟩ := DataW.trod_int Try.underlying3 x3
    obtain ⟨a4, e4, _, _⟩ := DataW.trod_int Try.underlying3 x4
    obtain ⟨a5, e5, _, _⟩ := DataW.trod_int Try.underlying3 x5
    obtain ⟨a6, e6, _, _⟩ := DataW.trod_int Try.underlying3 x6
    simp [cells3] at e0 e1 e2 e3 e4 e5 e6
    subst e0 e1 e2 e3 e4 e5 e6
    exact ⟨a0, a1, a2, a3, a4, a5, a6, rfl⟩
theorem byte_wf {x : Int} (h : (Lit.int .u8 x).wf = true) : 0 ≤ x ∧ x ≤ 255 := by
  have hmin : IntKind.u8.min = 0 := rfl
  have hmax : IntKind.u8.max = 255 := rfl
  simp only [Lit.wf, Bool.and_eq_true, decide_eq_true_eq] at h
  omega
end Go.Proofs.Ytgdkikclniamlaa.Open
