/-
  Arguments that are lists of what is done: what they read as, in the words of the walk.
-/
import Derived.Test.YtpjmmmgjiaallaaBa
import Derived.ProofKit
import Derived.OpenShut
import Derived.Deep.Slices
import Derived.Deep.Strs
import Derived.Lib.SmallJoins
namespace Go.Proofs.Ytpjmmmgjiaallaa.Open
open Go.ChangeShapes Go.WideShapes Go.ChangeAt Go.RowKit Go.Deep Go.Proofs.YtpjmmmgjiaallaaW.PrintWords Go.Proofs.Ytpjmmmgjiaallaa.M
theorem cells31 : Try.prog.cellsOf 31 = 4 := by kernel_rfl
theorem cells3 : Try.prog.cellsOf 3 = 1 := by kernel_rfl
theorem byte_wf {x : Int} (h : (Lit.int .u8 x).wf = true) : 0 ≤ x ∧ x ≤ 255 := by
  have hmin : IntKind.u8.min = 0 := rfl
  have hmax : IntKind.u8.max = 255 := rfl
  simp only [Lit.wf, Bool.and_eq_true, decide_eq_true_eq] at h
  omega
theorem do_of {H : Type} {enc : TypeId × Value → H} {W : World} {n : Nat} {cs : List Value} {y : DataW H × List MemPlace} (h : DataW.trod enc Try.prog W 0 (fun _ => true) true n 31 cs = some y) :
    ∃ x : S31, cs = [.int .i64 x.f0, .int .i64 x.f1, .int .i64 x.f2, .int .i64 x.f3] := by
  obtain ⟨y0, y1, y2, y3, m, _, hl, h0, h1, h2, h3⟩ := Go.Joins.trod_struct4 Try.underlying31 h
  rw [cells31] at hl
  match cs, hl with
  | [c0, c1, c2, c3], _ =>
    simp only [cells3, List.drop_zero, List.drop_succ_cons, List.take_succ_cons, List.take_zero] at h0 h1 h2 h3
    obtain ⟨a, e0, _, _⟩ := DataW.trod_int Try.underlying3 h0
    obtain ⟨b, e1, _, _⟩ := DataW.trod_int Try.underlying3 h1
    obtain ⟨c, e2, _, _⟩ := DataW.trod_int Try.underlying3 h2
    obtain ⟨d, e3, _, _⟩ := DataW.trod_int Try.underlying3 h3
    simp at e0 e1 e2 e3
    subst e0 e1 e2 e3
    exact ⟨⟨a, b, c, d⟩, rfl⟩
theorem slice_of {H : Type} {enc : TypeId × Value → H} {W : World} {n : Nat} {A : Option Addr} {len cap : Nat} {y : DataW H × List MemPlace} (h : DataW.trod enc Try.prog W 0 (fun _ => true) true n 22 [.slice A len cap] = some y) :
    ∃ l : List S31, len = l.length ∧ Dos W A l := by
  rcases open_slice Try.underlying22 h with ⟨hcs, _⟩ | ⟨a, len', cap', m, n', D, Pl, hcs, _, hl, hm, hmm, _, hel⟩
  · simp at hcs
    obtain ⟨rfl, rfl, rfl⟩ := hcs
    exact ⟨[], rfl, fun i hi => by cases hi⟩
  · simp at hcs
    obtain ⟨rfl, rfl, rfl⟩ := hcs
    have hle : len ≤ m := by rw [hmm]; split <;> omega
    have key : ∀ i, i < len → ∃ x : S31, W.cell? (a.add (i * 4)) = some (.int .i64 x.f0) ∧ W.cell? (a.add (i * 4 + 1)) = some (.int .i64 x.f1) ∧ W.cell? (a.add (i * 4 + 2)) = some (.int .i64 x.f2) ∧ W.cell? (a.add (i * 4 + 3)) = some (.int .i64 x.f3) := by
      intro i hi
      obtain ⟨cs', h1, h2⟩ := hel i (by omega)
      obtain ⟨x, rfl⟩ := do_of h2
      rw [cells31] at h1
      obtain ⟨_, _, hc⟩ := World.cells?_some h1
      refine ⟨x, ?_, ?_, ?_, ?_⟩
      · have := hc 0 (by decide); simpa [Addr.add] using this
      · have := hc 1 (by decide); rw [Addr.add_add] at this; simpa using this
      · have := hc 2 (by decide); rw [Addr.add_add] at this; simpa using this
      · have := hc 3 (by decide); rw [Addr.add_add] at this; simpa using this
    refine ⟨List.replicate len ⟨0, 0, 0, 0⟩, by simp, fun i hi => ?_⟩
    obtain ⟨x, hx⟩ := key i (by simpa using hi)
    exact ⟨a, x, rfl, hx⟩
end Go.Proofs.Ytpjmmmgjiaallaa.Open
