/-
  Arguments that are lists of what is done, and small arrays of numbers: what they read as, in the words of the walk.
-/
import Derived.Test.YtjcmpfiklmpoaaaMx0
import Derived.ProofKit
import Derived.OpenShut
import Derived.Deep.Slices
import Derived.Deep.Strs
namespace Go.Proofs.Ytjcmpfiklmpoaaa.Open
open Go.ChangeShapes Go.WideShapes Go.ChangeAt Go.RowKit Go.Deep Go.Proofs.YtjcmpfiklmpoaaaW.PrintWords Go.Proofs.Ytjcmpfiklmpoaaa.M
theorem cells32 : Try.prog.cellsOf 32 = 3 := by kernel_rfl
theorem cells3 : Try.prog.cellsOf 3 = 1 := by kernel_rfl
theorem int_wf {x : Int} (h : (Lit.int .i64 x).wf = true) : -9223372036854775808 ≤ x ∧ x ≤ 9223372036854775807 := by
  have hmin : IntKind.i64.min = -9223372036854775808 := rfl
  have hmax : IntKind.i64.max = 9223372036854775807 := rfl
  simp only [Lit.wf, Bool.and_eq_true, decide_eq_true_eq] at h
  omega
theorem byte_wf {x : Int} (h : (Lit.int .u8 x).wf = true) : 0 ≤ x ∧ x ≤ 255 := by
  have hmin : IntKind.u8.min = 0 := rfl
  have hmax : IntKind.u8.max = 255 := rfl
  simp only [Lit.wf, Bool.and_eq_true, decide_eq_true_eq] at h
  omega
abbrev W64 (x : Int) : Prop := -9223372036854775808 ≤ x ∧ x ≤ 9223372036854775807
theorem cand_of {H : Type} {enc : TypeId × Value → H} {W : World} {n : Nat} {cs : List Value} {y : DataW H × List MemPlace} (h : DataW.trod enc Try.prog W 0 (fun _ => true) true n 32 cs = some y) :
    ∃ x : S32, cs = [.int .i64 x.f0, .int .i64 x.f1, .int .i64 x.f2] ∧ W64 x.f1 ∧ W64 x.f2 := by
  obtain ⟨y0, y1, y2, m, _, hl, h0, h1, h2⟩ := trod_struct3 Try.underlying32 h
  rw [cells32] at hl
  match cs, hl with
  | [c0, c1, c2], _ =>
    simp only [cells3, List.drop_zero, List.drop_succ_cons, List.take_succ_cons, List.take_zero] at h0 h1 h2
    obtain ⟨a, e0, _, _⟩ := DataW.trod_int Try.underlying3 h0
    obtain ⟨b, e1, _, wb⟩ := DataW.trod_int Try.underlying3 h1
    obtain ⟨c, e2, _, wc⟩ := DataW.trod_int Try.underlying3 h2
    simp at e0 e1 e2
    subst e0 e1 e2
    exact ⟨⟨a, b, c⟩, rfl, int_wf wb, int_wf wc⟩
theorem slice_of {H : Type} {enc : TypeId × Value → H} {W : World} {n : Nat} {A : Option Addr} {len cap : Nat} {y : DataW H × List MemPlace} (h : DataW.trod enc Try.prog W 0 (fun _ => true) true n 23 [.slice A len cap] = some y) :
    ∃ l : List S32, len = l.length ∧ len ≤ cap ∧ Kd.C k32 W A l.length l ∧ l.length ≤ maxLen ∧ ∀ d ∈ l, W64 d.f1 ∧ W64 d.f2 := by
  rcases open_slice Try.underlying23 h with ⟨hcs, _⟩ | ⟨a, len', cap', m, n', D, Pl, hcs, _, hl, hm, hmm, _, hel⟩
  · simp at hcs
    obtain ⟨rfl, rfl, rfl⟩ := hcs
    exact ⟨[], rfl, Nat.le_refl _, ⟨rfl, by decide, fun h0 => by simp at h0⟩, by decide, fun d hd => by cases hd⟩
  · simp at hcs
    obtain ⟨rfl, rfl, rfl⟩ := hcs
    have hle : len ≤ m := by rw [hmm]; split <;> omega
    have key : ∀ i, i < len → ∃ x : S32, W.cell? (a.add (i * 3)) = some (.int .i64 x.f0) ∧ W.cell? (a.add (i * 3 + 1)) = some (.int .i64 x.f1) ∧ W.cell? (a.add (i * 3 + 2)) = some (.int .i64 x.f2) ∧ W64 x.f1 ∧ W64 x.f2 := by
      intro i hi
      obtain ⟨cs', h1, h2⟩ := hel i (by omega)
      obtain ⟨x, rfl, wx⟩ := cand_of h2
      rw [cells32] at h1
      obtain ⟨_, _, hc⟩ := World.cells?_some h1
      refine ⟨x, ?_, ?_, ?_, wx⟩
      · have := hc 0 (by decide); simpa [Addr.add] using this
      · have := hc 1 (by decide); rw [Addr.add_add] at this; simpa using this
      · have := hc 2 (by decide); rw [Addr.add_add] at this; simpa using this
    have : Inhabited S32 := ⟨⟨0, 0, 0⟩⟩
    obtain ⟨f, hf⟩ := choose_lt key
    refine ⟨(List.range len).map f, by simp, hl, ⟨by simp, by unfold maxLen at hm; simp; omega, fun _ => ⟨a, rfl, fun j p hj => ?_⟩⟩, by simp; omega, fun d hd => ?_⟩
    · have hjl : j < len := by
        by_cases hj' : j < len
        · exact hj'
        · rw [List.getElem?_eq_none (by simp; omega)] at hj; cases hj
      have hp : p = f j := by
        rw [List.getElem?_eq_getElem (by simp; omega)] at hj
        simpa using hj.symm
      subst hp
      obtain ⟨h1, h2, h3, _⟩ := hf j hjl
      refine ⟨[.int .i64 (f j).f0, .int .i64 (f j).f1, .int .i64 (f j).f2], rfl, ⟨[_], [_, _], rfl, rfl, ⟨[_], [_], rfl, rfl, rfl⟩⟩, fun i u hu => ?_⟩
      match i, hu with
      | 0, hu =>
        have e : u = .int .i64 (f j).f0 := by simpa using hu.symm
        subst e; exact h1
      | 1, hu =>
        have e : u = .int .i64 (f j).f1 := by simpa using hu.symm
        subst e; exact h2
      | 2, hu =>
        have e : u = .int .i64 (f j).f2 := by simpa using hu.symm
        subst e; exact h3
      | i + 3, hu => simp at hu
    · obtain ⟨j, hj, rfl⟩ := List.mem_map.mp hd
      exact (hf j (List.mem_range.mp hj)).2.2.2
theorem okWide_arr {P : Program} {w : World} {r : Reach} {base : Nat} {t n e : Nat} {v : Value} (ht : P.underlying t = some (.array n e)) (h : Value.okWide P w r base t v) : ∃ cs, v = .agg cs ∧ cs.size = P.cellsOf t := by
  simp only [Value.okWide, ht] at h
  obtain ⟨cs, h1, h2, _⟩ := h
  exact ⟨cs, h1, h2⟩
theorem cells5 : Try.prog.cellsOf 5 = 1 := by kernel_rfl
theorem cells45 : Try.prog.cellsOf 45 = 3 := by kernel_rfl
theorem arr3u_of {H : Type} {enc : TypeId × Value → H} {W : World} {base : Nat} {v : Value} {d : DataW H} {p : List MemPlace} (hv : Value.okWide Try.prog W .any base 45 v) (h : DataW.Trod enc Try.prog W 0 (fun _ => true) true 45 v d p) :
    ∃ a b c, v = .agg #[.int .u8 a, .int .u8 b, .int .u8 c] ∧ (Lit.int .u8 a).wf = true ∧ (Lit.int .u8 b).wf = true ∧ (Lit.int .u8 c).wf = true := by
  obtain ⟨cs, rfl, hsz⟩ := okWide_arr Try.underlying45 hv
  rw [cells45] at hsz
  obtain ⟨fuel, hf⟩ := h
  obtain ⟨xs, m, _, _, _, hxl, hx⟩ := DataW.trod_array Try.underlying45 hf
  obtain ⟨c0, c1, c2, rfl⟩ : ∃ c0 c1 c2, cs = #[c0, c1, c2] := by
    match cs, hsz with
    | ⟨[c0, c1, c2]⟩, _ => exact ⟨c0, c1, c2, rfl⟩
  have x0 := hx 0 (by decide)
  have x1 := hx 1 (by decide)
  have x2 := hx 2 (by decide)
  rw [List.getElem?_eq_getElem (by omega)] at x0 x1 x2
  simp only [Value.cells, cells5, Nat.mul_one, List.drop_zero, List.drop_succ_cons, List.take_succ_cons, List.take_zero] at x0 x1 x2
  obtain ⟨a, e0, _, wa⟩ := DataW.trod_int Try.underlying5 x0
  obtain ⟨b, e1, _, wb⟩ := DataW.trod_int Try.underlying5 x1
  obtain ⟨c, e2, _, wc⟩ := DataW.trod_int Try.underlying5 x2
  simp at e0 e1 e2
  subst e0 e1 e2
  exact ⟨a, b, c, rfl, wa, wb, wc⟩
theorem cells22 : Try.prog.cellsOf 22 = 3 := by kernel_rfl
theorem arr3_of {H : Type} {enc : TypeId × Value → H} {W : World} {base : Nat} {v : Value} {d : DataW H} {p : List MemPlace} (hv : Value.okWide Try.prog W .any base 22 v) (h : DataW.Trod enc Try.prog W 0 (fun _ => true) true 22 v d p) :
    ∃ a b c, v = .agg #[.int .i64 a, .int .i64 b, .int .i64 c] ∧ (Lit.int .i64 a).wf = true ∧ (Lit.int .i64 b).wf = true ∧ (Lit.int .i64 c).wf = true := by
  obtain ⟨cs, rfl, hsz⟩ := okWide_arr Try.underlying22 hv
  rw [cells22] at hsz
  obtain ⟨fuel, hf⟩ := h
  obtain ⟨xs, m, _, _, _, hxl, hx⟩ := DataW.trod_array Try.underlying22 hf
  obtain ⟨c0, c1, c2, rfl⟩ : ∃ c0 c1 c2, cs = #[c0, c1, c2] := by
    match cs, hsz with
    | ⟨[c0, c1, c2]⟩, _ => exact ⟨c0, c1, c2, rfl⟩
  have x0 := hx 0 (by decide)
  have x1 := hx 1 (by decide)
  have x2 := hx 2 (by decide)
  rw [List.getElem?_eq_getElem (by omega)] at x0 x1 x2
  simp only [Value.cells, cells3, Nat.mul_one, List.drop_zero, List.drop_succ_cons, List.take_succ_cons, List.take_zero] at x0 x1 x2
  obtain ⟨a, e0, _, wa⟩ := DataW.trod_int Try.underlying3 x0
  obtain ⟨b, e1, _, wb⟩ := DataW.trod_int Try.underlying3 x1
  obtain ⟨c, e2, _, wc⟩ := DataW.trod_int Try.underlying3 x2
  simp at e0 e1 e2
  subst e0 e1 e2
  exact ⟨a, b, c, rfl, wa, wb, wc⟩
end Go.Proofs.Ytjcmpfiklmpoaaa.Open
