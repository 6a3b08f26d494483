/-
  An argument that is rows of bytes: what it reads as, in the words of the walk.
-/
import Derived.Test.YtibkckcpclkclaaMx0
import Derived.ProofKit
import Derived.Deep.Slices
namespace Go.Proofs.Ytibkckcpclkclaa.Open
open Go.ChangeShapes Go.WideShapes Go.ChangeAt Go.RowKit Go.Deep Go.Proofs.YtibkckcpclkclaaW.PrintWords
def Bytes (l : List Int) : Prop := ∀ x ∈ l, 0 ≤ x ∧ x ≤ 255
theorem cells30 : Try.prog.cellsOf 30 = 1 := by kernel_rfl
theorem cells5 : Try.prog.cellsOf 5 = 1 := by kernel_rfl
theorem byte_wf {x : Int} (h : (Lit.int .u8 x).wf = true) : 0 ≤ x ∧ x ≤ 255 := by
  have hmin : IntKind.u8.min = 0 := rfl
  have hmax : IntKind.u8.max = 255 := rfl
  simp only [Lit.wf, Bool.and_eq_true, decide_eq_true_eq] at h
  omega
theorem row_of {H : Type} {enc : TypeId × Value → H} {W : World} {n : Nat} {v : Value} {y : DataW H × List MemPlace} (h : DataW.trod enc Try.prog W 0 (fun _ => true) true n 30 [v] = some y) :
    ∃ A c p, v = .slice A p.length c ∧ p.length ≤ c ∧ (Kd.int .u8).C W A p.length p ∧ Bytes p := by
  rcases open_ints Try.underlying30 Try.underlying5 cells5 h with ⟨hcs, _⟩ | ⟨x, l, c, zs, hcs, _, hl, hm, hz, _, hcell, hwz⟩
  · have e : v = .slice none 0 0 := by simpa using hcs
    subst e
    exact ⟨none, 0, [], rfl, Nat.le_refl _, ⟨rfl, by decide, fun h0 => by simp at h0⟩, fun x hx => by cases hx⟩
  · have e : v = .slice (some x) l c := by simpa using hcs
    subst e
    obtain ⟨p, hp, hr, hm', hw, hc⟩ := ReadsInt.ofRowC (w := W) (a := some x) (len := l) (cap := c) (zs := zs) (k := .u8) (.inr ⟨x, rfl, hl, hm, by simpa using hz, hcell, hwz⟩)
    subst hp
    exact ⟨some x, c, p, rfl, hc, Kd.C_of_reads (d := (0 : Int)) (h1 := fun _ => rfl) hr, fun z hz => byte_wf (hw z hz)⟩
theorem rows_of {H : Type} {enc : TypeId × Value → H} {W : World} {n : Nat} {A : Option Addr} {len cap : Nat} {y : DataW H × List MemPlace} (h : DataW.trod enc Try.prog W 0 (fun _ => true) true n 28 [.slice A len cap] = some y) :
    ∃ l : List (List Int), len = l.length ∧ len ≤ cap ∧ Kd.C (Kd.slice 5 (Kd.int .u8)) W A l.length l ∧ (∀ p ∈ l, Bytes p) ∧ l.length ≤ maxLen := by
  rcases open_slice1 Try.underlying28 cells30 h with ⟨hcs, _⟩ | ⟨a, len', cap', m, n', V, D, Pl, hcs, _, hl, hm, hmm, _, hel⟩
  · simp at hcs
    obtain ⟨rfl, rfl, rfl⟩ := hcs
    exact ⟨[], rfl, Nat.le_refl _, ⟨rfl, by decide, fun h0 => by simp at h0⟩, (fun p hp => by cases hp), by decide⟩
  · simp at hcs
    obtain ⟨rfl, rfl, rfl⟩ := hcs
    have hle : len ≤ m := by rw [hmm]; split <;> omega
    have key : ∀ i, i < len → ∃ q : Option Addr × Nat × List Int, V i = .slice q.1 q.2.2.length q.2.1 ∧ q.2.2.length ≤ q.2.1 ∧ (Kd.int .u8).C W q.1 q.2.2.length q.2.2 ∧ Bytes q.2.2 := by
      intro i hi
      obtain ⟨A, c, p, h1, h2, h3, h4⟩ := row_of (hel i (by omega)).2
      exact ⟨⟨A, c, p⟩, h1, h2, h3, h4⟩
    obtain ⟨f, hf⟩ := choose_lt key
    refine ⟨(List.range len).map fun i => (f i).2.2, by simp, hl, ⟨by simp, by unfold maxLen at hm; simp; omega, fun _ => ⟨a, rfl, fun j p hj => ?_⟩⟩, ?_, by simp; omega⟩
    · have hjl : j < len := by
        by_cases hj' : j < len
        · exact hj'
        · rw [List.getElem?_eq_none (by simp; omega)] at hj; cases hj
      have hp : p = (f j).2.2 := by
        rw [List.getElem?_eq_getElem (by simp; omega)] at hj
        simpa using hj.symm
      subst hp
      obtain ⟨h1, h2, h3, _⟩ := hf j hjl
      refine ⟨[V j], rfl, ⟨(f j).1, (f j).2.1, by rw [h1], h2, h3⟩, fun i u hu => ?_⟩
      cases i with
      | zero =>
        have e : u = V j := by simpa using hu.symm
        subst e
        have := (hel j (by omega)).1
        simpa [Kd.slice] using this
      | succ i => simp at hu
    · intro p hp
      obtain ⟨i, hi, rfl⟩ := List.mem_map.mp hp
      exact (hf i (List.mem_range.mp hi)).2.2.2
end Go.Proofs.Ytibkckcpclkclaa.Open
