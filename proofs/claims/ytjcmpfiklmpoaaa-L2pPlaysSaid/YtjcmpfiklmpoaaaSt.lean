/-
  l2p's map in memory: its struct, the two maps that it leads to, the row of valid counts; what they say, as functions and numbers.
-/
import Derived.Test.YtjcmpfiklmpoaaaMx0
import Derived.Maps.OwnSet
namespace Go.Proofs.Ytjcmpfiklmpoaaa.M
open Go.RowKit Go.Maps Go.Proofs.YtjcmpfiklmpoaaaW.PrintWords Go.Proofs.YtjcmpfiklmpoaaaW.PrintLast Go.Proofs.YtjcmpfiklmpoaaaW.PrintMore
set_option linter.unusedVariables false
set_option linter.unusedSimpArgs false
structure St where
  size : Int
  pages : Int
  f : Int → Option Int
  g : Int → Option Int
  n : Nat
  c : Nat
  V : List Int
abbrev Dm := DataW Unit
def Rep (D : Dm) (f : Int → Option Int) : Prop := ∀ k : Int, has D (.int .i64 k) = (f k).isSome ∧ ∀ v, f k = some v → (Lit.int .i64 v).wf = true ∧ ∀ z : Dm, D.atKey (.int .i64 k) z = .lit (.int .i64 v)
theorem keyLit (k : Int) : WideAt.IsKeyLit (.int .i64 k) := trivial
theorem int_ne {a b : Int} (h : a ≠ b) : Lit.int .i64 a ≠ Lit.int .i64 b := fun e => h (by injection e)
theorem Rep.nil : Rep (.map []) (fun _ => none) := fun k => ⟨rfl, fun v h => by cases h⟩
theorem Rep.put {D : Dm} {f : Int → Option Int} (h : Rep D f) (hD : IsMap D) (k : Int) {v : Int} (hv : (Lit.int .i64 v).wf = true) : Rep (D.put (.int .i64 k) (.lit (.int .i64 v))) (fun x => if x = k then some v else f x) := by
  intro x
  by_cases c : x = k
  · subst c
    simp only [if_pos]
    refine ⟨has_put_same hD (keyLit x) _, fun y hy => ?_⟩
    obtain rfl := Option.some.inj hy
    exact ⟨hv, fun z => atKey_put_same hD (keyLit x) _ z⟩
  · simp only [if_neg c]
    obtain ⟨h1, h2⟩ := h x
    exact ⟨(has_put_other (int_ne c) _).trans h1, fun y hy => ⟨(h2 y hy).1, fun z => (atKey_put_other (int_ne c) _ z).trans ((h2 y hy).2 z)⟩⟩
theorem Rep.del {D : Dm} {f : Int → Option Int} (h : Rep D f) (k : Int) : Rep (D.del (.int .i64 k)) (fun x => if x = k then none else f x) := by
  intro x
  by_cases c : x = k
  · subst c
    simp only [if_pos]
    exact ⟨has_del_same, fun y hy => by cases hy⟩
  · simp only [if_neg c]
    obtain ⟨h1, h2⟩ := h x
    exact ⟨(has_del_other (int_ne c)).trans h1, fun y hy => ⟨(h2 y hy).1, fun z => (atKey_del_other (int_ne c) z).trans ((h2 y hy).2 z)⟩⟩
/-- what a lookup tells -/
theorem Rep.look {D : Dm} {f : Int → Option Int} (h : Rep D f) {k c : Int} (hat : D.atKey (.int .i64 k) (.lit (.int .i64 0)) = .lit (.int .i64 c)) : has D (.int .i64 k) = (f k).isSome ∧ c = (f k).getD 0 := by
  obtain ⟨h1, h2⟩ := h k
  refine ⟨h1, ?_⟩
  cases e : f k with
  | none =>
    rw [e] at h1
    rw [atKey_of_not_has h1] at hat
    injection hat with hat
    injection hat with _ hat
    exact hat.symm
  | some v =>
    rw [(h2 v e).2] at hat
    injection hat with hat
    injection hat with _ hat
    exact hat.symm
abbrev Own (W : World) (b c : Nat) (D : Dm) : Prop := W.ownsMap Try.prog 3 (plainElem Try.prog 3) b c D
theorem own_of_block {W W1 : World} {b c : Nat} {D : Dm} (h : Own W b c D) (hb : W1.heap[b]? = W.heap[b]?) : Own W1 b c D := by
  obtain ⟨es, clock, h1, r⟩ := h
  exact ⟨es, clock, hb.trans h1, r⟩
theorem own_blk {W : World} {b c : Nat} {D : Dm} (h : Own W b c D) : ∃ es clock, W.heap[b]? = some (.map es clock) := by
  obtain ⟨es, clock, h1, r⟩ := h
  exact ⟨es, clock, h1⟩
def vals (V : List Int) : Array Value := (V.map (Value.int .i64)).toArray
/-- The map lies in memory: its struct in block g, its parts in the blocks b0, b1, gv. -/
structure At (w0 W : World) (g b0 b1 gv : Nat) (R S : Dm) (s : St) : Prop where
  blk : W.heap[g]? = some (.cells #[.map (some b0), .map (some b1), .slice (some ⟨gv, 0, none⟩) s.V.length s.V.length, .int .i64 s.size, .int .i64 s.pages] 49 (0, 0))
  row : W.heap[gv]? = some (.cells (vals s.V) 3 (0, 0))
  oR : Own W b0 s.c R
  oS : Own W b1 s.c S
  size : Maps.size R = s.n
  rR : Rep R s.f
  rS : Rep S s.g
  ne : b0 ≠ b1
  gg : w0.heap.size ≤ g
  g0 : w0.heap.size ≤ b0
  g1 : w0.heap.size ≤ b1
  g2 : w0.heap.size ≤ gv
  lo : b0 < g ∧ b1 < g ∧ gv < g
def IsS49 (w0 W : World) (g : Nat) (s : St) : Prop := ∃ b0 b1 gv R S, At w0 W g b0 b1 gv R S s
theorem At.kept {w0 W W1 : World} {g b0 b1 gv : Nat} {R S : Dm} {s : St} (h : At w0 W g b0 b1 gv R S s) (e : ∀ i, (i = g ∨ i = b0 ∨ i = b1 ∨ i = gv) → W1.heap[i]? = W.heap[i]?) : At w0 W1 g b0 b1 gv R S s :=
  ⟨(e g (.inl rfl)).trans h.blk, (e gv (.inr (.inr (.inr rfl)))).trans h.row, own_of_block h.oR (e b0 (.inr (.inl rfl))), own_of_block h.oS (e b1 (.inr (.inr (.inl rfl)))), h.size, h.rR, h.rS, h.ne, h.gg, h.g0, h.g1, h.g2, h.lo⟩
theorem At.lts {w0 W : World} {g b0 b1 gv : Nat} {R S : Dm} {s : St} (h : At w0 W g b0 b1 gv R S s) : ∀ i, (i = g ∨ i = b0 ∨ i = b1 ∨ i = gv) → i < W.heap.size := by
  obtain ⟨_, _, k0⟩ := own_blk h.oR
  obtain ⟨_, _, k1⟩ := own_blk h.oS
  rintro i (rfl | rfl | rfl | rfl)
  · exact blk_lt h.blk
  · exact blk_lt k0
  · exact blk_lt k1
  · exact blk_lt h.row
theorem IsS49.below {w0 W : World} {g : Nat} {s : St} {W1 : World} (h : IsS49 w0 W g s) (hw : Below W.heap.size W W1) : IsS49 w0 W1 g s := by
  obtain ⟨b0, b1, gv, R, S, h⟩ := h
  exact ⟨b0, b1, gv, R, S, h.kept fun i hi => hw.block i (h.lts i hi)⟩
theorem IsS49.alloc {w0 W : World} {g : Nat} {s : St} (h : IsS49 w0 W g s) (o : Obj) : IsS49 w0 (W.alloc o) g s := h.below (below_alloc (Below.refl _ _) o)
theorem IsS49.drewN {w0 W : World} {g : Nat} {s : St} (h : IsS49 w0 W g s) (m : Nat) : IsS49 w0 (W.drewN m) g s := by
  obtain ⟨b0, b1, gv, R, S, h⟩ := h
  exact ⟨b0, b1, gv, R, S, h.kept fun i hi => rfl⟩
theorem IsS49.drew {w0 W : World} {g : Nat} {s : St} (h : IsS49 w0 W g s) : IsS49 w0 W.drew g s := by
  obtain ⟨b0, b1, gv, R, S, h⟩ := h
  exact ⟨b0, b1, gv, R, S, h.kept fun i hi => rfl⟩
theorem IsS49.lt {w0 W : World} {g : Nat} {s : St} (h : IsS49 w0 W g s) : g < W.heap.size := by
  obtain ⟨b0, b1, gv, R, S, h⟩ := h
  exact blk_lt h.blk
theorem IsS49.ge {w0 W : World} {g : Nat} {s : St} (h : IsS49 w0 W g s) : w0.heap.size ≤ g := by
  obtain ⟨b0, b1, gv, R, S, h⟩ := h
  exact h.gg
theorem cells_ty {w : World} {g a : Nat} {cs cs' : Array Value} {t t' : TypeId} {fr fr' : Nat × Nat} (h : w.heap[g]? = some (.cells cs t fr)) (h' : w.heap[a]? = some (.cells cs' t' fr')) (ht : t' ≠ t) : g ≠ a := by
  rintro rfl
  rw [h] at h'
  injection h' with h'
  injection h' with _ e
  exact ht e.symm
theorem map_ne_cells {w : World} {g a : Nat} {es : Array MapEntry} {clock : Nat} {cs' : Array Value} {t' : TypeId} {fr' : Nat × Nat} (h : w.heap[g]? = some (.map es clock)) (h' : w.heap[a]? = some (.cells cs' t' fr')) : g ≠ a := by
  rintro rfl
  rw [h] at h'
  injection h' with h'
  cases h'
theorem IsS49.ne_blk {w0 W : World} {g : Nat} {s : St} {a : Nat} {cs : Array Value} {t : TypeId} {fr : Nat × Nat} (h : IsS49 w0 W g s) (hb2 : W.heap[a]? = some (.cells cs t fr)) (ht : t ≠ 49) : g ≠ a := by
  obtain ⟨b0, b1, gv, R, S, h⟩ := h
  exact cells_ty h.blk hb2 ht
theorem At.apart {w0 W : World} {g b0 b1 gv : Nat} {R S : Dm} {s : St} (h : At w0 W g b0 b1 gv R S s) {a : Nat} {cs : Array Value} {t : TypeId} {fr : Nat × Nat} (hb : W.heap[a]? = some (.cells cs t fr)) (ht : t ≠ 49) (ht' : t ≠ 3) : ∀ i, (i = g ∨ i = b0 ∨ i = b1 ∨ i = gv) → i ≠ a := by
  obtain ⟨_, _, k0⟩ := own_blk h.oR
  obtain ⟨_, _, k1⟩ := own_blk h.oS
  rintro i (rfl | rfl | rfl | rfl)
  · exact cells_ty h.blk hb ht
  · exact map_ne_cells k0 hb
  · exact map_ne_cells k1 hb
  · exact cells_ty h.row hb ht'
/-- Three cells of another block are written. -/
theorem IsS49.far3 {w0 W : World} {g : Nat} {s : St} (h : IsS49 w0 W g s) {a : Nat} {cs : Array Value} {t : TypeId} {fr : Nat × Nat} (hb : W.heap[a]? = some (.cells cs t fr)) (ht : t ≠ 49) (ht' : t ≠ 3) (u0 u1 u2 : Value) :
    IsS49 w0 (((W.setCell ⟨a, 0, none⟩ u0).setCell ⟨a, 1, none⟩ u1).setCell ⟨a, 2, none⟩ u2) g s := by
  obtain ⟨b0, b1, gv, R, S, h⟩ := h
  refine ⟨b0, b1, gv, R, S, h.kept fun i hi => ?_⟩
  have hne := h.apart hb ht ht' i hi
  rw [Below.heap_setCell _ ⟨a, 2, none⟩ u2 i hne, Below.heap_setCell _ ⟨a, 1, none⟩ u1 i hne, Below.heap_setCell _ ⟨a, 0, none⟩ u0 i hne]
/-- What Set and Drop leave: blocks of other types, and whatever was made behind the map. -/
def KeepT (g : Nat) (w w' : World) : Prop := w.heap.size ≤ w'.heap.size ∧ (∀ (i : Nat) cs t fr, w.heap[i]? = some (.cells cs t fr) → t ≠ 49 → t ≠ 3 → w'.heap[i]? = some (.cells cs t fr)) ∧ ∀ i, g < i → i < w.heap.size → w'.heap[i]? = w.heap[i]?
theorem KeepT.refl (g : Nat) (w : World) : KeepT g w w := ⟨Nat.le_refl _, fun _ _ _ _ h _ _ => h, fun _ _ _ => rfl⟩
theorem KeepT.blk {g : Nat} {w w' : World} (h : KeepT g w w') {i : Nat} {cs : Array Value} {t : TypeId} {fr : Nat × Nat} (hb : w.heap[i]? = some (.cells cs t fr)) (ht : t ≠ 49) (ht' : t ≠ 3) : w'.heap[i]? = some (.cells cs t fr) := h.2.1 i cs t fr hb ht ht'
theorem KeepT.drewN {g : Nat} {w w1 : World} (h : KeepT g w w1) (m : Nat) : KeepT g w (w1.drewN m) := h
theorem KeepT.drew {g : Nat} {w w1 : World} (h : KeepT g w w1) : KeepT g w w1.drew := h
end Go.Proofs.Ytjcmpfiklmpoaaa.M
