/-
  Candidates in two orders, in plain Lean: the least of a list does not hang on the list's order.
-/
import Derived.Test.YtlcafhmcambaaaaMx2
namespace Go.Proofs.Ytlcafhmcambaaaa.Pl
open Go.Proofs.Ytlcafhmcambaaaa.M
def ka (p : Bool) (x : S25) : Int := if p then x.f1 else x.f2
def kb (p : Bool) (x : S25) : Int := if p then x.f2 else x.f1
def lt (p : Bool) (x y : S25) : Prop := ka p x < ka p y ∨ ka p x = ka p y ∧ (kb p x < kb p y ∨ kb p x = kb p y ∧ x.f0 < y.f0)
instance (p : Bool) (x y : S25) : Decidable (lt p x y) := by unfold lt; infer_instance
def mn (p : Bool) (b : S25) (l : List S25) : S25 := l.foldl (fun b x => if lt p x b then x else b) b
theorem mn_cons (p : Bool) (b x : S25) (l : List S25) : mn p b (x :: l) = mn p (if lt p x b then x else b) l := rfl
theorem lt_irrefl (p : Bool) (x : S25) : ¬ lt p x x := by unfold lt; omega
theorem lt_trans {p : Bool} {x y z : S25} (h : lt p x y) (h' : lt p y z) : lt p x z := by unfold lt at *; omega
theorem not_lt_trans {p : Bool} {x y z : S25} (h : ¬ lt p y x) (h' : ¬ lt p z y) : ¬ lt p z x := by unfold lt at *; omega
theorem eq_of_not_lt {p : Bool} {x y : S25} (h : ¬ lt p x y) (h' : ¬ lt p y x) : x = y := by
  obtain ⟨x0, x1, x2⟩ := x
  obtain ⟨y0, y1, y2⟩ := y
  cases p <;> simp only [lt, ka, kb, Bool.false_eq_true, if_false, if_true] at h h' <;> simp only [S25.mk.injEq] <;> omega
theorem mn_spec (p : Bool) (l : List S25) : ∀ b, (mn p b l = b ∨ mn p b l ∈ l) ∧ ¬ lt p b (mn p b l) ∧ ∀ y ∈ l, ¬ lt p y (mn p b l) := by
  induction l with
  | nil => intro b; exact ⟨.inl rfl, lt_irrefl p b, fun y hy => by cases hy⟩
  | cons x r ih =>
    intro b
    rw [mn_cons]
    by_cases c : lt p x b
    · rw [if_pos c]
      obtain ⟨h1, h2, h3⟩ := ih x
      refine ⟨.inr ?_, fun h => h2 (lt_trans c h), fun y hy => ?_⟩
      · rcases h1 with h1 | h1
        · rw [h1]; exact List.mem_cons_self
        · exact List.mem_cons_of_mem _ h1
      · rcases List.mem_cons.mp hy with e | e
        · rw [e]; exact h2
        · exact h3 y e
    · rw [if_neg c]
      obtain ⟨h1, h2, h3⟩ := ih b
      refine ⟨?_, h2, fun y hy => ?_⟩
      · rcases h1 with h1 | h1
        · exact .inl h1
        · exact .inr (List.mem_cons_of_mem _ h1)
      · rcases List.mem_cons.mp hy with e | e
        · rw [e]; exact not_lt_trans h2 c
        · exact h3 y e
/-- the least of a list that is not empty -/
def best (p : Bool) : List S25 → S25
  | [] => ⟨0, 0, 0⟩
  | c :: r => mn p c r
theorem best_spec {p : Bool} {l : List S25} (h : l ≠ []) : best p l ∈ l ∧ ∀ y ∈ l, ¬ lt p y (best p l) := by
  cases l with
  | nil => exact absurd rfl h
  | cons c r =>
    obtain ⟨h1, h2, h3⟩ := mn_spec p r c
    refine ⟨?_, fun y hy => ?_⟩
    · rcases h1 with h1 | h1
      · show mn p c r ∈ c :: r
        rw [h1]; exact List.mem_cons_self
      · exact List.mem_cons_of_mem _ h1
    · rcases List.mem_cons.mp hy with e | e
      · rw [e]; exact h2
      · exact h3 y e
theorem best_perm {p : Bool} {l l' : List S25} (h : l.Perm l') : best p l = best p l' := by
  cases l with
  | nil => rw [List.nil_perm.mp h]
  | cons c r =>
    have hne : c :: r ≠ [] := by simp
    have hne' : l' ≠ [] := fun e => by rw [e] at h; exact absurd h.length_eq (by simp)
    obtain ⟨m1, n1⟩ := best_spec (p := p) hne
    obtain ⟨m2, n2⟩ := best_spec (p := p) hne'
    exact eq_of_not_lt (n2 _ (h.mem_iff.mp m1)) (n1 _ (h.mem_iff.mpr m2))
def inr (c : S25) : Prop := 0 ≤ c.f0 ∧ c.f0 ≤ 255 ∧ 0 ≤ c.f1 ∧ c.f1 ≤ 64 ∧ 0 ≤ c.f2 ∧ c.f2 ≤ 2147483648
def RightP (l : List S25) : Prop := (∀ c ∈ l, inr c) ∧ (l.map (·.f0)).Nodup
theorem right_iff (l : List S25) : ∀ met, rightL met l = true ↔ (∀ c ∈ l, inr c ∧ met c.f0.toNat = false) ∧ (l.map (·.f0)).Nodup := by
  induction l with
  | nil => intro met; simp [rightL]
  | cons c r ih =>
    intro met
    simp only [rightL]
    by_cases g : 0 ≤ c.f0 ∧ c.f0 ≤ 255 ∧ 0 ≤ c.f1 ∧ c.f1 ≤ 64 ∧ 0 ≤ c.f2 ∧ c.f2 ≤ 2147483648 ∧ met c.f0.toNat = false
    · rw [if_pos g, ih]
      simp only [List.map_cons, List.nodup_cons, List.mem_cons, List.mem_map]
      constructor
      · rintro ⟨h1, h2⟩
        refine ⟨fun d hd => ?_, ?_, h2⟩
        · rcases hd with rfl | hd
          · exact ⟨⟨g.1, g.2.1, g.2.2.1, g.2.2.2.1, g.2.2.2.2.1, g.2.2.2.2.2.1⟩, g.2.2.2.2.2.2⟩
          · obtain ⟨a, b⟩ := h1 d hd
            refine ⟨a, ?_⟩
            by_cases e : d.f0.toNat = c.f0.toNat
            · rw [if_pos e] at b; cases b
            · rw [if_neg e] at b; exact b
        · rintro ⟨d, hd, e⟩
          obtain ⟨_, b⟩ := h1 d hd
          rw [if_pos (by rw [e])] at b
          cases b
      · rintro ⟨h1, h2, h3⟩
        refine ⟨fun d hd => ⟨(h1 d (.inr hd)).1, ?_⟩, h3⟩
        have e : ¬ d.f0.toNat = c.f0.toNat := by
          intro e
          have := (h1 d (.inr hd)).1.1
          exact h2 ⟨d, hd, by omega⟩
        rw [if_neg e]
        exact (h1 d (.inr hd)).2
    · rw [if_neg g]
      constructor
      · intro h; cases h
      · rintro ⟨h1, _⟩
        obtain ⟨⟨a, b, c', d, e, f⟩, m⟩ := h1 c List.mem_cons_self
        exact absurd ⟨a, b, c', d, e, f, m⟩ g
theorem right_true (l : List S25) : rightL (fun _ => false) l = true ↔ RightP l := by
  rw [right_iff]
  unfold RightP
  constructor
  · rintro ⟨h1, h2⟩; exact ⟨fun c hc => (h1 c hc).1, h2⟩
  · rintro ⟨h1, h2⟩; exact ⟨fun c hc => ⟨h1 c hc, rfl⟩, h2⟩
theorem right_perm {l l' : List S25} (h : l.Perm l') : rightL (fun _ => false) l = rightL (fun _ => false) l' := by
  have e : rightL (fun _ => false) l = true ↔ rightL (fun _ => false) l' = true := by
    rw [right_true, right_true]
    unfold RightP
    rw [(h.map (·.f0)).nodup_iff]
    constructor
    · rintro ⟨h1, h2⟩; exact ⟨fun c hc => h1 c (h.mem_iff.mpr hc), h2⟩
    · rintro ⟨h1, h2⟩; exact ⟨fun c hc => h1 c (h.mem_iff.mp hc), h2⟩
  cases h1 : rightL (fun _ => false) l <;> cases h2 : rightL (fun _ => false) l' <;> simp_all
end Go.Proofs.Ytlcafhmcambaaaa.Pl
