/-
  L2pMoves in plain Lean.
-/
import Derived.Test.YtjcmpfiklmpoaaaMv
import Derived.Test.YtjcmpfiklmpoaaaPl
import Derived.KernelRfl
namespace Go.Proofs.Ytjcmpfiklmpoaaa.Pm
open Go.RowKit Go.Proofs.Ytjcmpfiklmpoaaa.M Go.Proofs.Ytjcmpfiklmpoaaa.Pl Go.Proofs.YtjcmpfiklmpoaaaW.PrintWords Go.Proofs.YtjcmpfiklmpoaaaW.PrintLast
set_option linter.unusedVariables false
set_option linter.unusedSimpArgs false
theorem awake_ok : incunablelaw27_awake.f 1000 = some true := by kernel_rfl
theorem dim : Dim 12 4 6 := ⟨by decide, by decide, by decide⟩
abbrev I (s : St) : Prop := Inv 12 4 6 s
theorem w_small {x : Int} (h : -1000000 ≤ x) (h' : x ≤ 1000000) : wrap64 x = x := by unfold wrap64; omega
theorem set_any {s : St} (h : I s) (hc : s.c < 1000000) (a b : Int) : ∃ e s', l2p_Map_Set.f s a b = some (e, s') ∧ I s' ∧ s'.c ≤ s.c + 1 := by
  by_cases hg : setGood 12 4 6 s a b
  · exact ⟨_, _, set_good dim h hc hg, set_inv dim h hg, by rw [setTo_c]; exact Nat.le_refl _⟩
  · exact ⟨_, _, set_bad dim h hg, h, by omega⟩
/-- three sets: two sectors change places -/
theorem swap {s : St} (h : I s) {a b x y t : Int} (hab : a ≠ b) (hx : s.f a = some x) (hy : s.f b = some y) (ht : 0 ≤ t ∧ t < 24) (hn : s.g t = none) :
    setGood 12 4 6 s a t ∧ setGood 12 4 6 (setTo s a t) b x ∧ setGood 12 4 6 (setTo (setTo s a t) b x) a y ∧
    (setTo (setTo (setTo s a t) b x) a y).f a = some y ∧ (setTo (setTo (setTo s a t) b x) a y).f b = some x ∧ (setTo (setTo (setTo s a t) b x) a y).g t = none ∧ (setTo (setTo (setTo s a t) b x) a y).n = s.n := by
  have ra := h.rng a x hx
  have rb := h.rng b y hy
  have gx := (h.fg a x).mp hx
  have gy := (h.fg b y).mp hy
  have nxt : x ≠ t := by
    rintro rfl
    rw [gx] at hn; cases hn
  have nyt : y ≠ t := by
    rintro rfl
    rw [gy] at hn; cases hn
  have nxy : x ≠ y := by
    rintro rfl
    rw [gx] at gy
    exact hab (Option.some.inj gy)
  have nba : b ≠ a := fun e => hab e.symm
  have g1 : setGood 12 4 6 s a t := ⟨ra.1, by omega, .inl hn⟩
  have h1 := set_inv dim h g1
  have f1b : (setTo s a t).f b = some y := by rw [setTo_f, if_neg nba]; exact hy
  have g1x : (setTo s a t).g x = none := by rw [setTo_g, if_neg nxt, if_pos hx]
  have g2 : setGood 12 4 6 (setTo s a t) b x := ⟨rb.1, ra.2, .inl g1x⟩
  have h2 := set_inv dim h1 g2
  have f2a : (setTo (setTo s a t) b x).f a = some t := by rw [setTo_f, if_neg hab, setTo_f, if_pos rfl]
  have g2y : (setTo (setTo s a t) b x).g y = none := by rw [setTo_g, if_neg (fun e => nxy e.symm), if_pos f1b]
  have g3 : setGood 12 4 6 (setTo (setTo s a t) b x) a y := ⟨ra.1, rb.2, .inl g2y⟩
  have h3 := set_inv dim h2 g3
  refine ⟨g1, g2, g3, by rw [setTo_f, if_pos rfl], by rw [setTo_f, if_neg nba, setTo_f, if_pos rfl], by rw [setTo_g, if_neg (fun e => nyt e.symm), if_pos f2a], ?_⟩
  rw [h3.n, h.n]
  refine cnt_congr _ fun i _ _ => ?_
  rw [setTo_f, setTo_f, setTo_f]
  by_cases ea : i = a
  · subst ea
    rw [if_pos rfl, hx]
    rfl
  · rw [if_neg ea]
    by_cases eb : i = b
    · subst eb
      rw [if_pos rfl, hy]
      rfl
    · rw [if_neg eb, if_neg ea]
def WF (l : List S32) : Prop := ∀ d ∈ l, wfI d.f1 ∧ wfI d.f2
theorem tail_f {s : St} (h : I s) (hc : s.c ≤ 100) {a b c A B C : Int} (hA : A = Int.tmod (wrap64 a) 12) (hB : B = Int.tmod (wrap64 b) 12) (hC : C = Int.tmod (wrap64 c) 24) (ra : 0 ≤ A ∧ A < 12) (rb : 0 ≤ B ∧ B < 12) (rc : 0 ≤ C ∧ C < 24) (k : Nat) :
    ((l2p_Map_Row.f s A).bind fun bt140 => ((l2p_Map_Row.f bt140.2.2 B).bind fun bt143 => (if bt140.2.1 = true then (if bt143.2.1 = true then (incunablelaw27_L2pMoves.j1 (k + 5) A B bt140.1 bt143.1 (A == B) a b c bt143.2.2) else (incunablelaw27_L2pMoves.j1 (k + 5) A B bt140.1 bt143.1 true a b c bt143.2.2)) else (incunablelaw27_L2pMoves.j1 (k + 5) A B bt140.1 bt143.1 true a b c bt143.2.2)))) = some true := by
  have yes : ∀ x y, incunablelaw27_L2pMoves.j1 (k + 5) A B x y true a b c s = some true := by
    intro x y
    simp only [incunablelaw27_L2pMoves.j1]
    rw [if_pos trivial]
  rw [row_f s (show wfI A from ⟨by omega, by omega⟩), Option.bind_some, row_f s (show wfI B from ⟨by omega, by omega⟩), Option.bind_some]
  cases hx : s.f A with
  | none =>
    rw [if_neg (by simp)]
    exact yes _ _
  | some x =>
    rw [if_pos (show (some x).isSome = true from rfl)]
    cases hy : s.f B with
    | none =>
      rw [if_neg (by simp)]
      exact yes _ _
    | some y =>
      rw [if_pos (show (some y).isSome = true from rfl)]
      by_cases hab : A = B
      · rw [show (A == B) = true from beq_iff_eq.mpr hab]
        exact yes _ _
      · rw [show (A == B) = false from beq_eq_false_iff_ne.mpr hab]
        simp only [incunablelaw27_L2pMoves.j1]
        rw [if_neg (by simp), ← hC, sector_f s (show wfI C from ⟨by omega, by omega⟩), Option.bind_some]
        have gy := (h.fg B y).mp hy
        cases hn : s.g C with
        | some u =>
          rw [if_pos (show (some u).isSome = true from rfl)]
          have hb : ¬ setGood 12 4 6 s A y := by
            rintro ⟨_, _, e | e⟩
            · rw [gy] at e; cases e
            · rw [gy] at e; exact hab (Option.some.inj e).symm
          show (l2p_Map_Set.f s A y).bind _ = _
          rw [set_bad dim h hb, Option.bind_some]
          rfl
        | none =>
          rw [if_neg (by simp)]
          obtain ⟨g1, g2, g3, r1, r2, r3, r4⟩ := swap h hab hx hy rc hn
          have h1 := set_inv dim h g1
          have h2 := set_inv dim h1 g2
          have h3 := set_inv dim h2 g3
          show ((l2p_Map_Set.f s A C).bind _) = _
          rw [set_good dim h (by omega) g1, Option.bind_some, if_pos rfl]
          show ((l2p_Map_Set.f (setTo s A C) B x).bind _) = _
          rw [set_good dim h1 (by rw [setTo_c]; omega) g2, Option.bind_some, if_pos rfl]
          show ((l2p_Map_Set.f (setTo (setTo s A C) B x) A y).bind _) = _
          rw [set_good dim h2 (by rw [setTo_c, setTo_c]; omega) g3, Option.bind_some]
          show incunablelaw27_L2pMoves.j2 (k + 4) A B x y C (s.n : Int) ((0 : Int) != 0) _ = _
          simp only [incunablelaw27_L2pMoves.j2]
          rw [if_neg (by simp), row_f _ (show wfI A from ⟨by omega, by omega⟩), Option.bind_some, row_f _ (show wfI B from ⟨by omega, by omega⟩), Option.bind_some, sector_f _ (show wfI C from ⟨by omega, by omega⟩), Option.bind_some, r1, r2, r3]
          show (if y = y then (if x = x then (if false = true then some false else some (((setTo (setTo (setTo s A C) B x) A y).n : Int) == (s.n : Int))) else some false) else some false) = some true
          rw [if_pos rfl, if_pos rfl, if_neg (by simp), r4]
          simp
theorem rd_wf {l : List S32} (hl : WF l) {i : Nat} (h : i < l.length) : wfI (rd_T32 l (i : Int)).f1 ∧ wfI (rd_T32 l (i : Int)).f2 := by
  have : rd_T32 l (i : Int) = l[i] := by simp [rd_T32, h]
  rw [this]
  exact hl _ (List.getElem_mem h)
theorem loop {l : List S32} (hl : WF l) (hlen : l.length ≤ 60) {a b c : Int} (ha : 0 ≤ a ∧ a ≤ 255) (hb : 0 ≤ b ∧ b ≤ 255) (hc : 0 ≤ c ∧ c ≤ 255) : ∀ (d i k : Nat) (s : St), I s → s.c ≤ i → i + d = l.length → d + 10 < k → incunablelaw27_L2pMoves.l0 k l (l.length : Int) (i : Int) a b c s = some true := by
  intro d
  induction d with
  | zero =>
    intro i k s h hcc hi hk
    obtain ⟨k, rfl⟩ : ∃ j, k = j + 5 + 1 := ⟨k - 6, by omega⟩
    simp only [incunablelaw27_L2pMoves.l0]
    rw [if_neg (by omega)]
    exact tail_f h (by omega) rfl rfl rfl (by rw [w_small (by omega) (by omega), Int.tmod_eq_emod_of_nonneg ha.1]; omega) (by rw [w_small (by omega) (by omega), Int.tmod_eq_emod_of_nonneg hb.1]; omega) (by rw [w_small (by omega) (by omega), Int.tmod_eq_emod_of_nonneg hc.1]; omega) k
  | succ d ih =>
    intro i k s h hcc hi hk
    obtain ⟨k, rfl⟩ : ∃ j, k = j + 1 := ⟨k - 1, by omega⟩
    have hw := rd_wf hl (i := i) (by omega)
    have hws : wrap64 ((i : Int) + 1) = ((i + 1 : Nat) : Int) := by rw [w_small (by omega) (by omega)]; omega
    simp only [incunablelaw27_L2pMoves.l0]
    rw [if_pos (by omega), if_pos (by omega), if_pos (by omega), hws]
    by_cases k1 : (rd_T32 l (i : Int)).f0 = 1
    · rw [if_pos k1]
      obtain ⟨e, s', hs, h', hc'⟩ := set_any h (by omega) (rd_T32 l (i : Int)).f1 (rd_T32 l (i : Int)).f2
      rw [hs, Option.bind_some, if_neg (by omega)]
      exact ih (i + 1) k s' h' (by omega) (by omega) (by omega)
    · rw [if_neg k1]
      by_cases k2 : (rd_T32 l (i : Int)).f0 = 2
      · rw [if_pos k2, drop_f dim h hw.1, Option.bind_some]
        exact ih (i + 1) k _ (drop_inv dim h _) (by rw [dropped_c]; omega) (by omega) (by omega)
      · rw [if_neg k2]
        exact ih (i + 1) k s h (by omega) (by omega) (by omega)
theorem moves {l : List S32} (hl : WF l) {a b c : Int} (ha : 0 ≤ a ∧ a ≤ 255) (hb : 0 ≤ b ∧ b ≤ 255) (hc : 0 ≤ c ∧ c ≤ 255) : ∃ k, incunablelaw27_L2pMoves.f k l a b c = some true := by
  refine ⟨1000, ?_⟩
  unfold incunablelaw27_L2pMoves.f
  rw [awake_ok, Option.bind_some, if_pos rfl]
  by_cases h60 : (l.length : Int) > 60
  · rw [if_pos h60]
  · rw [if_neg h60, new_f dim, Option.bind_some, if_pos rfl]
    exact loop hl (by omega) ha hb hc l.length 0 1000 _ (new_inv dim) (Nat.le_refl _) (by omega) (by omega)
end Go.Proofs.Ytjcmpfiklmpoaaa.Pm
