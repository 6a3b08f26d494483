/-
  A ledger in plain Lean: how many blocks are in which state; what Take takes.
-/
import Derived.Test.YtpjmmmgjiaallaaBs
namespace Go.Proofs.Ytpjmmmgjiaallaa.Bl
open Go.RowKit Go.Proofs.Ytpjmmmgjiaallaa.M Go.Proofs.YtpjmmmgjiaallaaW.PrintWords Go.Proofs.YtpjmmmgjiaallaaW.PrintLast
set_option linter.unusedVariables false
set_option linter.unusedSimpArgs false
theorem cnt_pos {E : List En} {st : Int} : ∀ (d : Nat) (x : Int), 0 < cnt E st d x ↔ ∃ i, x ≤ i ∧ i < x + d ∧ eS E i = st
  | 0, x => ⟨fun h => by simp [cnt] at h, fun ⟨i, h0, h1, _⟩ => by omega⟩
  | d + 1, x => by
    have ih := cnt_pos (E := E) (st := st) d (x + 1)
    have hr := cnt_rng E st d (x + 1)
    simp only [cnt]
    constructor
    · intro h
      by_cases c : eS E x = st
      · exact ⟨x, Int.le_refl _, by omega, c⟩
      · rw [if_neg c, Int.zero_add] at h
        obtain ⟨i, h0, h1, h2⟩ := ih.mp h
        exact ⟨i, by omega, by omega, h2⟩
    · rintro ⟨i, h0, h1, h2⟩
      by_cases c : i = x
      · subst c
        rw [if_pos h2]
        omega
      · have := ih.mpr ⟨i, by omega, by omega, h2⟩
        split <;> omega
theorem cnt_sum {E : List En} : ∀ (d : Nat) (x : Int), (∀ i, x ≤ i → i < x + d → 0 ≤ eS E i ∧ eS E i ≤ 3) → cnt E 0 d x + cnt E 1 d x + cnt E 2 d x + cnt E 3 d x = d
  | 0, _, _ => rfl
  | d + 1, x, h => by
    have ih := cnt_sum (E := E) d (x + 1) (fun i h0 h1 => h i (by omega) (by omega))
    have hx := h x (Int.le_refl _) (by omega)
    simp only [cnt]
    have hv : eS E x = 0 ∨ eS E x = 1 ∨ eS E x = 2 ∨ eS E x = 3 := by omega
    rcases hv with e | e | e | e <;> rw [e] <;> simp <;> omega
theorem cnt_none {E : List En} {st : Int} (d : Nat) (x : Int) (h : ∀ i, x ≤ i → i < x + d → eS E i ≠ st) : cnt E st d x = 0 := by
  have hr := cnt_rng E st d x
  by_cases c : 0 < cnt E st d x
  · obtain ⟨i, h0, h1, h2⟩ := (cnt_pos d x).mp c
    exact absurd h2 (h i h0 h1)
  · omega
theorem cnt_single {E : List En} {st o : Int} : ∀ (d : Nat) (x : Int), x ≤ o → o < x + d → (∀ i, x ≤ i → i < x + d → (eS E i = st ↔ i = o)) → cnt E st d x = 1
  | 0, x, h0, h1, _ => by omega
  | d + 1, x, h0, h1, h => by
    simp only [cnt]
    by_cases c : x = o
    · subst c
      rw [if_pos ((h x (Int.le_refl _) (by omega)).mpr rfl), cnt_none d (x + 1) (fun i i0 i1 e => by have := (h i (by omega) (by omega)).mp e; omega)]
      rfl
    · rw [if_neg (fun e => c ((h x (Int.le_refl _) (by omega)).mp e)), cnt_single d (x + 1) (by omega) (by omega) (fun i i0 i1 => h i (by omega) (by omega))]
      rfl
/-- how many are open -/
theorem cnt_open {B P t : Int} {s : Lg} {r : Rg} (h : Rel B P t s r) : cnt s.E 1 s.E.length 0 = if 0 ≤ r.opn then 1 else 0 := by
  have hl := h.lenE
  have ho := h.opr
  by_cases c : 0 ≤ r.opn
  · rw [if_pos c]
    exact cnt_single _ _ c (by omega) (fun i i0 i1 => by rw [h.st i i0 (by omega), h.one i i0 (by omega)]; exact ⟨fun e => e.symm, fun e => e.symm⟩)
  · rw [if_neg c]
    exact cnt_none _ _ (fun i i0 i1 e => by rw [h.st i i0 (by omega)] at e; have := (h.one i i0 (by omega)).mp e; omega)
theorem cnt_all {B P t : Int} {s : Lg} {r : Rg} (h : Rel B P t s r) : cnt s.E 0 s.E.length 0 + cnt s.E 1 s.E.length 0 + cnt s.E 2 s.E.length 0 + cnt s.E 3 s.E.length 0 = B := by
  rw [cnt_sum _ _ (fun i i0 i1 => by have hl := h.lenE; rw [h.st i i0 (by omega)]; exact h.rng i i0 (by omega)), h.lenE]
/-- the best is the least -/
theorem best_min {r : Rg} : ∀ (d : Nat) (x b : Int), 0 ≤ x → ((b = -1 ∧ ∀ i, 0 ≤ i → i < x → rd r.S i ≠ 0) ∨ (0 ≤ b ∧ b < x ∧ rd r.S b = 0 ∧ ∀ i, 0 ≤ i → i < x → rd r.S i = 0 → rd r.E b ≤ rd r.E i)) →
    ((qBest r d x b = -1 ∧ ∀ i, 0 ≤ i → i < x + d → rd r.S i ≠ 0) ∨ (0 ≤ qBest r d x b ∧ qBest r d x b < x + d ∧ rd r.S (qBest r d x b) = 0 ∧ ∀ i, 0 ≤ i → i < x + d → rd r.S i = 0 → rd r.E (qBest r d x b) ≤ rd r.E i))
  | 0, x, b, _, hb => by
    unfold qBest
    rw [show x + ((0 : Nat) : Int) = x by omega]
    exact hb
  | d + 1, x, b, h0, hb => by
    have fin : ∀ y, ((y = -1 ∧ ∀ i, 0 ≤ i → i < x + 1 → rd r.S i ≠ 0) ∨ (0 ≤ y ∧ y < x + 1 ∧ rd r.S y = 0 ∧ ∀ i, 0 ≤ i → i < x + 1 → rd r.S i = 0 → rd r.E y ≤ rd r.E i)) → _ := fun y hy => best_min d (x + 1) y (by omega) hy
    rw [show x + ((d + 1 : Nat) : Int) = x + 1 + (d : Int) by omega]
    unfold qBest
    by_cases e0 : rd r.S x = 0
    · rw [if_pos e0]
      by_cases e1 : b < 0
      · rw [if_pos e1]
        rcases hb with ⟨_, hb⟩ | hb
        · refine fin x (.inr ⟨h0, by omega, e0, fun i i0 i1 s => ?_⟩)
          by_cases ei : i = x
          · subst ei; exact Int.le_refl _
          · exact absurd s (hb i i0 (by omega))
        · omega
      · rw [if_neg e1]
        rcases hb with ⟨hb, _⟩ | ⟨b0, b1, b2, b3⟩
        · omega
        · by_cases e2 : rd r.E x < rd r.E b
          · rw [if_pos e2]
            refine fin x (.inr ⟨h0, by omega, e0, fun i i0 i1 s => ?_⟩)
            by_cases ei : i = x
            · subst ei; exact Int.le_refl _
            · have := b3 i i0 (by omega) s; omega
          · rw [if_neg e2]
            refine fin b (.inr ⟨b0, by omega, b2, fun i i0 i1 s => ?_⟩)
            by_cases ei : i = x
            · subst ei; omega
            · exact b3 i i0 (by omega) s
    · rw [if_neg e0]
      refine fin b ?_
      rcases hb with ⟨hb, hn⟩ | ⟨b0, b1, b2, b3⟩
      · refine .inl ⟨hb, fun i i0 i1 => ?_⟩
        by_cases ei : i = x
        · subst ei; exact e0
        · exact hn i i0 (by omega)
      · refine .inr ⟨b0, by omega, b2, fun i i0 i1 s => ?_⟩
        by_cases ei : i = x
        · subst ei; exact absurd s e0
        · exact b3 i i0 (by omega) s
/-- What Take takes. -/
structure Took (B t : Int) (s : Lg) (r : Rg) (b : Int) (ok : Bool) (s2 : Lg) (r2 : Rg) : Prop where
  ok_ : ok = (decide (0 < cnt s.E 0 s.E.length 0) && !decide (0 ≤ r.opn))
  spread : qSpread r2 ≤ qSpread r + 1
  low : 0 ≤ qSpread r ∧ qSpread r ≤ 100000000000
  rng : 0 ≤ b ∧ b < B
  least : ok = true → ∀ i, 0 ≤ i → i < B → eS s2.E i = 0 → eE s2.E b - 1 ≤ eE s2.E i
theorem wrapE {B P t : Int} {s : Lg} {r : Rg} (h : Rel B P t s r) (ht : t ≤ 2000) : ∀ i j, 0 ≤ i → i < B → 0 ≤ j → j < B → wrap64 (rd r.E i - rd r.E j) = rd r.E i - rd r.E j := fun i j i0 i1 j0 j1 => by
  have a := h.erg i i0 i1
  have b := h.erg j j0 j1
  exact w64s (by omega) (by omega)
theorem took {B P t : Int} (dm : Dim B P) {s : Lg} {r : Rg} (h : Rel B P t s r) (ht : 0 ≤ t ∧ t ≤ 1000) : Took B t s r (takeR s).1 (takeR s).2.1 (takeR s).2.2 (qTake r).2 := by
  have hop := h.op
  have hopr := h.opr
  have hdb := dm.b
  have hlE := h.lenE
  have hlS := h.lenS
  have hrel := (take_rel dm h ht).2
  obtain ⟨a1, a2, a3⟩ := qsO_spec hlS (wrapE h (by omega)) r.S.length 0 0 (Int.le_refl _) (by omega)
  obtain ⟨c1, c2, c3⟩ := qsO_spec hrel.lenS (wrapE hrel (by omega)) (qTake r).2.S.length 0 0 (Int.le_refl _) (by have := hrel.lenS; omega)
  have hlow : 0 ≤ qSpread r ∧ qSpread r ≤ 100000000000 := by
    refine ⟨a1, ?_⟩
    show qsO r r.S.length 0 0 ≤ _
    rcases a3 with a3 | ⟨i, k, i0, i1, k0, k1, _, _, e⟩
    · omega
    · have x := h.erg i i0 (by omega)
      have y := h.erg k k0 k1
      omega
  have hkey : ∀ (r2 : Rg), (qTake r).2 = r2 → (∀ i, 0 ≤ i → i < B → (rd r2.S i ≠ 3 → rd r.S i ≠ 3) ∧ rd r.E i ≤ rd r2.E i ∧ rd r2.E i ≤ rd r.E i + 1) → qSpread r2 ≤ qSpread r + 1 := by
    rintro r2 rfl hh
    show qsO (qTake r).2 (qTake r).2.S.length 0 0 ≤ qsO r r.S.length 0 0 + 1
    rcases c3 with c3 | ⟨i, k, i0, i1, k0, k1, s1, s2, e⟩
    · omega
    · have hi1 : i < B := by have := hrel.lenS; omega
      have x := hh i i0 hi1
      have y := hh k k0 k1
      have := a2 i k i0 (by omega) k0 k1 (x.1 s1) (y.1 s2)
      omega
  have hcp : 0 < cnt s.E 0 s.E.length 0 ↔ ∃ i, 0 ≤ i ∧ i < B ∧ rd r.S i = 0 := by
    rw [cnt_pos]
    constructor
    · rintro ⟨i, i0, i1, e⟩
      exact ⟨i, i0, by omega, by rw [← h.st i i0 (by omega)]; exact e⟩
    · rintro ⟨i, i0, i1, e⟩
      exact ⟨i, i0, by omega, by rw [h.st i i0 i1]; exact e⟩
  have hbm := best_min (r := r) r.S.length 0 (-1) (Int.le_refl _) (.inl ⟨rfl, fun i i0 i1 => by omega⟩)
  have hbe : best s.E = qBest r r.S.length 0 (-1) := by
    unfold best
    rw [show s.E.length = r.S.length by omega]
    exact best_same h _ 0 (-1) (Int.le_refl _) (by omega) (.inl rfl)
  have same : ∀ i, 0 ≤ i → i < B → (rd r.S i ≠ 3 → rd r.S i ≠ 3) ∧ rd r.E i ≤ rd r.E i ∧ rd r.E i ≤ rd r.E i + 1 := fun i _ _ => ⟨id, Int.le_refl _, by omega⟩
  unfold takeR
  by_cases k0 : 0 ≤ r.opn
  · have e2 : (qTake r).2 = r := by unfold qTake; rw [if_pos k0]
    rw [if_pos (by omega)]
    exact ⟨by rw [decide_eq_true k0]; simp, hkey _ rfl (by rw [e2]; exact same), hlow, ⟨Int.le_refl _, by show (0 : Int) < B; omega⟩, fun e => by cases e⟩
  rw [if_neg (by omega), hbe]
  have e2 : (qTake r).2 = if qBest r r.S.length 0 (-1) < 0 then r else qTaken r (qBest r r.S.length 0 (-1)) := by unfold qTake; rw [if_neg k0]; split <;> rfl
  have hk0 : decide (0 ≤ r.opn) = false := decide_eq_false k0
  generalize qBest r r.S.length 0 (-1) = b at hbm e2 ⊢
  by_cases k1 : b < 0
  · rw [if_pos k1] at e2
    rw [if_pos k1]
    have hno : ¬ 0 < cnt s.E 0 s.E.length 0 := by
      rcases hbm with ⟨_, hb⟩ | hb
      · rw [hcp]
        rintro ⟨i, i0, i1, e⟩
        exact hb i i0 (by omega) e
      · omega
    exact ⟨by rw [decide_eq_false hno]; rfl, hkey _ rfl (by rw [e2]; exact same), hlow, ⟨Int.le_refl _, by show (0 : Int) < B; omega⟩, fun e => by cases e⟩
  · rw [if_neg k1] at e2
    rw [if_neg k1]
    rcases hbm with ⟨hb, _⟩ | ⟨b0, b1, b2, b3⟩
    · omega
    have hbB : b < B := by omega
    have hyes : 0 < cnt s.E 0 s.E.length 0 := hcp.mpr ⟨b, b0, hbB, b2⟩
    have hlE2 : b < (s.E.length : Int) := by omega
    have hlS2 : b < (r.S.length : Int) := by omega
    have hlR2 : b < (r.E.length : Int) := by have := h.lenR; omega
    have hlT : b < ((setS s.E b 1).length : Int) := by rw [setS_len]; exact hlE2
    have her := h.erg b b0 hbB
    have hwe : wrap64 (eE s.E b + 1) = eE s.E b + 1 := by rw [h.er b b0 hbB]; exact w64s (by omega) (by omega)
    have hww : wrap64 (rd r.E b + 1) = rd r.E b + 1 := w64s (by omega) (by omega)
    refine ⟨by rw [decide_eq_true hyes, hk0]; rfl, hkey _ rfl ?_, hlow, ⟨b0, hbB⟩, fun _ i i0 i1 hs => ?_⟩
    · rw [e2]
      intro i i0 i1
      show (rd (r.S.set b.toNat 1) i ≠ 3 → rd r.S i ≠ 3) ∧ rd r.E i ≤ rd (r.E.set b.toNat (wrap64 (rd r.E b + 1))) i ∧ rd (r.E.set b.toNat (wrap64 (rd r.E b + 1))) i ≤ rd r.E i + 1
      rw [rd_set b0 hlS2 1 i0, rd_set b0 hlR2 _ i0, hww]
      by_cases ei : i = b
      · subst ei
        rw [if_pos rfl, if_pos rfl, b2]
        exact ⟨fun _ => by decide, by omega, by omega⟩
      · rw [if_neg ei, if_neg ei]
        exact ⟨id, Int.le_refl _, by omega⟩
    · have hs' : eS (setE (setS s.E b 1) b (wrap64 (eE s.E b + 1))) i = 0 := hs
      show eE (setE (setS s.E b 1) b (wrap64 (eE s.E b + 1))) b - 1 ≤ eE (setE (setS s.E b 1) b (wrap64 (eE s.E b + 1))) i
      rw [eS_setE b0 hlT _ i0, eS_setS b0 hlE2 _ i0] at hs'
      rw [eE_setE b0 hlT _ b0, eE_setE b0 hlT _ i0, if_pos rfl, hwe, eE_setS b0 hlE2 _ i0]
      by_cases ei : i = b
      · rw [if_pos ei] at hs'
        cases hs'
      · rw [if_neg ei] at hs' ⊢
        have := b3 i i0 (by omega) (by rw [← h.st i i0 i1]; exact hs')
        rw [h.er b b0 hbB, h.er i i0 i1]
        omega
end Go.Proofs.Ytpjmmmgjiaallaa.Bl
