/-
  Both ledgers in plain Lean: the spread; how many blocks are in a state.
-/
import Derived.Test.YtpjmmmgjiaallaaBl
namespace Go.Proofs.Ytpjmmmgjiaallaa.Bl
open Go.RowKit Go.Proofs.Ytpjmmmgjiaallaa.M Go.Proofs.YtpjmmmgjiaallaaW.PrintWords Go.Proofs.YtpjmmmgjiaallaaW.PrintLast
set_option linter.unusedVariables false
set_option linter.unusedSimpArgs false
theorem qsI_spec {r : Rg} {B x : Int} (hx : 0 ≤ x ∧ x < B) (hw : ∀ i j, 0 ≤ i → i < B → 0 ≤ j → j < B → wrap64 (rd r.E i - rd r.E j) = rd r.E i - rd r.E j) : ∀ (e : Nat) (y m : Int), 0 ≤ y → y + e ≤ B →
    m ≤ qsI r x e y m ∧ (∀ k, y ≤ k → k < y + e → rd r.S x ≠ 3 → rd r.S k ≠ 3 → rd r.E x - rd r.E k ≤ qsI r x e y m) ∧ (qsI r x e y m = m ∨ ∃ k, y ≤ k ∧ k < y + e ∧ rd r.S x ≠ 3 ∧ rd r.S k ≠ 3 ∧ qsI r x e y m = rd r.E x - rd r.E k)
  | 0, y, m, _, _ => ⟨Int.le_refl _, fun k h0 h1 => by omega, .inl rfl⟩
  | e + 1, y, m, h0, h1 => by
    have hwy := hw x y hx.1 hx.2 h0 (by omega)
    unfold qsI
    rw [hwy]
    by_cases c : rd r.S x ≠ 3 ∧ rd r.S y ≠ 3 ∧ m < rd r.E x - rd r.E y
    · rw [if_pos c]
      obtain ⟨p1, p2, p3⟩ := qsI_spec hx hw e (y + 1) (rd r.E x - rd r.E y) (by omega) (by omega)
      refine ⟨by omega, fun k k0 k1 s1 s2 => ?_, ?_⟩
      · by_cases ek : k = y
        · subst ek; exact p1
        · exact p2 k (by omega) (by omega) s1 s2
      · rcases p3 with p3 | ⟨k, q0, q1, q2, q3, q4⟩
        · exact .inr ⟨y, Int.le_refl _, by omega, c.1, c.2.1, p3⟩
        · exact .inr ⟨k, by omega, by omega, q2, q3, q4⟩
    · rw [if_neg c]
      obtain ⟨p1, p2, p3⟩ := qsI_spec hx hw e (y + 1) m (by omega) (by omega)
      refine ⟨p1, fun k k0 k1 s1 s2 => ?_, ?_⟩
      · by_cases ek : k = y
        · subst ek
          have : ¬ m < rd r.E x - rd r.E k := fun z => c ⟨s1, s2, z⟩
          omega
        · exact p2 k (by omega) (by omega) s1 s2
      · rcases p3 with p3 | ⟨k, q0, q1, q2, q3, q4⟩
        · exact .inl p3
        · exact .inr ⟨k, by omega, by omega, q2, q3, q4⟩
theorem qsO_spec {r : Rg} {B : Int} (hl : (r.S.length : Int) = B) (hw : ∀ i j, 0 ≤ i → i < B → 0 ≤ j → j < B → wrap64 (rd r.E i - rd r.E j) = rd r.E i - rd r.E j) : ∀ (d : Nat) (x m : Int), 0 ≤ x → x + d ≤ B →
    m ≤ qsO r d x m ∧ (∀ i k, x ≤ i → i < x + d → 0 ≤ k → k < B → rd r.S i ≠ 3 → rd r.S k ≠ 3 → rd r.E i - rd r.E k ≤ qsO r d x m) ∧ (qsO r d x m = m ∨ ∃ i k, x ≤ i ∧ i < x + d ∧ 0 ≤ k ∧ k < B ∧ rd r.S i ≠ 3 ∧ rd r.S k ≠ 3 ∧ qsO r d x m = rd r.E i - rd r.E k)
  | 0, x, m, _, _ => ⟨Int.le_refl _, fun i k h0 h1 => by omega, .inl rfl⟩
  | d + 1, x, m, h0, h1 => by
    obtain ⟨a1, a2, a3⟩ := qsI_spec (r := r) (B := B) (x := x) ⟨h0, by omega⟩ hw r.S.length 0 m (Int.le_refl _) (by omega)
    unfold qsO
    generalize qsI r x r.S.length 0 m = m1 at a1 a2 a3
    obtain ⟨p1, p2, p3⟩ := qsO_spec hl hw d (x + 1) m1 (by omega) (by omega)
    refine ⟨by omega, fun i k i0 i1 k0 k1 s1 s2 => ?_, ?_⟩
    · by_cases ei : i = x
      · subst ei
        have := a2 k k0 (by omega) s1 s2
        omega
      · exact p2 i k (by omega) (by omega) k0 k1 s1 s2
    · rcases p3 with p3 | ⟨i, k, q0, q1, q2, q3, q4, q5, q6⟩
      · rcases a3 with a3 | ⟨k, b0, b1, b2, b3, b4⟩
        · exact .inl (p3.trans a3)
        · exact .inr ⟨x, k, Int.le_refl _, by omega, b0, by omega, b2, b3, p3.trans b4⟩
      · exact .inr ⟨i, k, by omega, by omega, q2, q3, q4, q5, q6⟩
theorem sprd_spec {E : List En} {B : Int} (he : ∀ i, 0 ≤ i → i < B → 0 ≤ eE E i) : ∀ (d : Nat) (x lo hi : Int), 0 ≤ x → x + d ≤ B → (lo = -1 ∨ 0 ≤ lo) →
    (hi ≤ (sprd E d x lo hi).2 ∧ (∀ i, x ≤ i → i < x + d → eS E i ≠ 3 → eE E i ≤ (sprd E d x lo hi).2) ∧ ((sprd E d x lo hi).2 = hi ∨ ∃ i, x ≤ i ∧ i < x + d ∧ eS E i ≠ 3 ∧ (sprd E d x lo hi).2 = eE E i)) ∧
    ((0 ≤ lo → 0 ≤ (sprd E d x lo hi).1 ∧ (sprd E d x lo hi).1 ≤ lo) ∧ (∀ i, x ≤ i → i < x + d → eS E i ≠ 3 → 0 ≤ (sprd E d x lo hi).1 ∧ (sprd E d x lo hi).1 ≤ eE E i) ∧ ((sprd E d x lo hi).1 = lo ∨ ∃ i, x ≤ i ∧ i < x + d ∧ eS E i ≠ 3 ∧ (sprd E d x lo hi).1 = eE E i))
  | 0, x, lo, hi, _, _, _ => ⟨⟨Int.le_refl _, fun k h0 h1 => by omega, .inl rfl⟩, ⟨fun h => ⟨h, Int.le_refl _⟩, fun k h0 h1 => by omega, .inl rfl⟩⟩
  | d + 1, x, lo, hi, h0, h1, hlo => by
    have hex := he x h0 (by omega)
    unfold sprd
    by_cases c5 : eS E x = 3
    · rw [if_pos c5]
      obtain ⟨⟨p1, p2, p3⟩, ⟨q1, q2, q3⟩⟩ := sprd_spec he d (x + 1) lo hi (by omega) (by omega) hlo
      refine ⟨⟨p1, fun i i0 i1 s => ?_, ?_⟩, ⟨q1, fun i i0 i1 s => ?_, ?_⟩⟩
      · by_cases ei : i = x
        · subst ei; exact absurd c5 s
        · exact p2 i (by omega) (by omega) s
      · rcases p3 with p3 | ⟨i, z0, z1, z2, z3⟩
        · exact .inl p3
        · exact .inr ⟨i, by omega, by omega, z2, z3⟩
      · by_cases ei : i = x
        · subst ei; exact absurd c5 s
        · exact q2 i (by omega) (by omega) s
      · rcases q3 with q3 | ⟨i, z0, z1, z2, z3⟩
        · exact .inl q3
        · exact .inr ⟨i, by omega, by omega, z2, z3⟩
    · rw [if_neg c5]
      obtain ⟨h2, hh2⟩ : ∃ h2, h2 = if hi < eE E x then eE E x else hi := ⟨_, rfl⟩
      have hh : hi ≤ h2 ∧ eE E x ≤ h2 ∧ (h2 = hi ∨ h2 = eE E x) := by
        rw [hh2]; split <;> omega
      rw [← hh2]
      have key : ∀ l2, 0 ≤ l2 → l2 ≤ eE E x → (0 ≤ lo → l2 ≤ lo) → (l2 = lo ∨ l2 = eE E x) →
        (hi ≤ (sprd E d (x + 1) l2 h2).2 ∧ (∀ i, x ≤ i → i < x + ((d + 1 : Nat) : Int) → eS E i ≠ 3 → eE E i ≤ (sprd E d (x + 1) l2 h2).2) ∧ ((sprd E d (x + 1) l2 h2).2 = hi ∨ ∃ i, x ≤ i ∧ i < x + ((d + 1 : Nat) : Int) ∧ eS E i ≠ 3 ∧ (sprd E d (x + 1) l2 h2).2 = eE E i)) ∧
        ((0 ≤ lo → 0 ≤ (sprd E d (x + 1) l2 h2).1 ∧ (sprd E d (x + 1) l2 h2).1 ≤ lo) ∧ (∀ i, x ≤ i → i < x + ((d + 1 : Nat) : Int) → eS E i ≠ 3 → 0 ≤ (sprd E d (x + 1) l2 h2).1 ∧ (sprd E d (x + 1) l2 h2).1 ≤ eE E i) ∧ ((sprd E d (x + 1) l2 h2).1 = lo ∨ ∃ i, x ≤ i ∧ i < x + ((d + 1 : Nat) : Int) ∧ eS E i ≠ 3 ∧ (sprd E d (x + 1) l2 h2).1 = eE E i)) := by
        intro l2 b0 b1 b2 b3
        obtain ⟨⟨p1, p2, p3⟩, ⟨q1, q2, q3⟩⟩ := sprd_spec he d (x + 1) l2 h2 (by omega) (by omega) (.inr b0)
        have q1' := q1 b0
        refine ⟨⟨by omega, fun i i0 i1 s => ?_, ?_⟩, ⟨fun hl => ⟨q1'.1, by have := b2 hl; omega⟩, fun i i0 i1 s => ?_, ?_⟩⟩
        · by_cases ei : i = x
          · subst ei; omega
          · exact p2 i (by omega) (by omega) s
        · rcases p3 with p3 | ⟨i, z0, z1, z2, z3⟩
          · rcases hh.2.2 with z | z
            · exact .inl (p3.trans z)
            · exact .inr ⟨x, Int.le_refl _, by omega, c5, p3.trans z⟩
          · exact .inr ⟨i, by omega, by omega, z2, z3⟩
        · by_cases ei : i = x
          · subst ei; omega
          · exact q2 i (by omega) (by omega) s
        · rcases q3 with q3 | ⟨i, z0, z1, z2, z3⟩
          · rcases b3 with z | z
            · exact .inl (q3.trans z)
            · exact .inr ⟨x, Int.le_refl _, by omega, c5, q3.trans z⟩
          · exact .inr ⟨i, by omega, by omega, z2, z3⟩
      by_cases c6 : lo < 0
      · rw [if_pos c6]
        exact key (eE E x) hex (Int.le_refl _) (fun z => by omega) (.inr rfl)
      · rw [if_neg c6]
        by_cases c7 : eE E x < lo
        · rw [if_pos c7]
          exact key (eE E x) hex (Int.le_refl _) (fun z => by omega) (.inr rfl)
        · rw [if_neg c7]
          exact key lo (by omega) (by omega) (fun z => by omega) (.inl rfl)
theorem spread_same {B P t : Int} (dm : Dim B P) {s : Lg} {r : Rg} (h : Rel B P t s r) (ht : t ≤ 1000) : spread s.E = qSpread r := by
  have hb := dm.b
  have hlE := h.lenE
  have hlS := h.lenS
  have he : ∀ i, 0 ≤ i → i < B → 0 ≤ eE s.E i := fun i i0 i1 => by rw [h.er i i0 i1]; exact (h.erg i i0 i1).1
  have hw : ∀ i j, 0 ≤ i → i < B → 0 ≤ j → j < B → wrap64 (rd r.E i - rd r.E j) = rd r.E i - rd r.E j := fun i j i0 i1 j0 j1 => by
    have a := h.erg i i0 i1
    have b := h.erg j j0 j1
    exact w64s (by omega) (by omega)
  obtain ⟨⟨p1, p2, p3⟩, ⟨q1, q2, q3⟩⟩ := sprd_spec he s.E.length 0 (-1) 0 (Int.le_refl _) (by omega) (.inl rfl)
  obtain ⟨a1, a2, a3⟩ := qsO_spec hlS hw r.S.length 0 0 (Int.le_refl _) (by omega)
  unfold spread spreadOf qSpread
  generalize sprd s.E s.E.length 0 (-1) 0 = p at p1 p2 p3 q1 q2 q3 ⊢
  generalize qsO r r.S.length 0 0 = R at a1 a2 a3 ⊢
  have hup : ∀ i, 0 ≤ i → i < B → eE s.E i ≤ 2147483647 + 1000 := fun i i0 i1 => by rw [h.er i i0 i1]; have := (h.erg i i0 i1).2; omega
  by_cases hex : ∃ i, 0 ≤ i ∧ i < B ∧ eS s.E i ≠ 3
  · obtain ⟨i0, x0, x1, x2⟩ := hex
    have hp0 := q2 i0 x0 (by omega) x2
    have hi1 : ∃ i, 0 ≤ i ∧ i < B ∧ eS s.E i ≠ 3 ∧ p.1 = eE s.E i := by
      rcases q3 with q3 | ⟨i, z0, z1, z2, z3⟩
      · omega
      · exact ⟨i, z0, by omega, z2, z3⟩
    have hi2 : ∃ i, 0 ≤ i ∧ i < B ∧ eS s.E i ≠ 3 ∧ p.2 = eE s.E i := by
      rcases p3 with p3 | ⟨i, z0, z1, z2, z3⟩
      · have := p2 i0 x0 (by omega) x2
        have := he i0 x0 x1
        exact ⟨i0, x0, x1, x2, by omega⟩
      · exact ⟨i, z0, by omega, z2, z3⟩
    obtain ⟨i1, y0, y1, y2, y3⟩ := hi1
    obtain ⟨i2, z0, z1, z2, z3⟩ := hi2
    have r1 := a2 i2 i1 z0 (by omega) y0 y1 (by rw [← h.st i2 z0 z1]; exact z2) (by rw [← h.st i1 y0 y1]; exact y2)
    rw [← h.er i2 z0 z1, ← h.er i1 y0 y1, ← z3, ← y3] at r1
    have u := hup i2 z0 z1
    rw [← z3] at u
    have r2 : R ≤ p.2 - p.1 := by
      rcases a3 with a3 | ⟨i, k, b0, b1, b2, b3, b4, b5, b6⟩
      · have := p2 i1 y0 (by omega) y2
        omega
      · have c1 := p2 i b0 (by omega) (by rw [h.st i b0 (by omega)]; exact b4)
        have c2 := (q2 k b2 (by omega) (by rw [h.st k b2 b3]; exact b5)).2
        rw [h.er i b0 (by omega)] at c1
        rw [h.er k b2 b3] at c2
        omega
    rw [if_neg (by omega), w64s (by omega) (by omega)]
    omega
  · have n1 : p.1 = -1 := by
      rcases q3 with q3 | ⟨i, z0, z1, z2, z3⟩
      · exact q3
      · exact absurd ⟨i, z0, by omega, z2⟩ hex
    have n2 : p.2 = 0 := by
      rcases p3 with p3 | ⟨i, z0, z1, z2, z3⟩
      · exact p3
      · exact absurd ⟨i, z0, by omega, z2⟩ hex
    have n3 : R = 0 := by
      rcases a3 with a3 | ⟨i, k, b0, b1, b2, b3, b4, b5, b6⟩
      · exact a3
      · exact absurd ⟨i, b0, by omega, by rw [h.st i b0 (by omega)]; exact b4⟩ hex
    rw [if_pos (by omega), n2, n3]
    exact w64s (by omega) (by omega)
theorem cnt_add (E : List En) (st : Int) : ∀ (a b : Nat) (x : Int), cnt E st (a + b) x = cnt E st a x + cnt E st b (x + a)
  | 0, b, x => by
    rw [Nat.zero_add]
    show _ = 0 + cnt E st b (x + ((0 : Nat) : Int))
    rw [show x + ((0 : Nat) : Int) = x by omega, Int.zero_add]
  | a + 1, b, x => by
    rw [show a + 1 + b = (a + b) + 1 by omega]
    simp only [cnt]
    rw [cnt_add E st a b (x + 1), show x + 1 + (a : Int) = x + ((a + 1 : Nat) : Int) by omega]
    omega
/-- one entry more -/
theorem cnt_succ (E : List En) (st : Int) (a : Nat) : cnt E st (a + 1) 0 = cnt E st a 0 + (if eS E (a : Int) = st then 1 else 0) := by
  rw [cnt_add E st a 1 0, Int.zero_add]
  simp only [cnt]
  omega
end Go.Proofs.Ytpjmmmgjiaallaa.Bl
