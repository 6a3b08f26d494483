/-
  Both ledgers in plain Lean: what is done to them leaves them the same.
-/
import Derived.Test.YtpjmmmgjiaallaaDo
namespace Go.Proofs.Ytpjmmmgjiaallaa.Bl
open Go.RowKit Go.Proofs.Ytpjmmmgjiaallaa.M Go.Proofs.YtpjmmmgjiaallaaW.PrintWords Go.Proofs.YtpjmmmgjiaallaaW.PrintLast
set_option linter.unusedVariables false
set_option linter.unusedSimpArgs false
theorem en_set {E : List En} {i : Int} (h0 : 0 ≤ i) (h1 : i < (E.length : Int)) (x : En) {j : Int} (hj : 0 ≤ j) : en (E.set i.toNat x) j = if j = i then x else en E j := by
  unfold en
  rw [List.getD_eq_getElem?_getD, List.getD_eq_getElem?_getD, List.getElem?_set]
  by_cases e : j = i
  · subst e
    rw [if_pos rfl, if_pos rfl, if_pos (by omega)]
    rfl
  · rw [if_neg (by omega), if_neg e]
theorem rd_set {A : List Int} {i : Int} (h0 : 0 ≤ i) (h1 : i < (A.length : Int)) (x : Int) {j : Int} (hj : 0 ≤ j) : rd (A.set i.toNat x) j = if j = i then x else rd A j := by
  unfold rd
  rw [List.getD_eq_getElem?_getD, List.getD_eq_getElem?_getD, List.getElem?_set]
  by_cases e : j = i
  · subst e
    rw [if_pos rfl, if_pos rfl, if_pos (by omega)]
    rfl
  · rw [if_neg (by omega), if_neg e]
theorem eS_setS {E : List En} {i : Int} (h0 : 0 ≤ i) (h1 : i < (E.length : Int)) (x : Int) {j : Int} (hj : 0 ≤ j) : eS (setS E i x) j = if j = i then x else eS E j := by
  unfold setS
  show (en _ j).s = _
  rw [en_set h0 h1 _ hj]
  split <;> rfl
theorem eE_setS {E : List En} {i : Int} (h0 : 0 ≤ i) (h1 : i < (E.length : Int)) (x : Int) {j : Int} (hj : 0 ≤ j) : eE (setS E i x) j = eE E j := by
  unfold setS
  show (en _ j).e = _
  rw [en_set h0 h1 _ hj]
  split
  · rename_i e; subst e; rfl
  · rfl
theorem eS_setE {E : List En} {i : Int} (h0 : 0 ≤ i) (h1 : i < (E.length : Int)) (x : Int) {j : Int} (hj : 0 ≤ j) : eS (setE E i x) j = eS E j := by
  unfold setE
  show (en _ j).s = _
  rw [en_set h0 h1 _ hj]
  split
  · rename_i e; subst e; rfl
  · rfl
theorem eE_setE {E : List En} {i : Int} (h0 : 0 ≤ i) (h1 : i < (E.length : Int)) (x : Int) {j : Int} (hj : 0 ≤ j) : eE (setE E i x) j = if j = i then x else eE E j := by
  unfold setE
  show (en _ j).e = _
  rw [en_set h0 h1 _ hj]
  split <;> rfl
structure Rel (B P t : Int) (s : Lg) (r : Rg) : Prop where
  lenE : (s.E.length : Int) = B
  lenS : (r.S.length : Int) = B
  lenR : (r.E.length : Int) = B
  st : ∀ i, 0 ≤ i → i < B → eS s.E i = rd r.S i
  er : ∀ i, 0 ≤ i → i < B → eE s.E i = rd r.E i
  pg : s.pages = P ∧ r.pages = P
  op : s.opn = r.opn + 1
  opr : -1 ≤ r.opn ∧ r.opn < B
  cu : s.cur = r.cur
  cur : 0 ≤ r.cur ∧ r.cur ≤ P
  one : ∀ i, 0 ≤ i → i < B → (rd r.S i = 1 ↔ r.opn = i)
  rng : ∀ i, 0 ≤ i → i < B → 0 ≤ rd r.S i ∧ rd r.S i ≤ 3
  erg : ∀ i, 0 ≤ i → i < B → 0 ≤ rd r.E i ∧ rd r.E i ≤ 2147483647 + t
structure Dim (B P : Int) : Prop where
  b : 1 ≤ B ∧ B ≤ 256
  p : 1 ≤ P ∧ P ≤ 64
theorem Rel.more {B P t : Int} {s : Lg} {r : Rg} (h : Rel B P t s r) : Rel B P (t + 1) s r :=
  ⟨h.lenE, h.lenS, h.lenR, h.st, h.er, h.pg, h.op, h.opr, h.cu, h.cur, h.one, h.rng, fun i h0 h1 => ⟨(h.erg i h0 h1).1, by have := (h.erg i h0 h1).2; omega⟩⟩
theorem set_bad {B P t : Int} {s : Lg} {r : Rg} (h : Rel B P t s r) (a b c : Int) : setBad s a b c ↔ qBad r a b c := by
  unfold setBad qBad
  rw [h.lenE, h.lenS]
  by_cases hb : 0 ≤ a ∧ a < B
  · rw [h.st a hb.1 hb.2, h.one a hb.1 hb.2]
    constructor
    · rintro (x | x | x | x | x)
      · exact absurd hb x
      · exact .inr (.inl x)
      · exact .inr (.inr (.inl x))
      · exact .inr (.inr (.inr (.inl (by omega))))
      · exact .inr (.inr (.inr (.inr x)))
    · rintro (x | x | x | x | x)
      · exact absurd hb x
      · exact .inr (.inl x)
      · exact .inr (.inr (.inl x))
      · exact .inr (.inr (.inr (.inl (by omega))))
      · exact .inr (.inr (.inr (.inr x)))
  · exact ⟨fun _ => .inl hb, fun _ => .inl hb⟩
theorem set_rel {B P t : Int} {s : Lg} {r : Rg} (h : Rel B P t s r) (ht : 0 ≤ t) (a b c : Int) : (setR s a b c).1 = (qSet r a b c).1 ∧ Rel B P (t + 1) (setR s a b c).2 (qSet r a b c).2 := by
  unfold setR qSet
  by_cases hq : qBad r a b c
  · rw [if_pos ((set_bad h a b c).mpr hq), if_pos hq]
    exact ⟨rfl, h.more⟩
  · rw [if_neg (fun x => hq ((set_bad h a b c).mp x)), if_neg hq]
    refine ⟨rfl, ?_⟩
    have h1 : 0 ≤ a ∧ a < B := by
      by_cases hb : 0 ≤ a ∧ a < (r.S.length : Int)
      · rw [h.lenS] at hb; exact hb
      · exact absurd (.inl hb) hq
    have h2 : b = 0 ∨ b = 2 ∨ b = 3 := by
      by_cases hb : b = 0 ∨ b = 2 ∨ b = 3
      · exact hb
      · exact absurd (.inr (.inl hb)) hq
    have h3 : ¬ c < 0 := fun x => hq (.inr (.inr (.inl x)))
    have h4 : ¬ 2147483647 < c := fun x => hq (.inr (.inr (.inr (.inl x))))
    have h5 : ¬ r.opn = a := fun x => hq (.inr (.inr (.inr (.inr x))))
    have hS : ∀ i, 0 ≤ i → rd (r.S.set a.toNat b) i = if i = a then b else rd r.S i := fun i hi => rd_set h1.1 (by rw [h.lenS]; exact h1.2) b hi
    have hE : ∀ i, 0 ≤ i → rd (r.E.set a.toNat c) i = if i = a then c else rd r.E i := fun i hi => rd_set h1.1 (by rw [h.lenR]; exact h1.2) c hi
    have hN : ∀ i, 0 ≤ i → en (s.E.set a.toNat ⟨b, c⟩) i = if i = a then ⟨b, c⟩ else en s.E i := fun i hi => en_set h1.1 (by rw [h.lenE]; exact h1.2) _ hi
    refine ⟨by rw [← h.lenE, List.length_set], by rw [← h.lenS, List.length_set], by rw [← h.lenR, List.length_set], fun i i0 i1 => ?_, fun i i0 i1 => ?_, h.pg, h.op, h.opr, h.cu, h.cur, fun i i0 i1 => ?_, fun i i0 i1 => ?_, fun i i0 i1 => ?_⟩
    · show (en (s.E.set a.toNat ⟨b, c⟩) i).s = rd (r.S.set a.toNat b) i
      rw [hN i i0, hS i i0]
      split
      · rfl
      · exact h.st i i0 i1
    · show (en (s.E.set a.toNat ⟨b, c⟩) i).e = rd (r.E.set a.toNat c) i
      rw [hN i i0, hE i i0]
      split
      · rfl
      · exact h.er i i0 i1
    · show rd (r.S.set a.toNat b) i = 1 ↔ r.opn = i
      rw [hS i i0]
      split
      · rename_i e
        subst e
        constructor
        · intro e; omega
        · intro e; exact absurd e h5
      · exact h.one i i0 i1
    · show 0 ≤ rd (r.S.set a.toNat b) i ∧ rd (r.S.set a.toNat b) i ≤ 3
      rw [hS i i0]
      split
      · omega
      · exact h.rng i i0 i1
    · show 0 ≤ rd (r.E.set a.toNat c) i ∧ rd (r.E.set a.toNat c) i ≤ 2147483647 + (t + 1)
      rw [hE i i0]
      split
      · omega
      · have := h.erg i i0 i1; omega
theorem best_same {B P t : Int} {s : Lg} {r : Rg} (h : Rel B P t s r) : ∀ (d : Nat) (x b : Int), 0 ≤ x → x + d ≤ B → (b = -1 ∨ 0 ≤ b ∧ b < x) → bestF s.E d x b = qBest r d x b
  | 0, _, _, _, _, _ => rfl
  | d + 1, x, b, h0, h1, hb => by
    unfold bestF qBest
    rw [h.st x h0 (by omega)]
    have n1 := best_same h d (x + 1) x (by omega) (by omega) (by omega)
    have n2 := best_same h d (x + 1) b (by omega) (by omega) (by omega)
    rw [n1, n2]
    by_cases e0 : rd r.S x = 0
    · rw [if_pos e0, if_pos e0]
      by_cases e1 : b < 0
      · rw [if_pos e1, if_pos e1]
      · rw [if_neg e1, if_neg e1, h.er x h0 (by omega), h.er b (by omega) (by omega)]
    · rw [if_neg e0, if_neg e0]
theorem best_rng {r : Rg} : ∀ (d : Nat) (x b : Int), 0 ≤ x → (b = -1 ∨ 0 ≤ b ∧ b < x ∧ rd r.S b = 0) → (qBest r d x b = -1 ∨ 0 ≤ qBest r d x b ∧ qBest r d x b < x + d ∧ rd r.S (qBest r d x b) = 0)
  | 0, _, b, _, hb => by
    unfold qBest
    rcases hb with hb | hb
    · exact .inl hb
    · exact .inr ⟨hb.1, by omega, hb.2.2⟩
  | d + 1, x, b, h0, hb => by
    have fin : ∀ y, (y = -1 ∨ 0 ≤ y ∧ y < x + 1 ∧ rd r.S y = 0) → (qBest r d (x + 1) y = -1 ∨ 0 ≤ qBest r d (x + 1) y ∧ qBest r d (x + 1) y < x + ((d + 1 : Nat) : Int) ∧ rd r.S (qBest r d (x + 1) y) = 0) := by
      intro y hy
      rcases best_rng d (x + 1) y (by omega) hy with h | h
      · exact .inl h
      · exact .inr ⟨h.1, by have := h.2.1; omega, h.2.2⟩
    have hb' : b = -1 ∨ 0 ≤ b ∧ b < x + 1 ∧ rd r.S b = 0 := by
      rcases hb with h | h
      · exact .inl h
      · exact .inr ⟨h.1, by omega, h.2.2⟩
    unfold qBest
    by_cases e0 : rd r.S x = 0
    · rw [if_pos e0]
      have hx := fin x (.inr ⟨h0, by omega, e0⟩)
      by_cases e1 : b < 0
      · rw [if_pos e1]; exact hx
      · rw [if_neg e1]
        by_cases e2 : rd r.E x < rd r.E b
        · rw [if_pos e2]; exact hx
        · rw [if_neg e2]; exact fin b hb'
    · rw [if_neg e0]; exact fin b hb'
theorem take_rel {B P t : Int} (dm : Dim B P) {s : Lg} {r : Rg} (h : Rel B P t s r) (ht : 0 ≤ t ∧ t ≤ 1000) :
    (((takeR s).2.1 = true ∧ (takeR s).1 = (qTake r).1 ∧ 0 ≤ (qTake r).1) ∨ ((takeR s).2.1 = false ∧ (takeR s).1 = 0 ∧ (qTake r).1 = -1)) ∧ Rel B P (t + 1) (takeR s).2.2 (qTake r).2 := by
  have hop := h.op
  have hopr := h.opr
  have hdb := dm.b
  have hdp := dm.p
  have hlE := h.lenE
  have hlS := h.lenS
  unfold takeR qTake
  by_cases k0 : 0 ≤ r.opn
  · rw [if_pos (by omega), if_pos k0]
    exact ⟨.inr ⟨rfl, rfl, rfl⟩, h.more⟩
  rw [if_neg (by omega), if_neg k0]
  have hbe : best s.E = qBest r r.S.length 0 (-1) := by
    unfold best
    rw [show s.E.length = r.S.length by omega]
    exact best_same h _ 0 (-1) (Int.le_refl _) (by omega) (.inl rfl)
  rw [hbe]
  have hr := best_rng (r := r) r.S.length 0 (-1) (Int.le_refl _) (.inl rfl)
  obtain ⟨b, hb⟩ : ∃ b, b = qBest r r.S.length 0 (-1) := ⟨_, rfl⟩
  rw [← hb] at hr ⊢
  by_cases k1 : b < 0
  · rw [if_pos k1, if_pos k1]
    exact ⟨.inr ⟨rfl, rfl, rfl⟩, h.more⟩
  rw [if_neg k1, if_neg k1]
  have hbb : 0 ≤ b ∧ b < B := by omega
  refine ⟨.inl ⟨rfl, rfl, hbb.1⟩, ?_⟩
  have hlE2 : b < (s.E.length : Int) := by omega
  have hlS2 : b < (r.S.length : Int) := by omega
  have hlR2 : b < (r.E.length : Int) := by have := h.lenR; omega
  have hlT : b < ((setS s.E b 1).length : Int) := by rw [setS_len]; exact hlE2
  have her := h.erg b hbb.1 hbb.2
  have hww : wrap64 (rd r.E b + 1) = rd r.E b + 1 := w64s (by omega) (by omega)
  have hwe : wrap64 (eE s.E b + 1) = rd r.E b + 1 := by rw [h.er b hbb.1 hbb.2]; exact hww
  have hwo : wrap64 (b + 1) = b + 1 := w64s (by omega) (by omega)
  unfold taken qTaken
  rw [hwe, hww, hwo]
  have hS : ∀ i, 0 ≤ i → rd (r.S.set b.toNat 1) i = if i = b then 1 else rd r.S i := fun i hi => rd_set hbb.1 hlS2 1 hi
  have hE : ∀ i, 0 ≤ i → rd (r.E.set b.toNat (rd r.E b + 1)) i = if i = b then rd r.E b + 1 else rd r.E i := fun i hi => rd_set hbb.1 hlR2 _ hi
  refine ⟨by show (((setE (setS s.E b 1) b _).length : Nat) : Int) = B; rw [setE_len, setS_len]; exact hlE, by rw [← hlS, List.length_set], by rw [← h.lenR, List.length_set], fun i i0 i1 => ?_, fun i i0 i1 => ?_, h.pg, rfl, ⟨by show -1 ≤ b; omega, hbb.2⟩, rfl, ⟨Int.le_refl _, by show (0 : Int) ≤ P; omega⟩, fun i i0 i1 => ?_, fun i i0 i1 => ?_, fun i i0 i1 => ?_⟩
  · show eS (setE (setS s.E b 1) b _) i = rd (r.S.set b.toNat 1) i
    rw [eS_setE hbb.1 hlT _ i0, eS_setS hbb.1 hlE2 _ i0, hS i i0]
    split
    · rfl
    · exact h.st i i0 i1
  · show eE (setE (setS s.E b 1) b _) i = rd (r.E.set b.toNat _) i
    rw [eE_setE hbb.1 hlT _ i0, eE_setS hbb.1 hlE2 _ i0, hE i i0]
    split
    · rfl
    · exact h.er i i0 i1
  · show rd (r.S.set b.toNat 1) i = 1 ↔ b = i
    rw [hS i i0]
    split
    · rename_i e; subst e; exact ⟨fun _ => rfl, fun _ => rfl⟩
    · rename_i e
      have := h.one i i0 i1
      constructor
      · intro x; have := this.mp x; omega
      · intro x; exact absurd x.symm e
  · show 0 ≤ rd (r.S.set b.toNat 1) i ∧ rd (r.S.set b.toNat 1) i ≤ 3
    rw [hS i i0]
    split
    · omega
    · exact h.rng i i0 i1
  · show 0 ≤ rd (r.E.set b.toNat _) i ∧ rd (r.E.set b.toNat _) i ≤ 2147483647 + (t + 1)
    rw [hE i i0]
    split
    · omega
    · have := h.erg i i0 i1; omega
theorem adv_rel {B P t : Int} (dm : Dim B P) {s : Lg} {r : Rg} (h : Rel B P t s r) (n : Int) : (advR s n).1 = (qAdv r n).1 ∧ Rel B P (t + 1) (advR s n).2 (qAdv r n).2 := by
  have hop := h.op
  have hopr := h.opr
  have hc := h.cur
  have hp := dm.p
  unfold advR qAdv
  by_cases k0 : r.opn < 0
  · rw [if_pos (by omega), if_pos k0]
    exact ⟨rfl, h.more⟩
  rw [if_neg (by omega), if_neg k0]
  have hw : wrap64 (P - r.cur) = P - r.cur := w64s (by omega) (by omega)
  have e1 : advBad s n ↔ (n < 0 ∨ P - r.cur < n) := by unfold advBad; rw [h.pg.1, h.cu, hw]
  have e2 : (n < 0 ∨ wrap64 (r.pages - r.cur) < n) ↔ (n < 0 ∨ P - r.cur < n) := by rw [h.pg.2, hw]
  unfold advIn
  by_cases k1 : n < 0 ∨ P - r.cur < n
  · rw [if_pos (e1.mpr k1), if_pos (e2.mpr k1)]
    exact ⟨rfl, h.more⟩
  · rw [if_neg (fun x => k1 (e1.mp x)), if_neg (fun x => k1 (e2.mp x))]
    have m := h.more
    have hc2 : wrap64 (s.cur + n) = r.cur + n := by rw [h.cu]; exact w64s (by omega) (by omega)
    have hc3 : wrap64 (r.cur + n) = r.cur + n := w64s (by omega) (by omega)
    exact ⟨rfl, ⟨m.lenE, m.lenS, m.lenR, m.st, m.er, h.pg, m.op, m.opr, hc2.trans hc3.symm, ⟨by show 0 ≤ wrap64 (r.cur + n); omega, by show wrap64 (r.cur + n) ≤ P; omega⟩, m.one, m.rng, m.erg⟩⟩
theorem end_rel {B P t : Int} (dm : Dim B P) {s : Lg} {r : Rg} (h : Rel B P t s r) (st : Int) (hst : st = 2 ∨ st = 3) : (endR s st).1 = (qEnd r st).1 ∧ Rel B P (t + 1) (endR s st).2 (qEnd r st).2 := by
  have hop := h.op
  have hopr := h.opr
  have hp := dm.p
  unfold endR qEnd
  by_cases k0 : r.opn < 0
  · rw [if_pos (by omega), if_pos k0]
    exact ⟨rfl, h.more⟩
  rw [if_neg (by omega), if_neg k0, show s.opn - 1 = r.opn by omega]
  refine ⟨rfl, ?_⟩
  have m := h.more
  obtain ⟨b, hb⟩ : ∃ b, b = r.opn := ⟨_, rfl⟩
  have hbb : 0 ≤ b ∧ b < B := by omega
  rw [← hb]
  have hlE2 : b < (s.E.length : Int) := by have := h.lenE; omega
  have hlS2 : b < (r.S.length : Int) := by have := h.lenS; omega
  have hS : ∀ i, 0 ≤ i → rd (r.S.set b.toNat st) i = if i = b then st else rd r.S i := fun i hi => rd_set hbb.1 hlS2 st hi
  refine ⟨by show (((setS s.E b st).length : Nat) : Int) = B; rw [setS_len]; exact h.lenE, by rw [← h.lenS, List.length_set], h.lenR, fun i i0 i1 => ?_, fun i i0 i1 => ?_, h.pg, rfl, ⟨Int.le_refl _, by show (-1 : Int) < B; omega⟩, rfl, ⟨Int.le_refl _, by show (0 : Int) ≤ P; omega⟩, fun i i0 i1 => ?_, fun i i0 i1 => ?_, m.erg⟩
  · show eS (setS s.E b st) i = rd (r.S.set b.toNat st) i
    rw [eS_setS hbb.1 hlE2 _ i0, hS i i0]
    split
    · rfl
    · exact h.st i i0 i1
  · show eE (setS s.E b st) i = rd r.E i
    rw [eE_setS hbb.1 hlE2 _ i0]
    exact h.er i i0 i1
  · show rd (r.S.set b.toNat st) i = 1 ↔ (-1 : Int) = i
    rw [hS i i0]
    split
    · omega
    · rename_i e
      have := h.one i i0 i1
      constructor
      · intro x; have := this.mp x; omega
      · intro x; omega
  · show 0 ≤ rd (r.S.set b.toNat st) i ∧ rd (r.S.set b.toNat st) i ≤ 3
    rw [hS i i0]
    split
    · omega
    · exact h.rng i i0 i1
theorem free_rel {B P t : Int} (dm : Dim B P) {s : Lg} {r : Rg} (h : Rel B P t s r) (b : Int) : (freeR s b).1 = (qFree r b).1 ∧ Rel B P (t + 1) (freeR s b).2 (qFree r b).2 := by
  unfold freeR qFree
  rw [h.lenE, h.lenS]
  by_cases hbb : 0 ≤ b ∧ b < B
  case neg =>
    rw [if_pos hbb, if_pos hbb]
    exact ⟨rfl, h.more⟩
  have hnn : ¬ ¬ (0 ≤ b ∧ b < B) := fun x => x hbb
  rw [if_neg hnn, if_neg hnn, h.st b hbb.1 hbb.2]
  by_cases k0 : rd r.S b = 2
  case neg =>
    rw [if_pos k0, if_pos k0]
    exact ⟨rfl, h.more⟩
  rw [if_neg (fun x => x k0), if_neg (fun x => x k0)]
  refine ⟨rfl, ?_⟩
  have m := h.more
  have hlE2 : b < (s.E.length : Int) := by have := h.lenE; omega
  have hlS2 : b < (r.S.length : Int) := by have := h.lenS; omega
  have hS : ∀ i, 0 ≤ i → rd (r.S.set b.toNat 0) i = if i = b then 0 else rd r.S i := fun i hi => rd_set hbb.1 hlS2 0 hi
  have hone := h.one b hbb.1 hbb.2
  refine ⟨by show (((setS s.E b 0).length : Nat) : Int) = B; rw [setS_len]; exact h.lenE, by rw [← h.lenS, List.length_set], h.lenR, fun i i0 i1 => ?_, fun i i0 i1 => ?_, h.pg, h.op, h.opr, h.cu, h.cur, fun i i0 i1 => ?_, fun i i0 i1 => ?_, m.erg⟩
  · show eS (setS s.E b 0) i = rd (r.S.set b.toNat 0) i
    rw [eS_setS hbb.1 hlE2 _ i0, hS i i0]
    split
    · rfl
    · exact h.st i i0 i1
  · show eE (setS s.E b 0) i = rd r.E i
    rw [eE_setS hbb.1 hlE2 _ i0]
    exact h.er i i0 i1
  · show rd (r.S.set b.toNat 0) i = 1 ↔ r.opn = i
    rw [hS i i0]
    split
    · rename_i e
      subst e
      rw [k0] at hone
      constructor
      · intro x; omega
      · intro x; have := hone.mpr x; omega
    · exact h.one i i0 i1
  · show 0 ≤ rd (r.S.set b.toNat 0) i ∧ rd (r.S.set b.toNat 0) i ≤ 3
    rw [hS i i0]
    split
    · omega
    · exact h.rng i i0 i1
theorem step_same {B P t : Int} (dm : Dim B P) {s : Lg} {r : Rg} (h : Rel B P t s r) (ht : 0 ≤ t ∧ t ≤ 1000) (k a b c : Int) : Same s r k a b c :=
  ⟨fun _ => (set_rel h ht.1 a b c).1, fun _ => (take_rel dm h ht).1, fun _ => (adv_rel dm h a).1, fun _ => (end_rel dm h 2 (.inl rfl)).1, fun _ => (end_rel dm h 3 (.inr rfl)).1, fun _ => (free_rel dm h a).1⟩
theorem step_rel {B P t : Int} (dm : Dim B P) {s : Lg} {r : Rg} (h : Rel B P t s r) (ht : 0 ≤ t ∧ t ≤ 1000) (k a b c : Int) : Rel B P (t + 1) (doStep s r k a b c).1 (doStep s r k a b c).2 := by
  unfold doStep
  by_cases e1 : k = 1
  · rw [if_pos e1]; exact (set_rel h ht.1 a b c).2
  rw [if_neg e1]
  by_cases e2 : k = 2
  · rw [if_pos e2]; exact (take_rel dm h ht).2
  rw [if_neg e2]
  by_cases e3 : k = 3
  · rw [if_pos e3]; exact (adv_rel dm h a).2
  rw [if_neg e3]
  by_cases e4 : k = 4
  · rw [if_pos e4]; exact (end_rel dm h 2 (.inl rfl)).2
  rw [if_neg e4]
  by_cases e5 : k = 5
  · rw [if_pos e5]; exact (end_rel dm h 3 (.inr rfl)).2
  rw [if_neg e5]
  by_cases e6 : k = 6
  · rw [if_pos e6]; exact (free_rel dm h a).2
  rw [if_neg e6]
  exact h.more
theorem new_rel {B P : Int} (dm : Dim B P) : Rel B P 0 (newL B P) (qNew B P) := by
  have hb := dm.b
  have hp := dm.p
  have e0 : ∀ i, en (List.replicate B.toNat (⟨0, 0⟩ : En)) i = ⟨0, 0⟩ := fun i => by
    unfold en
    rw [List.getD_eq_getElem?_getD, List.getElem?_replicate]
    split <;> rfl
  have r0 : ∀ i, rd (List.replicate B.toNat (0 : Int)) i = 0 := fun i => by
    unfold rd
    rw [List.getD_eq_getElem?_getD, List.getElem?_replicate]
    split <;> rfl
  refine ⟨?_, ?_, ?_, fun i _ _ => ?_, fun i _ _ => ?_, ⟨rfl, rfl⟩, rfl, ⟨Int.le_refl _, by show (-1 : Int) < B; omega⟩, rfl, ⟨Int.le_refl _, by show (0 : Int) ≤ P; omega⟩, fun i i0 _ => ?_, fun i _ _ => ?_, fun i _ _ => ?_⟩
  · show (((List.replicate B.toNat (⟨0, 0⟩ : En)).length : Nat) : Int) = B
    rw [List.length_replicate]; omega
  · show (((List.replicate B.toNat (0 : Int)).length : Nat) : Int) = B
    rw [List.length_replicate]; omega
  · show (((List.replicate B.toNat (0 : Int)).length : Nat) : Int) = B
    rw [List.length_replicate]; omega
  · show (en (List.replicate B.toNat (⟨0, 0⟩ : En)) i).s = rd (List.replicate B.toNat (0 : Int)) i
    rw [e0, r0]
  · show (en (List.replicate B.toNat (⟨0, 0⟩ : En)) i).e = rd (List.replicate B.toNat (0 : Int)) i
    rw [e0, r0]
  · show rd (List.replicate B.toNat (0 : Int)) i = 1 ↔ (-1 : Int) = i
    rw [r0]
    omega
  · show 0 ≤ rd (List.replicate B.toNat (0 : Int)) i ∧ rd (List.replicate B.toNat (0 : Int)) i ≤ 3
    rw [r0]
    omega
  · show 0 ≤ rd (List.replicate B.toNat (0 : Int)) i ∧ rd (List.replicate B.toNat (0 : Int)) i ≤ 2147483647 + 0
    rw [r0]
    omega
end Go.Proofs.Ytpjmmmgjiaallaa.Bl
