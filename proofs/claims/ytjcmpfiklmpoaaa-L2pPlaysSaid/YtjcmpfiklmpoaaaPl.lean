/-
  l2p's map in plain Lean: what stands where; how many; what Set and Drop keep.
-/
import Derived.Test.YtjcmpfiklmpoaaaAw
namespace Go.Proofs.Ytjcmpfiklmpoaaa.Pl
open Go.RowKit Go.Proofs.Ytjcmpfiklmpoaaa.M
set_option linter.unusedVariables false
set_option linter.unusedSimpArgs false
def wfI (x : Int) : Prop := -9223372036854775808 ≤ x ∧ x ≤ 9223372036854775807
/-- how many of the first m places hold something -/
def cnt (f : Int → Option Int) : Nat → Nat
  | 0 => 0
  | m + 1 => cnt f m + (if (f (m : Int)).isSome = true then 1 else 0)
theorem cnt_congr {f f' : Int → Option Int} : ∀ m : Nat, (∀ i : Int, 0 ≤ i → i < m → (f i).isSome = (f' i).isSome) → cnt f m = cnt f' m
  | 0, _ => rfl
  | m + 1, h => by
    simp only [cnt]
    rw [cnt_congr m (fun i h0 h1 => h i h0 (by omega)), h m (by omega) (by omega)]
def del (f : Int → Option Int) (a : Int) : Int → Option Int := fun x => if x = a then none else f x
def put (f : Int → Option Int) (a v : Int) : Int → Option Int := fun x => if x = a then some v else f x
theorem del_ne {f : Int → Option Int} {a x : Int} (h : x ≠ a) : del f a x = f x := if_neg h
theorem del_eq {f : Int → Option Int} {a : Int} : del f a a = none := if_pos rfl
theorem put_ne {f : Int → Option Int} {a v x : Int} (h : x ≠ a) : put f a v x = f x := if_neg h
theorem put_eq {f : Int → Option Int} {a v : Int} : put f a v a = some v := if_pos rfl
theorem cnt_del {f : Int → Option Int} {a : Int} (h0 : 0 ≤ a) (hs : (f a).isSome = true) : ∀ m : Nat, a < m → cnt (del f a) m + 1 = cnt f m
  | 0, h => by omega
  | m + 1, h => by
    simp only [cnt]
    by_cases e : a = m
    · subst e
      rw [del_eq, hs, cnt_congr m (f := del f m) (f' := f) (fun i _ h1 => by rw [del_ne (by omega)])]
      simp
    · rw [del_ne (fun x => e x.symm), ← cnt_del h0 hs m (by omega)]
      omega
theorem cnt_put {f : Int → Option Int} {a v : Int} (h0 : 0 ≤ a) (hs : f a = none) : ∀ m : Nat, a < m → cnt (put f a v) m = cnt f m + 1
  | 0, h => by omega
  | m + 1, h => by
    simp only [cnt]
    by_cases e : a = m
    · subst e
      rw [put_eq, hs, cnt_congr m (f := put f m v) (f' := f) (fun i _ h1 => by rw [put_ne (by omega)])]
      simp
    · rw [put_ne (fun x => e x.symm), cnt_put h0 hs m (by omega)]
      omega
theorem cnt_le (f : Int → Option Int) : ∀ m : Nat, cnt f m ≤ m
  | 0 => Nat.le_refl _
  | m + 1 => by
    simp only [cnt]
    have := cnt_le f m
    split <;> omega
/-- S sectors, B blocks of P pages -/
structure Inv (S B P : Int) (s : St) : Prop where
  size : s.size = S
  pages : s.pages = P
  len : (s.V.length : Int) = B
  fg : ∀ a r, s.f a = some r ↔ s.g r = some a
  rng : ∀ a r, s.f a = some r → (0 ≤ a ∧ a < S) ∧ (0 ≤ r ∧ r < B * P)
  n : s.n = cnt s.f S.toNat
structure Dim (S B P : Int) : Prop where
  s : 1 ≤ S ∧ S ≤ 65536
  b : 1 ≤ B ∧ B ≤ 256
  p : 1 ≤ P ∧ P ≤ 64
theorem Dim.bp {S B P : Int} (d : Dim S B P) : 1 ≤ B * P ∧ B * P ≤ 16384 := by
  obtain ⟨⟨a, b⟩, ⟨c, d⟩, ⟨e, f⟩⟩ := d
  exact ⟨by have := Int.mul_le_mul c e (by omega) (by omega); omega, Int.le_trans (Int.mul_le_mul_of_nonneg_right d (by omega)) (by omega)⟩
theorem div_lt {B P r : Int} (hP : 1 ≤ P) (h : r < B * P) : r / P < B := Int.ediv_lt_of_lt_mul (by omega) h
theorem row_f (s : St) {a : Int} (h : wfI a) : l2p_Map_Row.f s a = some ((s.f a).getD 0, (s.f a).isSome, s) := if_pos h
theorem sector_f (s : St) {a : Int} (h : wfI a) : l2p_Map_Sector.f s a = some ((s.g a).getD 0, (s.g a).isSome, s) := if_pos h
/-- a sector goes -/
def dropped (s : St) (a : Int) : St := match s.f a with | none => s | some r => gone s a r
theorem dropped_f (s : St) (a x : Int) : (dropped s a).f x = del s.f a x := by
  unfold dropped
  cases h : s.f a with
  | none =>
    by_cases e : x = a
    · subst e
      rw [del_eq]
      exact h
    · rw [del_ne e]
  | some r => rfl
theorem dropped_c (s : St) (a : Int) : (dropped s a).c = s.c := by
  unfold dropped
  cases h : s.f a <;> rfl
theorem dropped_g (s : St) (a x : Int) : (dropped s a).g x = if s.f a = some x then none else s.g x := by
  unfold dropped
  cases h : s.f a with
  | none => simp
  | some r =>
    show (if x = r then none else s.g x) = _
    by_cases e : x = r
    · subst e; simp
    · rw [if_neg e, if_neg (fun h => e (Option.some.inj h).symm)]
theorem drop_f {S B P : Int} (d : Dim S B P) {s : St} (h : Inv S B P s) {a : Int} (ha : wfI a) : l2p_Map_Drop.f s a = some ((s.f a).isSome, dropped s a) := by
  unfold l2p_Map_Drop.f dropped
  rw [if_pos (show -9223372036854775808 ≤ a ∧ a ≤ 9223372036854775807 from ha)]
  cases e : s.f a with
  | none => rfl
  | some r =>
    have hr := (h.rng a r e).2
    have hb := d.bp
    have hp := d.p
    show (if _ then _ else _) = _
    rw [if_pos]
    · rfl
    · rw [h.pages, h.len]
      exact ⟨hp, by omega, div_lt hp.1 hr.2⟩
theorem drop_inv {S B P : Int} (d : Dim S B P) {s : St} (h : Inv S B P s) (a : Int) : Inv S B P (dropped s a) := by
  cases e : s.f a with
  | none =>
    have : dropped s a = s := by unfold dropped; rw [e]
    rw [this]
    exact h
  | some r =>
    have hd : dropped s a = gone s a r := by unfold dropped; rw [e]
    have ra := h.rng a r e
    refine ⟨?_, ?_, ?_, fun x y => ?_, fun x y hx => ?_, ?_⟩
    · rw [hd]; exact h.size
    · rw [hd]; exact h.pages
    · rw [hd]; show ((s.V.set _ _).length : Int) = B; rw [List.length_set]; exact h.len
    · rw [dropped_f, dropped_g]
      by_cases e1 : x = a
      · subst e1
        rw [del_eq]
        constructor
        · intro h1; cases h1
        · intro h1
          by_cases e2 : s.f x = some y
          · rw [if_pos e2] at h1; cases h1
          · rw [if_neg e2] at h1
            exact absurd ((h.fg x y).mpr h1) e2
      · rw [del_ne e1]
        by_cases e2 : s.f a = some y
        · rw [if_pos e2]
          constructor
          · intro h1
            have := (h.fg x y).mp h1
            rw [(h.fg a y).mp e2] at this
            exact absurd (Option.some.inj this).symm e1
          · intro h1; cases h1
        · rw [if_neg e2]
          exact h.fg x y
    · rw [dropped_f] at hx
      by_cases e1 : x = a
      · subst e1; rw [del_eq] at hx; cases hx
      · rw [del_ne e1] at hx; exact h.rng x y hx
    · have hc := cnt_del (f := s.f) ra.1.1 (by rw [e]; rfl) S.toNat (by omega)
      rw [hd]
      show s.n - 1 = cnt (del s.f a) S.toNat
      rw [h.n]
      omega
def setGood (S B P : Int) (s : St) (a b : Int) : Prop := (0 ≤ a ∧ a < S) ∧ (0 ≤ b ∧ b < B * P) ∧ (s.g b = none ∨ s.g b = some a)
/-- a sector stands anew -/
def setTo (s : St) (a b : Int) : St := seated (dropped s a) a b
theorem setTo_f (s : St) (a b x : Int) : (setTo s a b).f x = if x = a then some b else s.f x := by
  show (if x = a then some b else (dropped s a).f x) = _
  by_cases e : x = a
  · rw [if_pos e, if_pos e]
  · rw [if_neg e, if_neg e, dropped_f, del_ne e]
theorem setTo_g (s : St) (a b x : Int) : (setTo s a b).g x = if x = b then some a else (if s.f a = some x then none else s.g x) := by
  show (if x = b then some a else (dropped s a).g x) = _
  rw [dropped_g]
theorem setTo_c (s : St) (a b : Int) : (setTo s a b).c = s.c + 1 := by
  show (dropped s a).c + 1 = s.c + 1
  rw [dropped_c]
theorem set_good {S B P : Int} (d : Dim S B P) {s : St} (h : Inv S B P s) {a b : Int} (hc : s.c < 1000000) (hg : setGood S B P s a b) : l2p_Map_Set.f s a b = some (0, setTo s a b) := by
  obtain ⟨⟨a0, a1⟩, ⟨b0, b1⟩, hgb⟩ := hg
  have hd := drop_inv d h a
  have hbp := d.bp
  have hds := d.s
  have hdb := d.b
  unfold l2p_Map_Set.f
  rw [if_pos (show setOk s from ⟨by rw [h.pages]; exact d.p, by rw [h.size]; omega, by have := h.len; omega⟩), if_neg (by omega), if_neg (by rw [h.size]; omega), if_neg (by omega), if_neg (by rw [h.len, h.pages]; omega), if_neg, drop_f d h (show wfI a from ⟨by omega, by omega⟩), Option.bind_some, if_pos]
  · rfl
  · refine ⟨by rw [hd.pages]; exact d.p, ?_, ?_, by rw [dropped_c]; exact hc⟩
    · rw [hd.pages, hd.len]
      exact div_lt d.p.1 b1
    · rw [dropped_f, del_eq]
  · rintro ⟨h1, h2⟩
    rcases hgb with e | e
    · rw [e] at h1; cases h1
    · rw [e] at h2; exact h2 rfl
theorem set_bad {S B P : Int} (d : Dim S B P) {s : St} (h : Inv S B P s) {a b : Int} (hg : ¬ setGood S B P s a b) : l2p_Map_Set.f s a b = some (2, s) := by
  have hds := d.s
  have hdb := d.b
  unfold l2p_Map_Set.f
  rw [if_pos (show setOk s from ⟨by rw [h.pages]; exact d.p, by rw [h.size]; omega, by have := h.len; omega⟩), h.size, h.len, h.pages]
  by_cases p0 : a < 0
  · rw [if_pos p0]
  · rw [if_neg p0]
    by_cases p1 : S ≤ a
    · rw [if_pos p1]
    · rw [if_neg p1]
      by_cases p2 : b < 0
      · rw [if_pos p2]
      · rw [if_neg p2]
        by_cases p3 : B * P ≤ b
        · rw [if_pos p3]
        · rw [if_neg p3, if_pos]
          cases e : s.g b with
          | none => exact absurd ⟨⟨by omega, by omega⟩, ⟨by omega, by omega⟩, .inl e⟩ hg
          | some t =>
            refine ⟨rfl, fun ht => hg ⟨⟨by omega, by omega⟩, ⟨by omega, by omega⟩, .inr ?_⟩⟩
            rw [e]
            exact congrArg some ht
theorem set_inv {S B P : Int} (d : Dim S B P) {s : St} (h : Inv S B P s) {a b : Int} (hg : setGood S B P s a b) : Inv S B P (setTo s a b) := by
  have hd := drop_inv d h a
  obtain ⟨ha, hb, hgb⟩ := hg
  refine ⟨hd.size, hd.pages, ?_, fun x y => ?_, fun x y hx => ?_, ?_⟩
  · show (((dropped s a).V.set _ _).length : Int) = B
    rw [List.length_set]
    exact hd.len
  · rw [setTo_f, setTo_g]
    by_cases e1 : x = a
    · subst e1
      rw [if_pos rfl]
      by_cases e2 : y = b
      · subst e2; simp
      · rw [if_neg e2]
        constructor
        · intro h1; exact absurd (Option.some.inj h1).symm e2
        · intro h1
          by_cases e3 : s.f x = some y
          · rw [if_pos e3] at h1; cases h1
          · rw [if_neg e3] at h1; exact absurd ((h.fg x y).mpr h1) e3
    · rw [if_neg e1]
      by_cases e2 : y = b
      · subst e2
        rw [if_pos rfl]
        constructor
        · intro h1
          have := (h.fg x y).mp h1
          rcases hgb with e | e
          · rw [e] at this; cases this
          · rw [e] at this; exact this
        · intro h1; exact absurd (Option.some.inj h1).symm e1
      · rw [if_neg e2]
        by_cases e3 : s.f a = some y
        · rw [if_pos e3]
          constructor
          · intro h1
            have := (h.fg x y).mp h1
            rw [(h.fg a y).mp e3] at this
            exact absurd (Option.some.inj this).symm e1
          · intro h1; cases h1
        · rw [if_neg e3]
          exact h.fg x y
  · rw [setTo_f] at hx
    by_cases e1 : x = a
    · subst e1
      rw [if_pos rfl] at hx
      obtain rfl := Option.some.inj hx
      exact ⟨ha, hb⟩
    · rw [if_neg e1] at hx
      exact h.rng x y hx
  · show (dropped s a).n + 1 = cnt (put (dropped s a).f a b) S.toNat
    rw [hd.n, cnt_put ha.1 (by rw [dropped_f, del_eq]) S.toNat (by omega)]
def new (S B P : Int) : St := ⟨S, P, fun _ => none, fun _ => none, 0, 0, List.replicate B.toNat 0⟩
theorem new_f {S B P : Int} (d : Dim S B P) : l2p_New.f S B P = some (new S B P) := if_pos ⟨d.s, d.b, d.p⟩
theorem cnt_none : ∀ m : Nat, cnt (fun _ => none) m = 0
  | 0 => rfl
  | m + 1 => by simp only [cnt]; rw [cnt_none m]; rfl
theorem new_inv {S B P : Int} (d : Dim S B P) : Inv S B P (new S B P) := by
  have := d.b
  refine ⟨rfl, rfl, ?_, fun x y => ?_, fun x y hx => ?_, (cnt_none _).symm⟩
  · show ((List.replicate B.toNat (0 : Int)).length : Int) = B
    rw [List.length_replicate]
    omega
  · constructor <;> intro h <;> cases h
  · cases hx
end Go.Proofs.Ytjcmpfiklmpoaaa.Pl
