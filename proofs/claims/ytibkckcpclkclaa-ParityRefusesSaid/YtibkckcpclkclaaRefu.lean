/-
  ParityRefuses in plain Lean: any lists are restored, or told why not.
-/
import Derived.Test.YtibkckcpclkclaaMx5
import Derived.Test.YtibkckcpclkclaaEvS
namespace Go.Proofs.Ytibkckcpclkclaa.EvA
open Go.RowKit Go.Proofs.Ytibkckcpclkclaa.M Go.Proofs.Ytibkckcpclkclaa.Gf Go.Proofs.YtibkckcpclkclaaW.PrintWords
def ext {α : Type} (m : Nat) (f : Nat → α) (a b : α) (j : Nat) : α := if j < m then f j else if j = m then a else b
theorem ext_lt {α : Type} {m j : Nat} {f : Nat → α} {a b : α} (h : j < m) : ext m f a b j = f j := by unfold ext; rw [if_pos h]
theorem ext_a {α : Type} {m : Nat} {f : Nat → α} {a b : α} : ext m f a b m = a := by unfold ext; rw [if_neg (by omega), if_pos rfl]
theorem ext_b {α : Type} {m : Nat} {f : Nat → α} {a b : α} : ext m f a b (m + 1) = b := by unfold ext; rw [if_neg (by omega), if_neg (by omega)]
theorem rows_all {m a b : Nat} {A B : Nat → Nat} {L : Nat → Nat} {P : Nat → Nat → Nat} : rows m L P ++ [tab a A, tab b B] = rows (m + 2) (ext m L a b) (ext m P A B) := by
  have e : rows m L P = rows m (ext m L a b) (ext m P A B) := rows_congr (fun j hj => (ext_lt hj).symm) (fun j hj => (ext_lt hj).symm)
  rw [rows_succ, rows_succ, ext_a, ext_a, ext_b, ext_b, ← e, List.append_assoc]
  rfl
def lw (L : Nat → Nat) : Nat → Nat → Nat → Nat → Bool → Nat × Nat × Bool
  | 0, _, c, s, o => (c, s, o)
  | r + 1, t, c, s, o => if L t = 0 then lw L r (t + 1) (c + 1) s o else lw L r (t + 1) c (L t) (if o = true then (if s = 0 then true else decide (L t = s)) else false)
theorem lw_lost (L : Nat → Nat) : ∀ (r t c s : Nat) (o : Bool), (lw L r t c s o).1 = c + (lostN L r t).length
  | 0, _, _, _, _ => rfl
  | r + 1, t, c, s, o => by
    simp only [lw, lostN]
    by_cases h : L t = 0
    · rw [if_pos h, if_pos h, lw_lost L r, List.length_cons]; omega
    · rw [if_neg h, if_neg h, lw_lost L r]
theorem lw_zero (L : Nat → Nat) : ∀ (r t c s : Nat) (o : Bool), (lw L r t c s o).2.1 = 0 → (lostN L r t).length = r
  | 0, _, _, _, _, _ => rfl
  | r + 1, t, c, s, o, hz => by
    simp only [lw, lostN] at hz ⊢
    by_cases h : L t = 0
    · rw [if_pos h] at hz ⊢
      rw [List.length_cons, lw_zero L r _ _ _ _ hz]
    · rw [if_neg h] at hz ⊢
      exact absurd (lw_pos L r (t + 1) c (L t) _ h) (by rw [hz]; simp)
where
  lw_pos (L : Nat → Nat) : ∀ (r t c s : Nat) (o : Bool), s ≠ 0 → (lw L r t c s o).2.1 ≠ 0
    | 0, _, _, _, _, h => h
    | r + 1, t, c, s, o, h => by
      simp only [lw]
      by_cases e : L t = 0
      · rw [if_pos e]; exact lw_pos L r _ _ _ _ h
      · rw [if_neg e]; exact lw_pos L r _ _ _ _ e
theorem lw_false (L : Nat → Nat) : ∀ (r t c s : Nat), (lw L r t c s false).2.2 = false
  | 0, _, _, _ => rfl
  | r + 1, t, c, s => by
    simp only [lw]
    by_cases e : L t = 0
    · rw [if_pos e]; exact lw_false L r _ _ _
    · rw [if_neg e]; exact lw_false L r _ _ _
theorem lw_size (L : Nat → Nat) (hL : ∀ j, L j ≤ 16384) : ∀ (r t c s : Nat), szN L r t s = if (lw L r t c s true).2.2 = true then (lw L r t c s true).2.1 else 0
  | 0, _, _, _ => rfl
  | r + 1, t, c, s => by
    simp only [lw, szN]
    by_cases e : L t = 0
    · rw [if_pos e, if_pos e]; exact lw_size L hL r _ _ _
    · have := hL t
      rw [if_neg e, if_neg e, if_neg (show ¬ L t > 16384 by omega), if_pos trivial]
      by_cases z : s = 0
      · rw [if_neg (by omega), if_pos z]; exact lw_size L hL r _ _ _
      · rw [if_neg z]
        by_cases q : L t = s
        · rw [if_neg (by omega), decide_eq_true q]; exact lw_size L hL r _ _ _
        · rw [if_pos ⟨by omega, q⟩, decide_eq_false q, lw_false, if_neg (by simp)]
theorem beq_nat (x y : Nat) : ((x : Int) == (y : Int)) = decide (x = y) := by
  by_cases h : x = y
  · rw [decide_eq_true h, h]; exact beq_self_eq_true _
  · rw [decide_eq_false h]; exact beq_eq_false_iff_ne.mpr (by omega)
theorem law_l0 {M : Nat} {L : Nat → Nat} {P : Nat → Nat → Nat} (hM : M ≤ 1000) (x0 : List (List Int)) (x1 x2 : List Int) (x7 : List (List Int)) (x8 : Int) (x9 : List (List Int)) : ∀ (r t c s : Nat) (o : Bool) (k : Nat), t + r = M → c + r ≤ 1000 →
    incunablelaw45_ParityRefuses.l0 (k + r + 1) x0 x1 x2 x7 x8 x9 (c : Int) (s : Int) o (rows M L P) (M : Int) (t : Int) = (if (x0.length : Int) = 0 then (incunablelaw45_ParityRefuses.j2 k x0 x1 x2 x7 x8 x9 ((lw L r t c s o).1 : Int) (lw L r t c s o).2.2 0 true) else (incunablelaw45_ParityRefuses.j2 k x0 x1 x2 x7 x8 x9 ((lw L r t c s o).1 : Int) (lw L r t c s o).2.2 0 (decide ((x0.length : Int) > 64)))) := by
  intro r
  induction r with
  | zero =>
    intro t c s o k ht hc
    simp only [incunablelaw45_ParityRefuses.l0, lw]
    rw [if_neg (by omega)]
  | succ r ih =>
    intro t c s o k ht hc
    have hlt : t < M := by omega
    obtain ⟨q, hq⟩ : ∃ q, q = k + r + 1 := ⟨_, rfl⟩
    have e : k + (r + 1) + 1 = q + 1 := by omega
    rw [e]
    simp only [incunablelaw45_ParityRefuses.l0, lw]
    rw [if_pos (by omega), if_pos (by omega), rows_length, if_pos (by omega), rd_rows hlt, tab_length, ws (n := t) (by omega), ws (n := c) (by omega)]
    subst hq
    by_cases z : L t = 0
    · rw [if_pos (by omega), if_pos z]
      exact ih (t + 1) (c + 1) s o k (by omega) (by omega)
    · rw [if_neg (by omega), if_neg z]
      cases o with
      | true =>
        rw [if_pos rfl]
        by_cases z2 : s = 0
        · rw [if_pos (by omega), if_pos rfl, if_pos z2]
          exact ih (t + 1) c (L t) true k (by omega) (by omega)
        · rw [if_neg (by omega), if_pos rfl, if_neg z2, beq_nat]
          exact ih (t + 1) c (L t) _ k (by omega) (by omega)
      | false =>
        rw [if_neg (show ¬ (false = true) by decide), if_neg (show ¬ (false = true) by decide)]
        exact ih (t + 1) c (L t) false k (by omega) (by omega)
theorem restore_head {m a b k : Nat} {A B : Nat → Nat} {L : Nat → Nat} {P : Nat → Nat → Nat} (hm : m ≤ 1000) : parity_Restore.f k (rows m L P) (tab a A) (tab b B) = parity_Restore.j0 k (rows m L P) (tab a A) (tab b B) (rows (m + 2) (ext m L a b) (ext m P A B)) (decide (m = 0 ∨ 64 < m)) := by
  unfold parity_Restore.f
  rw [Option.bind_some, List.nil_append, rows_length, if_pos (by simp only [List.length_nil]; omega), Option.bind_some, Option.bind_some, rows_length, if_pos (by simp only [List.length_cons, List.length_nil]; omega), Option.bind_some, rows_all]
  by_cases c : m = 0
  · rw [if_pos (by omega), decide_eq_true (.inl c)]
  · rw [if_neg (by omega)]
    by_cases d : 64 < m
    · rw [decide_eq_true (show (m : Int) > 64 by omega), decide_eq_true (show m = 0 ∨ 64 < m from .inr d)]
    · rw [decide_eq_false (show ¬ (m : Int) > 64 by omega), decide_eq_false (show ¬ (m = 0 ∨ 64 < m) by omega)]
theorem restore_bad {m a b k : Nat} {A B : Nat → Nat} {L : Nat → Nat} {P : Nat → Nat → Nat} (hm : m ≤ 1000) (h : m = 0 ∨ 64 < m) : parity_Restore.f (k + 1) (rows m L P) (tab a A) (tab b B) = some ([], 2) := by
  rw [restore_head hm, decide_eq_true h]
  simp only [parity_Restore.j0]
  rw [if_pos trivial]
theorem restore_in {m a b k : Nat} {A B : Nat → Nat} {L : Nat → Nat} {P : Nat → Nat → Nat} (hm : m ≤ 1000) (h : ¬ (m = 0 ∨ 64 < m)) (hk : m + 10 ≤ k) : parity_Restore.f (k + 1) (rows m L P) (tab a A) (tab b B) = (if ((lostN (ext m L a b) (m + 2) 0).length : Int) = ((m + 2 : Nat) : Int) then some ([], 30) else (if (szN (ext m L a b) (m + 2) 0 0 : Int) = 0 then some ([], 2) else (if ((lostN (ext m L a b) (m + 2) 0).length : Int) > 2 then some ([], 30) else parity_Restore.l0 k (rows m L P) (tab a A) (tab b B) (szN (ext m L a b) (m + 2) 0 0 : Int) [] (rows m L P) (m : Int) 0))) := by
  rw [restore_head hm, decide_eq_false h]
  simp only [parity_Restore.j0]
  rw [if_neg (by simp), lost_f (by omega) (by omega), Option.bind_some, size_f (by omega) (by omega), Option.bind_some, rows_length, rows_length]
theorem same_dec_refl {k : Nat} (n : Nat) (f : Nat → Nat) (hn : n ≤ 1000000) (hk : n + 1 ≤ k) : incunableref01_Same.f k (tab n f) (tab n f) = some true := same_f (by rw [tab_length]; exact hn) (by rw [tab_length]; exact hk)
theorem law_l1 {m n a b : Nat} {A B X Y : Nat → Nat} {L L2 : Nat → Nat} {P P2 : Nat → Nat → Nat} (hm : m ≤ 1000) (hL : ∀ j, j < m → L j ≤ 1000) (ha : a ≤ 1000) (hb : b ≤ 1000) (hK : ∀ j, j < m → L j ≠ 0 → L2 j = L j ∧ P2 j = P j) (hX : a = 0 ∨ tab n X = tab a A) (hY : b = 0 ∨ tab n Y = tab b B) : ∀ (r t k : Nat), t + r = m → r + 2000 ≤ k →
    incunablelaw45_ParityRefuses.l1 k (rows m L P) (tab a A) (tab b B) (rows m L2 P2) (tab n X) (tab n Y) (m : Int) (t : Int) = some true := by
  intro r
  induction r with
  | zero =>
    intro t k ht hk
    obtain ⟨k, rfl⟩ : ∃ q, k = q + 1 := ⟨k - 1, by omega⟩
    have hy : (if (b : Int) = 0 then some true else (incunableref01_Same.f k (tab n Y) (tab b B)).bind fun t249 => some t249) = some true := by
      by_cases cb : b = 0
      · rw [if_pos (by omega)]
      · rw [if_neg (by omega), hY.elim (fun h => absurd h cb) id, same_dec_refl b B (by omega) (by omega)]
        rfl
    simp only [incunablelaw45_ParityRefuses.l1]
    rw [if_neg (by omega), tab_length, tab_length]
    by_cases ca : a = 0
    · rw [if_pos (by omega)]
      exact hy
    · rw [if_neg (by omega), hX.elim (fun h => absurd h ca) id, same_dec_refl a A (by omega) (by omega), Option.bind_some, if_pos rfl]
      exact hy
  | succ r ih =>
    intro t k ht hk
    obtain ⟨k, rfl⟩ : ∃ q, k = q + 1 := ⟨k - 1, by omega⟩
    have hlt : t < m := by omega
    have hLt := hL t hlt
    simp only [incunablelaw45_ParityRefuses.l1]
    rw [if_pos (by omega), if_pos (by omega), rows_length, if_pos (by omega), rd_rows hlt, tab_length, ws (n := t) (by omega)]
    by_cases z : L t = 0
    · rw [if_neg (by omega)]
      exact ih (t + 1) k (by omega) (by omega)
    · obtain ⟨e1, e2⟩ := hK t hlt z
      rw [if_pos (by omega), rows_length, if_pos (by omega), rd_rows hlt, e1, e2, same_dec_refl (L t) (P t) (by omega) (by omega), Option.bind_some, if_pos rfl]
      exact ih (t + 1) k (by omega) (by omega)
theorem law_j3_none {x0 : List (List Int)} {x1 x2 : List Int} {e : Int} (he : e ≠ 0) (k : Nat) : incunablelaw45_ParityRefuses.j3 (k + 1) x0 x1 x2 [] e e = some true := by
  simp only [incunablelaw45_ParityRefuses.j3]
  rw [if_neg he, if_pos trivial]
  rfl
theorem law_in {m a b k : Nat} {A B : Nat → Nat} {L : Nat → Nat} {P : Nat → Nat → Nat} (hm : m ≤ 70) (hL : ∀ j, j < m → L j ≤ 60) (ha : a ≤ 60) (hb : b ≤ 60) (hA : ∀ i, A i < 256) (hB : ∀ i, B i < 256) (hP : ∀ j i, P j i < 256) (hL' : ∀ j, L j ≤ 60) (hk : 20000 ≤ k) :
    incunablelaw45_ParityRefuses.j0 (k + 1) (rows m L P) (tab a A) (tab b B) false = some true := by
  have hLA : ∀ j, ext m L a b j ≤ 60 := by
    intro j
    unfold ext
    split
    · exact hL' j
    · split
      · exact ha
      · exact hb
  obtain ⟨q, rfl⟩ : ∃ q, k = q + (m + 2) + 1 := ⟨k - (m + 2) - 1, by omega⟩
  have hq : 19000 ≤ q := by omega
  have hl0 := fun x7 x8 => law_l0 (M := m + 2) (L := ext m L a b) (P := ext m P A B) (by omega) (rows m L P) (tab a A) (tab b B) x7 x8 (rows (m + 2) (ext m L a b) (ext m P A B)) (m + 2) 0 0 0 true q (by omega) (by omega)
  have hlost := lw_lost (ext m L a b) (m + 2) 0 0 0 true
  have hsize := lw_size (ext m L a b) (fun j => Nat.le_trans (hLA j) (by omega)) (m + 2) 0 0 0
  have hzero := lw_zero (ext m L a b) (m + 2) 0 0 0 true
  have hle := lostN_le (ext m L a b) (m + 2) 0
  rw [Nat.zero_add] at hlost
  generalize lw (ext m L a b) (m + 2) 0 0 0 true = w at hl0 hlost hsize hzero
  obtain ⟨c, s, o⟩ := w
  dsimp only at hl0 hlost hsize hzero
  obtain ⟨rr, hR⟩ : ∃ rr, parity_Restore.f (q + (m + 2) + 1) (rows m L P) (tab a A) (tab b B) = some rr ∧ incunablelaw45_ParityRefuses.l0 (q + (m + 2) + 1) (rows m L P) (tab a A) (tab b B) rr.1 rr.2 (rows (m + 2) (ext m L a b) (ext m P A B)) 0 0 true (rows (m + 2) (ext m L a b) (ext m P A B)) ((m + 2 : Nat) : Int) 0 = some true := by
    obtain ⟨q, rfl⟩ : ∃ p, q = p + 2 := ⟨q - 2, by omega⟩
    have hl1 : ∀ x7 x8, incunablelaw45_ParityRefuses.l0 (q + 2 + (m + 2) + 1) (rows m L P) (tab a A) (tab b B) x7 x8 (rows (m + 2) (ext m L a b) (ext m P A B)) 0 0 true (rows (m + 2) (ext m L a b) (ext m P A B)) ((m + 2 : Nat) : Int) 0 = incunablelaw45_ParityRefuses.j2 (q + 2) (rows m L P) (tab a A) (tab b B) x7 x8 (rows (m + 2) (ext m L a b) (ext m P A B)) (c : Int) o 0 (decide (m = 0 ∨ 64 < m)) := by
      intro x7 x8
      have h := hl0 x7 x8
      rw [rows_length] at h
      refine h.trans ?_
      by_cases c0 : m = 0
      · rw [if_pos (by omega), decide_eq_true (show m = 0 ∨ 64 < m from .inl c0)]
      · rw [if_neg (by omega)]
        by_cases d : 64 < m
        · rw [decide_eq_true (show (m : Int) > 64 by omega), decide_eq_true (show m = 0 ∨ 64 < m from .inr d)]
        · rw [decide_eq_false (show ¬ (m : Int) > 64 by omega), decide_eq_false (show ¬ (m = 0 ∨ 64 < m) by omega)]
    by_cases hbad : m = 0 ∨ 64 < m
    · refine ⟨_, restore_bad (by omega) hbad, ?_⟩
      rw [hl1, decide_eq_true hbad]
      simp only [incunablelaw45_ParityRefuses.j2]
      rw [if_pos trivial]
      exact law_j3_none (by decide) q
    · have hin := restore_in (k := q + 2 + (m + 2)) (a := a) (b := b) (A := A) (B := B) (L := L) (P := P) (by omega) hbad (by omega)
      rw [← hlost] at hin hle
      by_cases c1 : c = m + 2
      · rw [if_pos (by omega)] at hin
        refine ⟨_, hin, ?_⟩
        rw [hl1, decide_eq_false hbad]
        simp only [incunablelaw45_ParityRefuses.j2]
        rw [if_neg (by simp), rows_length, if_pos (by omega)]
        exact law_j3_none (by decide) q
      · rw [if_neg (by omega)] at hin
        cases o with
        | false =>
          rw [if_neg (by simp)] at hsize
          rw [hsize, if_pos (by omega)] at hin
          refine ⟨_, hin, ?_⟩
          rw [hl1, decide_eq_false hbad]
          simp only [incunablelaw45_ParityRefuses.j2]
          rw [if_neg (by simp), rows_length, if_neg (by omega), if_neg (by simp)]
          exact law_j3_none (by decide) q
        | true =>
          rw [if_pos rfl] at hsize
          have hs0 : s ≠ 0 := fun z => c1 (by rw [hlost]; exact hzero z)
          rw [hsize, if_neg (by omega)] at hin
          by_cases c2 : c > 2
          · rw [if_pos (by omega)] at hin
            refine ⟨_, hin, ?_⟩
            rw [hl1, decide_eq_false hbad]
            simp only [incunablelaw45_ParityRefuses.j2]
            rw [if_neg (by simp), rows_length, if_neg (by omega), if_pos trivial, if_pos (by omega)]
            exact law_j3_none (by decide) q
          · rw [if_neg (by omega)] at hin
            obtain ⟨_, hall⟩ := szN_some (L := ext m L a b) (m + 2) 0 0 s hsize hs0
            have hLs : ∀ j, j < m → L j = 0 ∨ L j = s := by
              intro j hj
              have := hall j (by omega) (by omega)
              rw [ext_lt hj] at this
              exact this.imp id (fun h => h.1)
            have has : a = 0 ∨ a = s := by
              have := hall m (by omega) (by omega)
              rw [ext_a] at this
              exact this.imp id (fun h => h.1)
            have hbs : b = 0 ∨ b = s := by
              have := hall (m + 1) (by omega) (by omega)
              rw [ext_b] at this
              exact this.imp id (fun h => h.1)
            have hs60 : s ≤ 60 := by
              by_cases hz : ∃ j, j < m + 2 ∧ ext m L a b j = s
              · obtain ⟨j, _, e⟩ := hz
                have := hLA j
                omega
              · exfalso
                apply c1
                rw [hlost]
                have : ∀ (r t : Nat), t + r = m + 2 → (lostN (ext m L a b) r t).length = r := by
                  intro r
                  induction r with
                  | zero => intro t _; rfl
                  | succ r ih =>
                    intro t ht
                    simp only [lostN]
                    have h0 : ext m L a b t = 0 := (hall t (by omega) (by omega)).elim id (fun h => absurd ⟨t, by omega, h.1⟩ hz)
                    rw [if_pos h0, List.length_cons, ih (t + 1) (by omega)]
                exact this (m + 2) 0 (by omega)
            have hl2 : (lostN L m 0).length ≤ 2 := by
              have := lostN_len2 L (ext m L a b) m (fun j hj => (ext_lt hj).symm)
              omega
            obtain ⟨L2, P2, ⟨k1, k2, k3⟩, h2⟩ := rest_l0 (n := s) (a := a) (b := b) (A := A) (B := B) (by omega) (by omega) hA hB hP hLs has hbs hl2 m 0 (q + 2 + (m + 2)) (by omega) (by omega)
            have hr0 : rows 0 L P = [] := rfl
            rw [hr0] at h2
            rw [show ((0 : Nat) : Int) = 0 from rfl] at h2
            rw [h2] at hin
            refine ⟨_, hin, ?_⟩
            rw [hl1, decide_eq_false hbad]
            simp only [incunablelaw45_ParityRefuses.j2]
            rw [if_neg (by simp), rows_length, if_neg (by omega), if_pos trivial, if_neg (by omega)]
            unfold told
            obtain ⟨q, rfl⟩ : ∃ p, q = p + 2 := ⟨q - 2, by omega⟩
            by_cases hok : (a = 0 ∨ tab s (fun i => s1 L2 P2 i m) = tab a A) ∧ (b = 0 ∨ tab s (fun i => s2 L2 P2 i m) = tab b B)
            · rw [if_pos hok]
              have hg : Group m L2 := ⟨by omega, by omega, fun j hj => by rw [k1 j hj, k1 0 (by omega)]; omega⟩
              have h20 := k1 0 (by omega)
              simp only [incunablelaw45_ParityRefuses.j3]
              rw [if_pos trivial, if_neg (by decide), make_yes k2 hg (by omega), Option.bind_some, if_pos trivial, if_pos rfl, rows_length, rows_length, h20]
              simp only [incunablelaw45_ParityRefuses.j4]
              have hne : ((m : Int) != (m : Int)) = false := by rw [bne_self_eq_false]
              rw [hne, if_neg (by simp), rows_length]
              exact law_l1 (by omega) (fun j hj => Nat.le_trans (hL j hj) (by omega)) (by omega) (by omega) k3 hok.1 hok.2 m 0 (q + 1) (by omega) (by omega)
            · rw [if_neg hok]
              simp only [incunablelaw45_ParityRefuses.j3]
              rw [if_pos trivial, if_pos trivial]
              rfl
  simp only [incunablelaw45_ParityRefuses.j0]
  rw [if_neg (by simp), hR.1, Option.bind_some, Option.bind_some, List.nil_append, rows_length, if_pos (by simp only [List.length_nil]; omega), Option.bind_some, Option.bind_some, rows_length, if_pos (by simp only [List.length_cons, List.length_nil]; omega), Option.bind_some, rows_all, rows_length]
  exact hR.2
theorem refuses_core {m a b : Nat} {A B : Nat → Nat} {L : Nat → Nat} {P : Nat → Nat → Nat} (hm : m ≤ 9223372036854775807) (hA : ∀ i, A i < 256) (hB : ∀ i, B i < 256) (hP : ∀ j i, P j i < 256) (hout : ∀ j, m ≤ j → L j = 0) : ∃ k, incunablelaw45_ParityRefuses.f k (rows m L P) (tab a A) (tab b B) = some true := by
  obtain ⟨k, hk⟩ : ∃ k, m + 20000 ≤ k := ⟨_, Nat.le_refl _⟩
  refine ⟨k + 1, ?_⟩
  have ht : incunablelaw45_ParityRefuses.j0 (k + 1) (rows m L P) (tab a A) (tab b B) true = some true := by
    simp only [incunablelaw45_ParityRefuses.j0]
    rw [if_pos trivial]
  unfold incunablelaw45_ParityRefuses.f
  rw [awake_f (by omega), Option.bind_some, if_pos rfl]
  obtain ⟨o, hf, hfew⟩ := few_f (L := L) (P := P) (k := k + 1) hm (by omega)
  rw [hf, Option.bind_some, tab_length, tab_length]
  cases o with
  | false => rw [if_neg (by simp)]; exact ht
  | true =>
    obtain ⟨h60, h70⟩ := hfew rfl
    rw [if_pos rfl]
    by_cases ca : (a : Int) > 60
    · rw [if_pos ca]; exact ht
    · rw [if_neg ca]
      by_cases cb : (b : Int) > 60
      · rw [decide_eq_true cb]; exact ht
      · rw [decide_eq_false cb]
        refine law_in h70 h60 (by omega) (by omega) hA hB hP (fun j => ?_) (by omega)
        by_cases hj : j < m
        · exact h60 j hj
        · rw [hout j (by omega)]; omega
theorem refuses (l : List (List Int)) (p q : List Int) (hl : l.length ≤ 9223372036854775807) (hb : ∀ r ∈ l, ∀ x ∈ r, 0 ≤ x ∧ x ≤ 255) (hp : ∀ x ∈ p, 0 ≤ x ∧ x ≤ 255) (hq : ∀ x ∈ q, 0 ≤ x ∧ x ≤ 255) : ∃ k, incunablelaw45_ParityRefuses.f k l p q = some true := by
  obtain ⟨er, hr⟩ := rows_of hb
  obtain ⟨ep, hp2⟩ := bytes_tab hp
  obtain ⟨eq, hq2⟩ := bytes_tab hq
  have h := refuses_core (m := l.length) (a := p.length) (b := q.length) (L := fun j => (l.getD j []).length) hl hp2 hq2 hr (fun j hj => by
    rw [List.getD_eq_getElem?_getD, List.getElem?_eq_none hj]
    rfl)
  rw [← er, ← ep, ← eq] at h
  exact h
end Go.Proofs.Ytibkckcpclkclaa.EvA
