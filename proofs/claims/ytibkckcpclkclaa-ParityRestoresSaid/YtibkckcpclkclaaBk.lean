/-
  Plain Lean of ParityRestores: what was lost comes back; too much lost is told; a byte turned is told (written by par_bk.py).
-/
import Derived.Test.YtibkckcpclkclaaEvS
import Derived.Test.YtibkckcpclkclaaMx6
namespace Go.Proofs.Ytibkckcpclkclaa.Bk
open Go.RowKit Go.Proofs.Ytibkckcpclkclaa.M Go.Proofs.Ytibkckcpclkclaa.Gf Go.Proofs.Ytibkckcpclkclaa.EvA Go.Proofs.YtibkckcpclkclaaW.PrintWords
set_option linter.unusedVariables false
section
variable {m : Nat} {L : Nat → Nat} {P : Nat → Nat → Nat}
theorem may_all (r : Nat) : ∀ (k t : Nat), t + r = m → m ≤ 1000000 → 0 < m → (∀ j, j < m → 1 ≤ L j ∧ L j ≤ 16384 ∧ L j = L 0) → r < k → incunableref45_May.l0 k (rows m L P) (t : Int) = some true := by
  induction r with
  | zero =>
    intro k t ht hm h0 hall hk
    obtain ⟨k, rfl⟩ : ∃ q, k = q + 1 := ⟨k - 1, by omega⟩
    simp only [incunableref45_May.l0]; rw [rows_length, if_neg (by omega)]
  | succ r ih =>
    intro k t ht hm h0 hall hk
    obtain ⟨k, rfl⟩ : ∃ q, k = q + 1 := ⟨k - 1, by omega⟩
    have hlt : t < m := by omega
    obtain ⟨g1, g2, g3⟩ := hall t hlt
    simp only [incunableref45_May.l0]
    rw [rows_length, if_pos (by omega), if_pos (by omega), rd_rows hlt, rd_rows0 h0, tab_length, tab_length, if_neg (by omega), if_neg (by omega), if_pos (by omega), if_pos (by omega), ws (by omega)]
    exact ih k (t + 1) (by omega) hm h0 hall (by omega)
theorem may_not (r : Nat) : ∀ (k t : Nat), t + r = m → m ≤ 1000000 → 0 < m → (∃ j, t ≤ j ∧ j < m ∧ ¬ (1 ≤ L j ∧ L j ≤ 16384 ∧ L j = L 0)) → r < k → incunableref45_May.l0 k (rows m L P) (t : Int) = some false := by
  induction r with
  | zero =>
    intro k t ht hm h0 hex hk
    obtain ⟨j, h1, h2, _⟩ := hex
    omega
  | succ r ih =>
    intro k t ht hm h0 hex hk
    obtain ⟨k, rfl⟩ : ∃ q, k = q + 1 := ⟨k - 1, by omega⟩
    have hlt : t < m := by omega
    simp only [incunableref45_May.l0]
    rw [rows_length, if_pos (by omega), if_pos (by omega), rd_rows hlt, rd_rows0 h0, tab_length, tab_length, ws (by omega)]
    by_cases c1 : L t < 1
    · rw [if_pos (by omega)]
    · rw [if_neg (by omega)]
      by_cases c2 : L t > 16384
      · rw [if_pos (by omega)]
      · rw [if_neg (by omega), if_pos (by omega)]
        by_cases c3 : L t = L 0
        · rw [if_pos (by omega)]
          refine ih k (t + 1) (by omega) hm h0 ?_ (by omega)
          obtain ⟨j, h1, h2, h3⟩ := hex
          refine ⟨j, ?_, h2, h3⟩
          rcases Nat.eq_or_lt_of_le h1 with e | e
          · subst e; exact absurd ⟨by omega, by omega, c3⟩ h3
          · exact e
        · rw [if_neg (by omega)]
theorem may_yes {k : Nat} (g : Group m L) (hk : m + 2 ≤ k) : incunableref45_May.f k (rows m L P) = some true := by
  obtain ⟨g1, g2, g3⟩ := g
  obtain ⟨k, rfl⟩ : ∃ q, k = q + 1 := ⟨k - 1, by omega⟩
  unfold incunableref45_May.f
  rw [rows_length, if_neg (by omega), decide_eq_false (by omega)]
  simp only [incunableref45_May.j0, Bool.false_eq_true, if_false]
  exact may_all m k 0 (by omega) (by omega) (by omega) g3 (by omega)
theorem may_no {k : Nat} (hm : m ≤ 1000000) (g : ¬ Group m L) (hk : m + 2 ≤ k) : incunableref45_May.f k (rows m L P) = some false := by
  obtain ⟨k, rfl⟩ : ∃ q, k = q + 1 := ⟨k - 1, by omega⟩
  unfold incunableref45_May.f
  rw [rows_length]
  by_cases c1 : m < 1
  · rw [if_pos (by omega)]; simp [incunableref45_May.j0]
  · rw [if_neg (by omega)]
    by_cases c2 : m > 64
    · rw [decide_eq_true (by omega)]; simp [incunableref45_May.j0]
    · rw [decide_eq_false (by omega)]
      simp only [incunableref45_May.j0, Bool.false_eq_true, if_false]
      refine may_not m k 0 (by omega) (by omega) (by omega) ?_ (by omega)
      refine Classical.byContradiction fun hne => g ⟨by omega, by omega, fun j hj => ?_⟩
      exact Classical.byContradiction fun h => hne ⟨j, by omega, hj, h⟩
def ext {α : Type} (m : Nat) (f : Nat → α) (a b : α) (j : Nat) : α := if j < m then f j else if j = m then a else b
theorem ext_lt {α : Type} {m j : Nat} {f : Nat → α} {a b : α} (h : j < m) : ext m f a b j = f j := by unfold ext; rw [if_pos h]
theorem ext_a {α : Type} {m : Nat} {f : Nat → α} {a b : α} : ext m f a b m = a := by unfold ext; rw [if_neg (by omega), if_pos rfl]
theorem ext_b {α : Type} {m : Nat} {f : Nat → α} {a b : α} : ext m f a b (m + 1) = b := by unfold ext; rw [if_neg (by omega), if_neg (by omega)]
theorem rows_all {m a b : Nat} {A B : Nat → Nat} {L : Nat → Nat} {P : Nat → Nat → Nat} : rows m L P ++ [tab a A, tab b B] = rows (m + 2) (ext m L a b) (ext m P A B) := by
  have e : rows m L P = rows m (ext m L a b) (ext m P A B) := rows_congr (fun j hj => (ext_lt hj).symm) (fun j hj => (ext_lt hj).symm)
  rw [rows_succ, rows_succ, ext_a, ext_a, ext_b, ext_b, ← e, List.append_assoc]
  rfl
theorem restore_head {m a b k : Nat} {A B : Nat → Nat} {L : Nat → Nat} {P : Nat → Nat → Nat} (hm : m ≤ 1000) : parity_Restore.f k (rows m L P) (tab a A) (tab b B) = parity_Restore.j0 k (rows m L P) (tab a A) (tab b B) (rows (m + 2) (ext m L a b) (ext m P A B)) (decide (m = 0 ∨ 64 < m)) := by
  unfold parity_Restore.f
  rw [Option.bind_some, List.nil_append, rows_length, if_pos (by simp only [List.length_nil]; omega), Option.bind_some, Option.bind_some, rows_length, if_pos (by simp only [List.length_cons, List.length_nil]; omega), Option.bind_some, rows_all]
  by_cases c : m = 0
  · rw [if_pos (by omega), decide_eq_true (.inl c)]
  · rw [if_neg (by omega)]
    by_cases d : 64 < m
    · rw [decide_eq_true (show (m : Int) > 64 by omega), decide_eq_true (show m = 0 ∨ 64 < m from .inr d)]
    · rw [decide_eq_false (show ¬ (m : Int) > 64 by omega), decide_eq_false (show ¬ (m = 0 ∨ 64 < m) by omega)]
theorem restore_in {m a b k : Nat} {A B : Nat → Nat} {L : Nat → Nat} {P : Nat → Nat → Nat} (hm : m ≤ 1000) (h : ¬ (m = 0 ∨ 64 < m)) (hk : m + 10 ≤ k) : parity_Restore.f (k + 1) (rows m L P) (tab a A) (tab b B) = (if ((lostN (ext m L a b) (m + 2) 0).length : Int) = ((m + 2 : Nat) : Int) then some ([], 30) else (if (szN (ext m L a b) (m + 2) 0 0 : Int) = 0 then some ([], 2) else (if ((lostN (ext m L a b) (m + 2) 0).length : Int) > 2 then some ([], 30) else parity_Restore.l0 k (rows m L P) (tab a A) (tab b B) (szN (ext m L a b) (m + 2) 0 0 : Int) [] (rows m L P) (m : Int) 0))) := by
  rw [restore_head hm, decide_eq_false h]
  simp only [parity_Restore.j0]
  rw [if_neg (by simp), lost_f (by omega) (by omega), Option.bind_some, size_f (by omega) (by omega), Option.bind_some, rows_length, rows_length]
theorem same_dec_refl {k : Nat} (n : Nat) (f : Nat → Nat) (hn : n ≤ 1000000) (hk : n + 1 ≤ k) : incunableref01_Same.f k (tab n f) (tab n f) = some true := same_f (by rw [tab_length]; exact hn) (by rw [tab_length]; exact hk)
end
/-! sums -/
def S (w : Nat → Nat) : Nat → Nat
  | 0 => 0
  | j + 1 => S w j ^^^ w j
theorem s1_S (L : Nat → Nat) (P : Nat → Nat → Nat) (i : Nat) : ∀ t, s1 L P i t = S (fun j => if i < L j then P j i else 0) t
  | 0 => rfl
  | t + 1 => by
    simp only [s1, S]; rw [s1_S L P i t]
    by_cases c : i < L t
    · rw [if_pos c, if_pos c]
    · rw [if_neg c, if_neg c, Nat.xor_zero]
theorem s2_S (L : Nat → Nat) (P : Nat → Nat → Nat) (i : Nat) : ∀ t, s2 L P i t = S (fun j => if i < L j then mul (P j i) (pw j) else 0) t
  | 0 => rfl
  | t + 1 => by
    simp only [s2, S]; rw [s2_S L P i t]
    by_cases c : i < L t
    · rw [if_pos c, if_pos c]
    · rw [if_neg c, if_neg c, Nat.xor_zero]
theorem S_congr {w v : Nat → Nat} : ∀ t, (∀ j, j < t → w j = v j) → S w t = S v t
  | 0, _ => rfl
  | t + 1, h => by simp only [S]; rw [S_congr t (fun j hj => h j (by omega)), h t (by omega)]
theorem S_xor (w v : Nat → Nat) : ∀ t, S w t ^^^ S v t = S (fun j => w j ^^^ v j) t
  | 0 => by simp [S]
  | t + 1 => by simp only [S]; rw [← S_xor w v t, xor4]
theorem S_none {w : Nat → Nat} : ∀ t, (∀ j, j < t → w j = 0) → S w t = 0
  | 0, _ => rfl
  | t + 1, h => by simp only [S]; rw [S_none t (fun j hj => h j (by omega)), h t (by omega), Nat.xor_zero]
theorem S_one {w : Nat → Nat} {i0 : Nat} : ∀ t, (∀ j, j < t → j ≠ i0 → w j = 0) → i0 < t → S w t = w i0
  | 0, _, h => by omega
  | t + 1, h, h0 => by
    simp only [S]
    by_cases c : t = i0
    · rw [S_none t (fun j hj => h j (by omega) (by omega)), c, Nat.zero_xor]
    · rw [S_one t (fun j hj => h j (by omega)) (by omega), h t (by omega) c, Nat.xor_zero]
theorem S_two {w : Nat → Nat} {i0 i1 t : Nat} (hne : i0 ≠ i1) (h : ∀ j, j < t → j ≠ i0 → j ≠ i1 → w j = 0) (h0 : i0 < t) (h1 : i1 < t) : S w t = w i0 ^^^ w i1 := by
  have e : S w t = S (fun j => (if j = i0 then w j else 0) ^^^ (if j = i0 then 0 else w j)) t := by
    refine S_congr t (fun j _ => ?_)
    by_cases c : j = i0
    · rw [if_pos c, if_pos c, Nat.xor_zero]
    · rw [if_neg c, if_neg c, Nat.zero_xor]
  rw [e, ← S_xor, S_one (i0 := i0) t (fun j _ hj => if_neg hj) h0, S_one (i0 := i1) t (fun j hj hj1 => ?_) h1, if_pos rfl, if_neg (Ne.symm hne)]
  by_cases c : j = i0
  · rw [if_pos c]
  · rw [if_neg c]; exact h j hj c hj1
theorem miss {L f : Nat → Nat} {i m n : Nat} (hi : i < n) (hL : ∀ j, j < m → L j = 0 ∨ L j = n) : S (fun j => if i < L j then f j else 0) m ^^^ S (fun j => if i < n then f j else 0) m = S (fun j => if L j = 0 then f j else 0) m := by
  rw [S_xor]
  refine S_congr m (fun j hj => ?_)
  rw [if_pos hi]
  rcases hL j hj with h | h
  · rw [if_neg (by omega), if_pos h, Nat.zero_xor]
  · rw [if_pos (by omega), if_neg (by omega), Nat.xor_self]
/-! powers -/
def pwL : List Nat := [1, 2, 4, 8, 16, 32, 64, 128, 29, 58, 116, 232, 205, 135, 19, 38, 76, 152, 45, 90, 180, 117, 234, 201, 143, 3, 6, 12, 24, 48, 96, 192, 157, 39, 78, 156, 37, 74, 148, 53, 106, 212, 181, 119, 238, 193, 159, 35, 70, 140, 5, 10, 20, 40, 80, 160, 93, 186, 105, 210, 185, 111, 222, 161]
theorem pw_tab : ∀ i, i < 64 → pw i = pwL.getD i 0 := by decide +kernel
theorem pwL_ne : ∀ i, i < 64 → ∀ j, j < 64 → pwL.getD i 0 = pwL.getD j 0 → i = j := by decide +kernel
theorem pwL_nz : ∀ i, i < 64 → pwL.getD i 0 ≠ 0 := by decide +kernel
theorem pw_nz {i : Nat} (h : i < 64) : pw i ≠ 0 := by rw [pw_tab i h]; exact pwL_nz i h
theorem pw_xor {i j : Nat} (hi : i < 64) (hj : j < 64) (h : i ≠ j) : pw i ^^^ pw j ≠ 0 := by
  intro e
  have e2 : pw i = pw j := by
    have := xor_self_cancel (pw i) (pw j)
    rw [e, Nat.zero_xor] at this
    exact this.symm
  rw [pw_tab i hi, pw_tab j hj] at e2
  exact h (pwL_ne i hi j hj e2)
theorem undo {x w : Nat} (hx : x < 256) (hw : w < 256) (h0 : w ≠ 0) : mul (mul x w) (inv w) = x := by
  rw [mul_assoc hx hw (inv_lt w hw), mul_inv w hw h0, mul_one x hx]
theorem one_x {k n b : Nat} {f : Nat → Nat} (hn : n ≤ 100000) (hb : b < 256) (hf : ∀ i, f i < 256) (hk : n + 40 ≤ k) : parity_one.f k (tab n f) (b : Int) = some (tab n (fun i => mul (f i) (inv b))) := by
  have e := add_f (k := k) (n := n) (m := n) (by_ := inv b) (f := fun _ => 0) (p := f) (Nat.le_refl _) (by omega) (inv_lt b hb) (fun _ => by decide) hf (by omega)
  unfold parity_one.f
  rw [tab_length, if_pos (by omega), Int.toNat_natCast, if_pos (by omega), inverse_f hb (by omega), Option.bind_some, replicate_tab, e, Option.bind_some]
  congr 1
  refine tab_congr (fun i hi => ?_)
  rw [if_pos hi, Nat.zero_xor]
theorem two_x {k n a b : Nat} {p q : Nat → Nat} (hn : n ≤ 100000) (ha : a < 256) (hb : b < 256) (hp : ∀ i, p i < 256) (hq : ∀ i, q i < 256) (hk : n + 40 ≤ k) :
    parity_two.f k (tab n p) (tab n q) (a : Int) (b : Int) = some (tab n (fun i => p i ^^^ mul (mul (p i) a ^^^ q i) (inv (a ^^^ b))), tab n (fun i => mul (mul (p i) a ^^^ q i) (inv (a ^^^ b)))) := by
  have e1 : parity_add.f k (tab n (fun _ => 0)) (tab n p) (a : Int) = some (tab n (fun i => mul (p i) a)) := by
    rw [add_f (Nat.le_refl _) (by omega) ha (fun _ => by decide) hp (by omega)]
    congr 1
    refine tab_congr (fun i hi => ?_)
    rw [if_pos hi, Nat.zero_xor]
  have e2 : parity_add.f k (tab n (fun i => mul (p i) a)) (tab n q) 1 = some (tab n (fun i => mul (p i) a ^^^ q i)) := by
    rw [add_f1 (Nat.le_refl _) (by omega) (fun i => mul_lt (hp i)) hq (by omega)]
    congr 1
    refine tab_congr (fun i hi => ?_)
    rw [if_pos hi]
  have h2 : ∀ i, mul (p i) a ^^^ q i < 256 := fun i => xor_lt (mul_lt (hp i)) (hq i)
  have e3 := one_x (k := k) (n := n) (b := a ^^^ b) (f := fun i => mul (p i) a ^^^ q i) hn (xor_lt ha hb) h2 hk
  have e4 : parity_add.f k (tab n (fun _ => 0)) (tab n p) 1 = some (tab n p) := by
    rw [add_f1 (Nat.le_refl _) (by omega) (fun _ => by decide) hp (by omega)]
    congr 1
    refine tab_congr (fun i hi => ?_)
    rw [if_pos hi, Nat.zero_xor]
  have e5 : parity_add.f k (tab n p) (tab n (fun i => mul (mul (p i) a ^^^ q i) (inv (a ^^^ b)))) 1 = some (tab n (fun i => p i ^^^ mul (mul (p i) a ^^^ q i) (inv (a ^^^ b)))) := by
    rw [add_f1 (Nat.le_refl _) (by omega) hp (fun i => mul_lt (h2 i)) (by omega)]
    congr 1
    refine tab_congr (fun i hi => ?_)
    rw [if_pos hi]
  unfold parity_two.f
  rw [tab_length, if_pos (by omega), Int.toNat_natCast, if_pos (by omega), replicate_tab, e1, Option.bind_some, e2, Option.bind_some, bx ha hb, e3, Option.bind_some, e4, Option.bind_some, e5, Option.bind_some]
/-! what is lost -/
theorem lost_asc (L : Nat → Nat) : ∀ (r t : Nat), (lostN L r t).Pairwise (· < ·)
  | 0, _ => List.Pairwise.nil
  | r + 1, t => by
    simp only [lostN]
    split
    · refine List.Pairwise.cons (fun x hx => ?_) (lost_asc L r (t + 1))
      obtain ⟨j, h1, _, _, rfl⟩ := (mem_lostN L r (t + 1) x).1 hx
      omega
    · exact lost_asc L r (t + 1)
theorem lost_all (L : Nat → Nat) : ∀ (r t : Nat), (∀ j, t ≤ j → j < t + r → L j = 0) → (lostN L r t).length = r
  | 0, _, _ => rfl
  | r + 1, t, h => by
    simp only [lostN]
    rw [if_pos (h t (by omega) (by omega)), List.length_cons, lost_all L r (t + 1) (fun j h1 h2 => h j (by omega) (by omega))]
theorem lost_congr {L L' : Nat → Nat} : ∀ (r t : Nat), (∀ j, t ≤ j → j < t + r → L j = L' j) → lostN L r t = lostN L' r t
  | 0, _, _ => rfl
  | r + 1, t, h => by
    simp only [lostN]
    rw [h t (by omega) (by omega), lost_congr r (t + 1) (fun j h1 h2 => h j (by omega) (by omega))]
theorem asc_le2 {I : List Int} {p q : Int} (h : I.Pairwise (· < ·)) (hm : ∀ x ∈ I, x = p ∨ x = q) : I.length ≤ 2 := by
  match I, h with
  | [], _ => simp
  | [_], _ => simp
  | [_, _], _ => simp
  | x :: y :: z :: I, h =>
    have h1 := hm x (by simp)
    have h2 := hm y (by simp)
    have h3 := hm z (by simp)
    rw [List.pairwise_cons, List.pairwise_cons] at h
    have a1 := h.1 y (by simp)
    have a2 := h.2.1 z (by simp)
    omega
theorem len_ge3 {I : List Int} {p q r : Int} (hp : p ∈ I) (hq : q ∈ I) (hr : r ∈ I) (h1 : p ≠ q) (h2 : q ≠ r) (h3 : p ≠ r) : 3 ≤ I.length := by
  match I with
  | [] => simp at hp
  | [x] => simp at hp hq; omega
  | [x, y] => simp at hp hq hr; omega
  | x :: y :: z :: I => simp
theorem rows_ext {m : Nat} {L L' : Nat → Nat} {P P' : Nat → Nat → Nat} (h : ∀ j, j < m → tab (L j) (P j) = tab (L' j) (P' j)) : rows m L P = rows m L' P' := by
  unfold rows
  exact List.map_congr_left (fun j hj => h j (List.mem_range.mp hj))
/-! Restore, exactly -/
theorem told_full {m n a b : Nat} {P : Nat → Nat → Nat} (ha : a = 0 ∨ a = n) (hb : b = 0 ∨ b = n) : told m n a b (fun i => s1 (fun _ => n) P i m) (fun i => s2 (fun _ => n) P i m) (fun _ => n) P = (rows m (fun _ => n) P, 0) := by
  unfold told
  refine if_pos ⟨ha.imp id (fun h => by rw [h]), hb.imp id (fun h => by rw [h])⟩
theorem end_none {m n a b k : Nat} {A B : Nat → Nat} {L : Nat → Nat} {P : Nat → Nat → Nat} (hn : n ≤ 100000) (hm : m ≤ 1000) (hA : ∀ i, A i < 256) (hB : ∀ i, B i < 256) (hP : ∀ j i, P j i < 256) (hL : ∀ j, j < m → L j = n) (hn0 : n ≠ 0) (ha : a = 0 ∨ a = n) (hb : b = 0 ∨ b = n) (hk : n + m + m + 3000 ≤ k) :
    parity_Restore.l0 k (rows m L P) (tab a A) (tab b B) (n : Int) (rows m L P) (rows m L P) (m : Int) (m : Int) = some (told m n a b A B (fun _ => n) P) := by
  obtain ⟨k, rfl⟩ : ∃ q, k = q + 2 := ⟨k - 2, by omega⟩
  have er : rows m L P = rows m (fun _ => n) P := rows_ext (fun j hj => by rw [hL j hj])
  have hLn : ∀ j, j < m → L j ≤ n := fun j hj => by have := hL j hj; omega
  obtain ⟨fp, hp, ep⟩ := add_some1 (k := k + 1) (n := n) (m := a) (f := fun i => s1 L P i m) (p := A) (by omega) (by omega) (fun i => s1_lt hP i m) hA (by omega)
  obtain ⟨fq, hq, eq⟩ := add_some1 (k := k + 1) (n := n) (m := b) (f := fun i => s2 L P i m) (p := B) (by omega) (by omega) (fun i => s2_lt hP i m) hB (by omega)
  have hno : lostN L m 0 = [] := by
    apply List.eq_nil_iff_forall_not_mem.2
    intro x hx
    obtain ⟨j, _, h1, h2, _⟩ := (mem_lostN L m 0 x).1 hx
    have := hL j (by omega)
    omega
  simp only [parity_Restore.l0]
  rw [if_neg (by omega), sums_f hn hP hLn (by omega) (by omega), Option.bind_some, ep, Option.bind_some, eq, Option.bind_some, lost_f (by omega) (by omega), Option.bind_some, hno, if_neg (by simp), if_neg (by simp)]
  simp only [parity_Restore.j2]
  rw [if_neg (by simp), if_neg (by simp), er]
  exact j3_f hn (by omega) hA hB hP (fun _ _ => Nat.le_refl _) (by omega)
theorem end_back {m n a b k : Nat} {L : Nat → Nat} {P : Nat → Nat → Nat} (hn : n ≤ 100000) (hn0 : n ≠ 0) (hm : m ≤ 64) (hP : ∀ j i, P j i < 256) (hL : ∀ j, j < m → L j = 0 ∨ L j = n) (ha : a = 0 ∨ a = n) (hb : b = 0 ∨ b = n) (hl : (lostN L m 0).length + (if a = 0 then 1 else 0) + (if b = 0 then 1 else 0) ≤ 2) (hk : n + m + m + 3000 ≤ k) :
    parity_Restore.l0 k (rows m L P) (tab a (fun i => s1 (fun _ => n) P i m)) (tab b (fun i => s2 (fun _ => n) P i m)) (n : Int) (rows m L P) (rows m L P) (m : Int) (m : Int) = some (rows m (fun _ => n) P, 0) := by
  have hA : ∀ i, s1 (fun _ => n) P i m < 256 := fun i => s1_lt hP i m
  have hB : ∀ i, s2 (fun _ => n) P i m < 256 := fun i => s2_lt hP i m
  have hmem := mem_lostN L m 0
  have hasc := lost_asc L m 0
  have hLn : ∀ j, j < m → L j ≤ n := fun j hj => by have := hL j hj; omega
  have fin : ∀ k' L2 P2, (∀ j, j < m → tab (L2 j) (P2 j) = tab n (P j)) → n + m + m + 40 ≤ k' → parity_Restore.j3 k' (tab a (fun i => s1 (fun _ => n) P i m)) (tab b (fun i => s2 (fun _ => n) P i m)) (n : Int) (rows m L2 P2) = some (rows m (fun _ => n) P, 0) := by
    intro k' L2 P2 h hk'
    rw [rows_ext (L' := fun _ => n) (P' := P) h, j3_f hn (by omega) hA hB hP (fun _ _ => Nat.le_refl _) hk', told_full ha hb]
  by_cases hno : lostN L m 0 = []
  · rw [end_none hn (by omega) hA hB hP (fun j hj => ?_) hn0 ha hb hk, told_full ha hb]
    refine (hL j hj).elim (fun z => ?_) id
    have := (hmem (j : Int)).2 ⟨j, by omega, by omega, z, rfl⟩
    rw [hno] at this
    simp at this
  obtain ⟨k, rfl⟩ : ∃ q, k = q + 2 := ⟨k - 2, by omega⟩
  have ep := add_f1 (k := k + 1) (n := n) (m := a) (f := fun i => s1 L P i m) (p := fun i => s1 (fun _ => n) P i m) (by omega) (by omega) (fun i => s1_lt hP i m) hA (by omega)
  have eq := add_f1 (k := k + 1) (n := n) (m := b) (f := fun i => s2 L P i m) (p := fun i => s2 (fun _ => n) P i m) (by omega) (by omega) (fun i => s2_lt hP i m) hB (by omega)
  have gp : a = n → tab n (fun i => if i < a then s1 L P i m ^^^ s1 (fun _ => n) P i m else s1 L P i m) = tab n (fun i => S (fun j => if L j = 0 then P j i else 0) m) := by
    intro h
    refine tab_congr (fun i hi => ?_)
    rw [if_pos (by omega), s1_S, s1_S, miss (f := fun j => P j i) hi hL]
  have gq : b = n → tab n (fun i => if i < b then s2 L P i m ^^^ s2 (fun _ => n) P i m else s2 L P i m) = tab n (fun i => S (fun j => if L j = 0 then mul (P j i) (pw j) else 0) m) := by
    intro h
    refine tab_congr (fun i hi => ?_)
    rw [if_pos (by omega), s2_S, s2_S, miss (f := fun j => mul (P j i) (pw j)) hi hL]
  simp only [parity_Restore.l0]
  rw [if_neg (by omega), sums_f hn hP hLn (by omega) (by omega), Option.bind_some, ep, Option.bind_some, eq, Option.bind_some, lost_f (by omega) (by omega), Option.bind_some]
  clear ep eq
  generalize lostN L m 0 = I at hl hmem hno hasc
  match I, hl with
  | [], _ => exact absurd rfl hno
  | [x], hl =>
    obtain ⟨i0, _, hi, h0, rfl⟩ := (hmem x).1 (List.mem_cons_self ..)
    have hall : ∀ j, j < m → j ≠ i0 → L j = n := by
      intro j hj hne
      refine (hL j hj).elim (fun z => ?_) id
      have := (hmem (j : Int)).2 ⟨j, by omega, by omega, z, rfl⟩
      rw [List.mem_singleton] at this
      omega
    have hnz : ∀ j, j < m → j ≠ i0 → L j ≠ 0 := fun j hj hne => by have := hall j hj hne; omega
    have fin1 : ∀ g : Nat → Nat, tab n g = tab n (P i0) → parity_Restore.j3 k (tab a (fun i => s1 (fun _ => n) P i m)) (tab b (fun i => s2 (fun _ => n) P i m)) (n : Int) ((rows m L P).set (i0 : Int).toNat (tab n g)) = some (rows m (fun _ => n) P, 0) := by
      intro g hg
      rw [Int.toNat_natCast, rows_set]
      refine fin k _ _ (fun j hj => ?_) (by omega)
      by_cases e : j = i0
      · rw [if_pos e, if_pos e, hg, e]
      · rw [if_neg e, if_neg e, hall j hj e]
    rw [if_neg (by simp), if_pos (by simp)]
    simp only [parity_Restore.j2]
    rw [tab_length]
    by_cases c : (a : Int) > 0
    · rw [if_pos (decide_eq_true c), if_pos (by simp), rd0, if_pos (by omega), rows_length, if_pos (by omega)]
      rw [gp (by omega)]
      refine fin1 _ (tab_congr (fun i hi' => ?_))
      rw [S_one (i0 := i0) m (fun j hj hne => if_neg (hnz j hj hne)) (by omega), if_pos h0]
    · have hbn : b = n := by
        have ha0 : a = 0 := by omega
        rw [if_pos ha0] at hl
        refine hb.elim (fun z => ?_) id
        rw [if_pos z] at hl
        simp at hl
      rw [if_neg (by rw [decide_eq_false c]; simp), if_pos (by simp), if_pos (by simp), rd0, power_f (by omega) (by omega), Option.bind_some, gq hbn]
      have hS : ∀ i, S (fun j => if L j = 0 then mul (P j i) (pw j) else 0) m = mul (P i0 i) (pw i0) := fun i => by
        rw [S_one (i0 := i0) m (fun j hj hne => if_neg (hnz j hj hne)) (by omega), if_pos h0]
      rw [one_x hn (pw_lt i0) (fun i => by rw [hS i]; exact mul_lt (hP i0 i)) (by omega), Option.bind_some, if_pos (by omega), rows_length, if_pos (by omega)]
      refine fin1 _ (tab_congr (fun i hi' => ?_))
      rw [hS i, undo (hP i0 i) (pw_lt i0) (pw_nz (by omega))]
  | [x, y], hl =>
    obtain ⟨i0, _, hi, h0, rfl⟩ := (hmem x).1 (List.mem_cons_self ..)
    obtain ⟨i1, _, hi1, h1, rfl⟩ := (hmem y).1 (List.mem_cons_of_mem _ (List.mem_cons_self ..))
    have hne : i0 ≠ i1 := by
      rw [List.pairwise_cons] at hasc
      have := hasc.1 _ (List.mem_cons_self ..)
      omega
    have hall : ∀ j, j < m → j ≠ i0 → j ≠ i1 → L j = n := by
      intro j hj e0 e1
      refine (hL j hj).elim (fun z => ?_) id
      have := (hmem (j : Int)).2 ⟨j, by omega, by omega, z, rfl⟩
      rw [List.mem_cons, List.mem_singleton] at this
      omega
    have hnz : ∀ j, j < m → j ≠ i0 → j ≠ i1 → L j ≠ 0 := fun j hj e0 e1 => by have := hall j hj e0 e1; omega
    have han : a = n := by
      refine ha.elim (fun z => ?_) id
      rw [if_pos z] at hl
      split at hl <;> simp only [List.length_cons, List.length_nil] at hl <;> omega
    have hbn : b = n := by
      refine hb.elim (fun z => ?_) id
      rw [if_pos z] at hl
      split at hl <;> simp only [List.length_cons, List.length_nil] at hl <;> omega
    have hS1 : ∀ i, S (fun j => if L j = 0 then P j i else 0) m = P i0 i ^^^ P i1 i := fun i => by
      rw [S_two hne (fun j hj e0 e1 => if_neg (hnz j hj e0 e1)) (by omega) (by omega), if_pos h0, if_pos h1]
    have hS2 : ∀ i, S (fun j => if L j = 0 then mul (P j i) (pw j) else 0) m = mul (P i0 i) (pw i0) ^^^ mul (P i1 i) (pw i1) := fun i => by
      rw [S_two hne (fun j hj e0 e1 => if_neg (hnz j hj e0 e1)) (by omega) (by omega), if_pos h0, if_pos h1]
    have hy : ∀ i, mul (mul (P i0 i ^^^ P i1 i) (pw i0) ^^^ (mul (P i0 i) (pw i0) ^^^ mul (P i1 i) (pw i1))) (inv (pw i0 ^^^ pw i1)) = P i1 i := by
      intro i
      have e : mul (P i0 i ^^^ P i1 i) (pw i0) ^^^ (mul (P i0 i) (pw i0) ^^^ mul (P i1 i) (pw i1)) = mul (P i1 i) (pw i0 ^^^ pw i1) := by
        rw [mul_xor_left _ (hP i0 i) (hP i1 i), mul_xor_right, xor4, Nat.xor_self, Nat.zero_xor]
      rw [e, undo (hP i1 i) (xor_lt (pw_lt i0) (pw_lt i1)) (pw_xor (by omega) (by omega) hne)]
    rw [gp han, gq hbn, tab_congr (fun i _ => hS1 i), tab_congr (fun i _ => hS2 i)]
    rw [if_pos (by simp), if_pos (by simp), if_pos (by simp), rd0, rd1, power_f (by omega) (by omega), Option.bind_some, power_f (by omega) (by omega), Option.bind_some, two_x hn (pw_lt i0) (pw_lt i1) (fun i => xor_lt (hP i0 i) (hP i1 i)) (fun i => xor_lt (mul_lt (hP i0 i)) (mul_lt (hP i1 i))) (by omega), Option.bind_some, rows_length, if_pos (by omega), if_pos (by omega), if_pos (by omega), if_pos (by omega), Int.toNat_natCast, Int.toNat_natCast, rows_set, rows_set]
    refine fin _ _ _ (fun j hj => ?_) (by omega)
    by_cases e1 : j = i1
    · rw [if_pos e1, if_pos e1, e1]
      exact tab_congr (fun i _ => hy i)
    · rw [if_neg e1, if_neg e1]
      by_cases e0 : j = i0
      · rw [if_pos e0, if_pos e0, e0]
        refine tab_congr (fun i _ => ?_)
        show (P i0 i ^^^ P i1 i) ^^^ mul _ _ = _
        rw [hy i, xor_self_cancel]
      · rw [if_neg e0, if_neg e0, hall j hj e0 e1]
  | x :: y :: z :: I, hl => exact absurd hl (by split <;> split <;> simp only [List.length_cons] <;> omega)
theorem all_copied {m n a b : Nat} {A B : Nat → Nat} {L : Nat → Nat} {P : Nat → Nat → Nat} {res : Option (List (List Int) × Int)} {K : Nat} (hn : n ≤ 100000) (hm : m ≤ 1000) (hL : ∀ j, j < m → L j ≤ n)
    (hend : ∀ k, K ≤ k → parity_Restore.l0 k (rows m L P) (tab a A) (tab b B) (n : Int) (rows m L P) (rows m L P) (m : Int) (m : Int) = res) :
    ∀ (r t k : Nat), t + r = m → K + r ≤ k → parity_Restore.l0 k (rows m L P) (tab a A) (tab b B) (n : Int) (rows t L P) (rows m L P) (m : Int) (t : Int) = res := by
  intro r
  induction r with
  | zero =>
    intro t k ht hk
    obtain rfl : t = m := by omega
    exact hend k (by omega)
  | succ r ih =>
    intro t k ht hk
    obtain ⟨k, rfl⟩ : ∃ q, k = q + 1 := ⟨k - 1, by omega⟩
    have h := ih (t + 1) k (by omega) (by omega)
    have hlt : t < m := by omega
    have hc : bytes_Clone.f (tab (L t) (P t)) = some (tab (L t) (P t)) := by
      have := hL t hlt
      unfold bytes_Clone.f
      rw [if_pos (by rw [tab_length]; omega)]
    simp only [parity_Restore.l0]
    rw [if_pos (by omega), if_pos (by omega), rows_length, if_pos (by omega), rd_rows hlt, hc, Option.bind_some, rows_length, if_pos (by omega), ws (by omega), ← rows_succ]
    exact h
/-- the size of parts of which not all are lost -/
theorem size_some {M n : Nat} {L : Nat → Nat} (hn0 : n ≠ 0) (hn : n ≤ 16384) (hL : ∀ j, j < M → L j = 0 ∨ L j = n) (hl : (lostN L M 0).length < M) : szN L M 0 0 = n := by
  refine szN_same M 0 0 n (.inl rfl) hn0 hn (fun j _ hj => hL j (by omega)) (.inr ?_)
  apply Classical.byContradiction
  intro h
  have := lost_all L M 0 (fun j _ hj => (hL j (by omega)).elim id (fun e => absurd ⟨j, Nat.zero_le _, hj, e⟩ h))
  omega
/-- the parts L, P of which M = m + 2: what Restore is asked -/
def ask (k m : Nat) (L : Nat → Nat) (P : Nat → Nat → Nat) : Option (List (List Int) × Int) := parity_Restore.f k (rows m L P) (tab (L m) (P m)) (tab (L (m + 1)) (P (m + 1)))
theorem ext_self {α : Type} {m j : Nat} {f : Nat → α} (h : j < m + 2) : ext m f (f m) (f (m + 1)) j = f j := by
  unfold ext
  by_cases c : j < m
  · rw [if_pos c]
  · rw [if_neg c]
    by_cases d : j = m
    · rw [if_pos d, d]
    · rw [if_neg d, show j = m + 1 by omega]
theorem ask_in {k m n : Nat} {L : Nat → Nat} {P : Nat → Nat → Nat} (hm1 : 1 ≤ m) (hm : m ≤ 64) (hn0 : n ≠ 0) (hn : n ≤ 16384) (hL : ∀ j, j < m + 2 → L j = 0 ∨ L j = n) (hk : m + 10 ≤ k) :
    ask (k + 1) m L P = if (lostN L (m + 2) 0).length > 2 then some ([], 30) else parity_Restore.l0 k (rows m L P) (tab (L m) (P m)) (tab (L (m + 1)) (P (m + 1))) (n : Int) [] (rows m L P) (m : Int) 0 := by
  have e : lostN (ext m L (L m) (L (m + 1))) (m + 2) 0 = lostN L (m + 2) 0 := lost_congr _ _ (fun j _ hj => ext_self (by omega))
  have hL' : ∀ j, j < m + 2 → ext m L (L m) (L (m + 1)) j = 0 ∨ ext m L (L m) (L (m + 1)) j = n := fun j hj => by rw [ext_self hj]; exact hL j hj
  unfold ask
  rw [restore_in (by omega) (by omega) hk, e]
  by_cases c : (lostN L (m + 2) 0).length > 2
  · rw [if_pos c]
    split
    · rfl
    · rename_i c1
      rw [size_some hn0 hn hL' (by rw [e]; have := lostN_le L (m + 2) 0; omega), if_neg (by omega), if_pos (by omega)]
  · rw [if_neg c, if_neg (by omega), size_some hn0 hn hL' (by rw [e]; omega), if_neg (by omega), if_neg (by omega)]
/-- A: at most two lost, all else as Make made it: all comes back. -/
theorem ask_back {k m n : Nat} {L : Nat → Nat} {P : Nat → Nat → Nat} (hm1 : 1 ≤ m) (hm : m ≤ 64) (hn0 : n ≠ 0) (hn : n ≤ 16384) (hP : ∀ j i, P j i < 256) (hL : ∀ j, j < m + 2 → L j = 0 ∨ L j = n)
    (hl : (lostN L (m + 2) 0).length ≤ 2) (hA : P m = fun i => s1 (fun _ => n) P i m) (hB : P (m + 1) = fun i => s2 (fun _ => n) P i m) (hk : 30000 ≤ k) : ask k m L P = some (rows m (fun _ => n) P, 0) := by
  obtain ⟨k, rfl⟩ : ∃ q, k = q + 1 := ⟨k - 1, by omega⟩
  rw [ask_in hm1 hm hn0 hn hL (by omega), if_neg (by omega), hA, hB]
  have hcount : (lostN L (m + 2) 0).length = (lostN L m 0).length + (if L m = 0 then 1 else 0) + (if L (m + 1) = 0 then 1 else 0) := by
    rw [lostN_app L L 2 m 0 (fun _ _ _ => rfl), Nat.zero_add]
    simp only [lostN]
    split <;> split <;> simp [*] <;> omega
  have h0 : rows 0 L P = [] := rfl
  rw [← h0, show (0 : Int) = ((0 : Nat) : Int) from rfl]
  refine all_copied (by omega) (by omega) (fun j hj => by have := hL j (by omega); omega) (K := n + m + m + 3000) (fun k hk => end_back (by omega) hn0 hm hP (fun j hj => hL j (by omega)) (hL m (by omega)) (hL (m + 1) (by omega)) (by omega) hk) m 0 k (by omega) (by omega)
/-- B: more than two lost. -/
theorem ask_many {k m n : Nat} {L : Nat → Nat} {P : Nat → Nat → Nat} (hm1 : 1 ≤ m) (hm : m ≤ 64) (hn0 : n ≠ 0) (hn : n ≤ 16384) (hL : ∀ j, j < m + 2 → L j = 0 ∨ L j = n) (hl : 3 ≤ (lostN L (m + 2) 0).length) (hk : 100 ≤ k) : ask k m L P = some ([], 30) := by
  obtain ⟨k, rfl⟩ : ∃ q, k = q + 1 := ⟨k - 1, by omega⟩
  rw [ask_in hm1 hm hn0 hn hL (by omega), if_pos (by omega)]
/-- C: none lost, the parities do not fit. -/
theorem ask_none {k m n : Nat} {P : Nat → Nat → Nat} (hm1 : 1 ≤ m) (hm : m ≤ 64) (hn0 : n ≠ 0) (hn : n ≤ 16384) (hP : ∀ j i, P j i < 256) (hk : 30000 ≤ k) : ask k m (fun _ => n) P = some (told m n n n (P m) (P (m + 1)) (fun _ => n) P) := by
  obtain ⟨k, rfl⟩ : ∃ q, k = q + 1 := ⟨k - 1, by omega⟩
  have hno : (lostN (fun _ => n) (m + 2) 0).length = 0 := by
    rw [List.length_eq_zero_iff]
    apply List.eq_nil_iff_forall_not_mem.2
    intro x hx
    obtain ⟨j, _, _, h2, _⟩ := (mem_lostN _ _ _ x).1 hx
    exact hn0 h2
  rw [ask_in hm1 hm hn0 hn (fun _ _ => .inr rfl) (by omega), if_neg (by omega)]
  have h0 : rows 0 (fun _ => n) P = [] := rfl
  rw [← h0, show (0 : Int) = ((0 : Nat) : Int) from rfl]
  exact all_copied (by omega) (by omega) (fun j hj => Nat.le_refl _) (K := n + m + m + 3000) (fun k hk => end_none (by omega) (by omega) (fun i => hP m i) (fun i => hP (m + 1) i) hP (fun _ _ => rfl) hn0 (.inr rfl) (.inr rfl) hk) m 0 k (by omega) (by omega)
end Go.Proofs.Ytibkckcpclkclaa.Bk
