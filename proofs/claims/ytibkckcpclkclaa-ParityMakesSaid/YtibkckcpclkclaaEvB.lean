/-
  What the printed functions of lists answer: bytes put to bytes, both parities, the document's parities.
-/
import Derived.Test.YtibkckcpclkclaaMx3
import Derived.Test.YtibkckcpclkclaaMx4
import Derived.Test.YtibkckcpclkclaaEvA
namespace Go.Proofs.Ytibkckcpclkclaa.EvB
open Go.RowKit Go.Proofs.Ytibkckcpclkclaa.M Go.Proofs.Ytibkckcpclkclaa.Gf Go.Proofs.Ytibkckcpclkclaa.EvA Go.Proofs.YtibkckcpclkclaaW.PrintWords
/-- a list of n numbers by a function -/
def tab (n : Nat) (f : Nat → Nat) : List Int := (List.range n).map fun i => (f i : Int)
theorem tab_length (n : Nat) (f : Nat → Nat) : (tab n f).length = n := by simp [tab]
theorem rd_tab {n i : Nat} {f : Nat → Nat} (h : i < n) : rd (tab n f) (i : Int) = (f i : Int) := by
  simp [rd, tab, h]
theorem tab_set {n i : Nat} {f : Nat → Nat} {v : Nat} : (tab n f).set i (v : Int) = tab n (fun j => if j = i then v else f j) := by
  apply List.ext_getElem
  · simp [tab]
  · intro j h1 h2
    simp only [tab, List.getElem_set, List.getElem_map, List.getElem_range]
    by_cases e : i = j
    · subst e; simp
    · rw [if_neg e, if_neg (fun h => e h.symm)]
theorem tab_congr {n : Nat} {f g : Nat → Nat} (h : ∀ i, i < n → f i = g i) : tab n f = tab n g := by
  unfold tab
  apply List.map_congr_left
  intro i hi
  rw [h i (List.mem_range.mp hi)]
theorem tab_succ (n : Nat) (f : Nat → Nat) : tab (n + 1) f = tab n f ++ [(f n : Int)] := by simp [tab, List.range_succ]
theorem tab_zero (f : Nat → Nat) : tab 0 f = [] := rfl
theorem replicate_tab (n : Nat) : List.replicate n (0 : Int) = tab n (fun _ => 0) := by
  apply List.ext_getElem
  · simp [tab]
  · intro j h1 h2; simp [tab]
theorem bytes_tab {l : List Int} (h : ∀ x ∈ l, 0 ≤ x ∧ x ≤ 255) : l = tab l.length (fun i => (l.getD i 0).toNat) ∧ ∀ i, (l.getD i 0).toNat < 256 := by
  constructor
  · apply List.ext_getElem
    · simp [tab]
    · intro j h1 h2
      have := h l[j] (List.getElem_mem h1)
      simp only [tab, List.getElem_map, List.getElem_range, List.getD_eq_getElem?_getD, List.getElem?_eq_getElem h1, Option.getD_some]
      omega
  · intro i
    by_cases hi : i < l.length
    · have := h l[i] (List.getElem_mem hi)
      simp only [List.getD_eq_getElem?_getD, List.getElem?_eq_getElem hi, Option.getD_some]; omega
    · have e : l.getD i 0 = 0 := by simp [List.getD_eq_getElem?_getD, List.getElem?_eq_none (show l.length ≤ i by omega)]
      rw [e]; decide
/-! bytes put to bytes -/
theorem add_l (r : Nat) : ∀ (k n m t by_ : Nat) (f p : Nat → Nat), t + r = m → m ≤ n → n ≤ 1000000 → by_ < 256 → (∀ i, f i < 256) → (∀ i, p i < 256) → r + 10 < k →
    parity_add.l0 k (tab n (fun i => if i < t then f i ^^^ mul (p i) by_ else f i)) (by_ : Int) (tab m p) (m : Int) (t : Int) = some (tab n (fun i => if i < m then f i ^^^ mul (p i) by_ else f i)) := by
  induction r with
  | zero =>
    intro k n m t by_ f p ht hm hn hb hf hp hk
    obtain ⟨k, rfl⟩ : ∃ q, k = q + 1 := ⟨k - 1, by omega⟩
    obtain rfl : t = m := by omega
    simp only [parity_add.l0]; rw [if_neg (by omega)]
  | succ r ih =>
    intro k n m t by_ f p ht hm hn hb hf hp hk
    obtain ⟨k, rfl⟩ : ∃ q, k = q + 1 := ⟨k - 1, by omega⟩
    have hlt : t < m := by omega
    have hmul := mul_lt (a := p t) (b := by_) (hp t)
    simp only [parity_add.l0]
    rw [if_pos (by omega), if_pos (by omega), tab_length, tab_length, if_pos (by omega), if_pos (by omega), rd_tab hlt, times_f (hp t) hb (by omega)]
    simp only [Option.bind_some]
    rw [rd_tab (show t < n by omega), if_neg (Nat.lt_irrefl t), bx (hf t) hmul, Int.toNat_natCast, tab_set, ws (by omega)]
    have h := ih k n m (t + 1) by_ f p (by omega) hm hn hb hf hp (by omega)
    rw [← h]
    congr 1
    apply tab_congr
    intro i _
    by_cases e : i = t
    · subst e; rw [if_pos rfl, if_pos (by omega)]
    · rw [if_neg e]
      by_cases c : i < t
      · rw [if_pos c, if_pos (by omega)]
      · rw [if_neg c, if_neg (by omega)]
theorem add_f {k n m by_ : Nat} {f p : Nat → Nat} (hm : m ≤ n) (hn : n ≤ 1000000) (hb : by_ < 256) (hf : ∀ i, f i < 256) (hp : ∀ i, p i < 256) (hk : m + 11 ≤ k) :
    parity_add.f k (tab n f) (tab m p) (by_ : Int) = some (tab n (fun i => if i < m then f i ^^^ mul (p i) by_ else f i)) := by
  have h := add_l m k n m 0 by_ f p (by omega) hm hn hb hf hp (by omega)
  unfold parity_add.f
  rw [tab_length, ← h]
  congr 1
theorem add_f1 {k n m : Nat} {f p : Nat → Nat} (hm : m ≤ n) (hn : n ≤ 1000000) (hf : ∀ i, f i < 256) (hp : ∀ i, p i < 256) (hk : m + 11 ≤ k) :
    parity_add.f k (tab n f) (tab m p) 1 = some (tab n (fun i => if i < m then f i ^^^ p i else f i)) := by
  have h := add_f (by_ := 1) hm hn (by decide) hf hp hk
  rw [show (1 : Int) = ((1 : Nat) : Int) from rfl, h]
  congr 1
  apply tab_congr
  intro i _
  rw [mul_one (p i) (hp i)]
/-! rows of bytes -/
def rows (m : Nat) (L : Nat → Nat) (P : Nat → Nat → Nat) : List (List Int) := (List.range m).map fun j => tab (L j) (P j)
theorem rows_length (m : Nat) (L : Nat → Nat) (P : Nat → Nat → Nat) : (rows m L P).length = m := by simp [rows]
theorem rd_rows {m j : Nat} {L : Nat → Nat} {P : Nat → Nat → Nat} (h : j < m) : rd_L1 (rows m L P) (j : Int) = tab (L j) (P j) := by
  simp [rd_L1, rows, h]
theorem rd_rows0 {m : Nat} {L : Nat → Nat} {P : Nat → Nat → Nat} (h : 0 < m) : rd_L1 (rows m L P) 0 = tab (L 0) (P 0) := rd_rows (j := 0) h
theorem rows_of {l : List (List Int)} (h : ∀ p ∈ l, ∀ x ∈ p, 0 ≤ x ∧ x ≤ 255) :
    l = rows l.length (fun j => (l.getD j []).length) (fun j i => ((l.getD j []).getD i 0).toNat) ∧ ∀ j i, ((l.getD j []).getD i 0).toNat < 256 := by
  have hh : ∀ j, ∀ x ∈ l.getD j [], 0 ≤ x ∧ x ≤ 255 := by
    intro j
    by_cases hj : j < l.length
    · have e : l.getD j [] = l[j] := by simp [List.getD_eq_getElem?_getD, List.getElem?_eq_getElem hj]
      rw [e]; exact h _ (List.getElem_mem hj)
    · have e : l.getD j [] = [] := by simp [List.getD_eq_getElem?_getD, List.getElem?_eq_none (show l.length ≤ j by omega)]
      rw [e]; intro x hx; exact absurd hx (by simp)
  refine ⟨?_, fun j i => (bytes_tab (hh j)).2 i⟩
  apply List.ext_getElem
  · simp [rows]
  · intro j h1 h2
    have e : l.getD j [] = l[j] := by simp [List.getD_eq_getElem?_getD, List.getElem?_eq_getElem h1]
    simp only [rows, List.getElem_map, List.getElem_range]
    have hb := (bytes_tab (hh j)).1
    rw [e] at hb ⊢
    exact hb
section
variable {m : Nat} {L : Nat → Nat} {P : Nat → Nat → Nat}
theorem few_l (r : Nat) : ∀ (k t : Nat), t + r = m → m ≤ 9223372036854775807 → (∀ j, j < t → L j ≤ 60) → r < k →
    ∃ b, incunablelaw45_few.l0 k (rows m L P) (rows m L P) (m : Int) (t : Int) = some b ∧ (b = true → (∀ j, j < m → L j ≤ 60) ∧ m ≤ 70) := by
  induction r with
  | zero =>
    intro k t ht hm hall hk
    obtain ⟨k, rfl⟩ : ∃ q, k = q + 1 := ⟨k - 1, by omega⟩
    obtain rfl : t = m := by omega
    refine ⟨decide (((rows t L P).length : Int) ≤ 70), ?_, fun h => ⟨hall, ?_⟩⟩
    · simp only [incunablelaw45_few.l0]; rw [if_neg (by omega)]
    · have := of_decide_eq_true h; rw [rows_length] at this; omega
  | succ r ih =>
    intro k t ht hm hall hk
    obtain ⟨k, rfl⟩ : ∃ q, k = q + 1 := ⟨k - 1, by omega⟩
    have hlt : t < m := by omega
    simp only [incunablelaw45_few.l0]
    rw [if_pos (by omega), if_pos (by omega), rows_length, if_pos (by omega), rd_rows hlt, tab_length, ws (by omega)]
    by_cases c : L t ≤ 60
    · rw [if_neg (by omega)]
      refine ih k (t + 1) (by omega) hm (fun j hj => ?_) (by omega)
      rcases Nat.lt_succ_iff_lt_or_eq.mp hj with h | h
      · exact hall j h
      · rw [h]; exact c
    · rw [if_pos (by omega)]
      exact ⟨false, rfl, fun h => by cases h⟩
theorem few_f {k : Nat} (hm : m ≤ 9223372036854775807) (hk : m + 1 ≤ k) : ∃ b, incunablelaw45_few.f k (rows m L P) = some b ∧ (b = true → (∀ j, j < m → L j ≤ 60) ∧ m ≤ 70) := by
  unfold incunablelaw45_few.f
  rw [rows_length]
  exact few_l m k 0 (by omega) hm (fun j hj => by omega) (by omega)
/-! the length that all have -/
def szN (L : Nat → Nat) : Nat → Nat → Nat → Nat
  | 0, _, n => n
  | r + 1, t, n => if L t = 0 then szN L r (t + 1) n else if n > 0 ∧ L t ≠ n then 0 else if L t > 16384 then 0 else szN L r (t + 1) (L t)
theorem size_l (r : Nat) : ∀ (k t n : Nat), t + r = m → m ≤ 1000000 → r < k → parity_size.l0 k (n : Int) (rows m L P) (m : Int) (t : Int) = some (szN L r t n : Int) := by
  induction r with
  | zero =>
    intro k t n ht hm hk
    obtain ⟨k, rfl⟩ : ∃ q, k = q + 1 := ⟨k - 1, by omega⟩
    obtain rfl : t = m := by omega
    simp only [parity_size.l0]; rw [if_neg (by omega)]; rfl
  | succ r ih =>
    intro k t n ht hm hk
    obtain ⟨k, rfl⟩ : ∃ q, k = q + 1 := ⟨k - 1, by omega⟩
    have hlt : t < m := by omega
    simp only [parity_size.l0]
    rw [if_pos (by omega), if_pos (by omega), rows_length, if_pos (by omega), rd_rows hlt, tab_length, ws (by omega)]
    simp only [szN]
    by_cases c0 : L t = 0
    · rw [if_pos (by omega), if_pos c0]; exact ih k (t + 1) n (by omega) hm (by omega)
    · rw [if_neg (by omega), if_neg c0]
      by_cases c1 : n > 0
      · rw [if_pos (by omega)]
        by_cases c2 : L t = n
        · rw [if_pos (by omega), if_neg (show ¬ (n > 0 ∧ L t ≠ n) from fun h => h.2 c2)]
          by_cases c3 : L t > 16384
          · rw [if_pos (by omega), if_pos c3]; rfl
          · rw [if_neg (by omega), if_neg c3]; exact ih k (t + 1) (L t) (by omega) hm (by omega)
        · rw [if_neg (by omega), if_pos (show n > 0 ∧ L t ≠ n from ⟨c1, c2⟩)]; rfl
      · rw [if_neg (show ¬ ((n : Int) > 0) from by omega), if_neg (show ¬ (n > 0 ∧ L t ≠ n) from fun h => c1 h.1)]
        by_cases c3 : L t > 16384
        · rw [if_pos (by omega), if_pos c3]; rfl
        · rw [if_neg (by omega), if_neg c3]; exact ih k (t + 1) (L t) (by omega) hm (by omega)
theorem size_f {k : Nat} (hm : m ≤ 1000000) (hk : m + 1 ≤ k) : parity_size.f k (rows m L P) = some (szN L m 0 0 : Int) := by
  unfold parity_size.f
  rw [rows_length]
  exact size_l m k 0 0 (by omega) hm (by omega)
theorem szN_some (r : Nat) : ∀ (t n s : Nat), szN L r t n = s → s ≠ 0 → (n = 0 ∨ n = s) ∧ ∀ j, t ≤ j → j < t + r → L j = 0 ∨ (L j = s ∧ s ≤ 16384) := by
  induction r with
  | zero => intro t n s h hs; exact ⟨.inr h, fun j h1 h2 => by omega⟩
  | succ r ih =>
    intro t n s h hs
    simp only [szN] at h
    by_cases c0 : L t = 0
    · rw [if_pos c0] at h
      obtain ⟨h1, h2⟩ := ih (t + 1) n s h hs
      refine ⟨h1, fun j hj1 hj2 => ?_⟩
      rcases Nat.eq_or_lt_of_le hj1 with e | e
      · subst e; exact .inl c0
      · exact h2 j e (by omega)
    · rw [if_neg c0] at h
      by_cases c1 : n > 0 ∧ L t ≠ n
      · rw [if_pos c1] at h; exact absurd h.symm hs
      · rw [if_neg c1] at h
        by_cases c2 : L t > 16384
        · rw [if_pos c2] at h; exact absurd h.symm hs
        · rw [if_neg c2] at h
          obtain ⟨h1, h2⟩ := ih (t + 1) (L t) s h hs
          have e : L t = s := by rcases h1 with h1 | h1 <;> omega
          refine ⟨?_, fun j hj1 hj2 => ?_⟩
          · rcases Nat.eq_zero_or_pos n with e0 | e0
            · exact .inl e0
            · right
              have : L t = n := Classical.byContradiction fun hne => c1 ⟨e0, hne⟩
              omega
          · rcases Nat.eq_or_lt_of_le hj1 with e' | e'
            · subst e'; exact .inr ⟨e, by omega⟩
            · exact h2 j e' (by omega)
theorem szN_same (r : Nat) : ∀ (t n s : Nat), (n = 0 ∨ n = s) → s ≠ 0 → s ≤ 16384 → (∀ j, t ≤ j → j < t + r → L j = 0 ∨ L j = s) → (n = s ∨ ∃ j, t ≤ j ∧ j < t + r ∧ L j = s) → szN L r t n = s := by
  induction r with
  | zero =>
    intro t n s hn hs hs2 hall hex
    rcases hex with h | ⟨j, h1, h2, _⟩
    · exact h
    · omega
  | succ r ih =>
    intro t n s hn hs hs2 hall hex
    simp only [szN]
    have ht := hall t (Nat.le_refl _) (by omega)
    by_cases c0 : L t = 0
    · rw [if_pos c0]
      refine ih (t + 1) n s hn hs hs2 (fun j h1 h2 => hall j (by omega) (by omega)) ?_
      rcases hex with h | ⟨j, h1, h2, h3⟩
      · exact .inl h
      · right
        refine ⟨j, ?_, by omega, h3⟩
        rcases Nat.eq_or_lt_of_le h1 with e | e
        · subst e; omega
        · exact e
    · have e : L t = s := by rcases ht with h | h; · omega
                             · exact h
      rw [if_neg c0, if_neg (by intro h; rcases hn with hn | hn <;> omega), if_neg (by omega)]
      exact ih (t + 1) (L t) s (.inr e) hs hs2 (fun j h1 h2 => hall j (by omega) (by omega)) (.inl e)
/-! both parities -/
def s1 (L : Nat → Nat) (P : Nat → Nat → Nat) (i : Nat) : Nat → Nat
  | 0 => 0
  | j + 1 => if i < L j then s1 L P i j ^^^ P j i else s1 L P i j
def s2 (L : Nat → Nat) (P : Nat → Nat → Nat) (i : Nat) : Nat → Nat
  | 0 => 0
  | j + 1 => if i < L j then s2 L P i j ^^^ mul (P j i) (pw j) else s2 L P i j
theorem s1_lt (hP : ∀ j i, P j i < 256) (i : Nat) : ∀ j, s1 L P i j < 256
  | 0 => by simp [s1]
  | j + 1 => by
    simp only [s1]; split
    · exact xor_lt (s1_lt hP i j) (hP j i)
    · exact s1_lt hP i j
theorem s2_lt (hP : ∀ j i, P j i < 256) (i : Nat) : ∀ j, s2 L P i j < 256
  | 0 => by simp [s2]
  | j + 1 => by
    simp only [s2]; split
    · exact xor_lt (s2_lt hP i j) (mul_lt (hP j i))
    · exact s2_lt hP i j
theorem sums_l (n : Nat) (hn : n ≤ 100000) (hP : ∀ j i, P j i < 256) (hL : ∀ j, j < m → L j ≤ n) (hm : m ≤ 100000) (r : Nat) : ∀ (k t : Nat), t + r = m → n + m + r + 30 < k →
    parity_sums.l0 k (tab n (fun i => s1 L P i t)) (tab n (fun i => s2 L P i t)) (rows m L P) (m : Int) (t : Int) = some (tab n (fun i => s1 L P i m), tab n (fun i => s2 L P i m)) := by
  induction r with
  | zero =>
    intro k t ht hk
    obtain ⟨k, rfl⟩ : ∃ q, k = q + 1 := ⟨k - 1, by omega⟩
    obtain rfl : t = m := by omega
    simp only [parity_sums.l0]; rw [if_neg (by omega)]
  | succ r ih =>
    intro k t ht hk
    obtain ⟨k, rfl⟩ : ∃ q, k = q + 1 := ⟨k - 1, by omega⟩
    have hlt : t < m := by omega
    have hLt := hL t hlt
    simp only [parity_sums.l0]
    rw [if_pos (by omega), if_pos (by omega), rows_length, if_pos (by omega), rd_rows hlt, ws (by omega), add_f1 hLt (by omega) (fun i => s1_lt hP i t) (fun i => hP t i) (by omega)]
    simp only [Option.bind_some]
    rw [power_f (by omega) (by omega)]
    simp only [Option.bind_some]
    rw [add_f hLt (by omega) (pw_lt t) (fun i => s2_lt hP i t) (fun i => hP t i) (by omega)]
    simp only [Option.bind_some]
    exact ih k (t + 1) (by omega) (by omega)
theorem sums_f {n k : Nat} (hn : n ≤ 100000) (hP : ∀ j i, P j i < 256) (hL : ∀ j, j < m → L j ≤ n) (hm : m ≤ 100000) (hk : n + m + m + 31 ≤ k) :
    parity_sums.f k (rows m L P) (n : Int) = some (tab n (fun i => s1 L P i m), tab n (fun i => s2 L P i m)) := by
  unfold parity_sums.f
  rw [if_pos (by omega), Int.toNat_natCast, if_pos (by omega), rows_length, replicate_tab]
  exact sums_l n hn hP hL hm m k 0 (by omega) (by omega)
/-- parts are a group's -/
def Group (m : Nat) (L : Nat → Nat) : Prop := 1 ≤ m ∧ m ≤ 64 ∧ ∀ j, j < m → 1 ≤ L j ∧ L j ≤ 16384 ∧ L j = L 0
theorem may_all (r : Nat) : ∀ (k t : Nat), t + r = m → m ≤ 1000000 → 0 < m → (∀ j, j < m → 1 ≤ L j ∧ L j ≤ 16384 ∧ L j = L 0) → r < k → incunableref45_May.l0 k (rows m L P) (t : Int) = some true := by
  induction r with
  | zero =>
    intro k t ht hm h0 hall hk
    obtain ⟨k, rfl⟩ : ∃ q, k = q + 1 := ⟨k - 1, by omega⟩
    simp only [incunableref45_May.l0]; rw [rows_length, if_neg (by omega)]
  | succ r ih =>
    intro k t ht hm h0 hall hk
    obtain ⟨k, rfl⟩ : ∃ q, k = q + 1 := ⟨k - 1, by omega⟩
    have hlt : t < m := by omega
    obtain ⟨g1, g2, g3⟩ := hall t hlt
    simp only [incunableref45_May.l0]
    rw [rows_length, if_pos (by omega), if_pos (by omega), rd_rows hlt, rd_rows0 h0, tab_length, tab_length, if_neg (by omega), if_neg (by omega), if_pos (by omega), if_pos (by omega), ws (by omega)]
    exact ih k (t + 1) (by omega) hm h0 hall (by omega)
theorem may_not (r : Nat) : ∀ (k t : Nat), t + r = m → m ≤ 1000000 → 0 < m → (∃ j, t ≤ j ∧ j < m ∧ ¬ (1 ≤ L j ∧ L j ≤ 16384 ∧ L j = L 0)) → r < k → incunableref45_May.l0 k (rows m L P) (t : Int) = some false := by
  induction r with
  | zero =>
    intro k t ht hm h0 hex hk
    obtain ⟨j, h1, h2, _⟩ := hex
    omega
  | succ r ih =>
    intro k t ht hm h0 hex hk
    obtain ⟨k, rfl⟩ : ∃ q, k = q + 1 := ⟨k - 1, by omega⟩
    have hlt : t < m := by omega
    simp only [incunableref45_May.l0]
    rw [rows_length, if_pos (by omega), if_pos (by omega), rd_rows hlt, rd_rows0 h0, tab_length, tab_length, ws (by omega)]
    by_cases c1 : L t < 1
    · rw [if_pos (by omega)]
    · rw [if_neg (by omega)]
      by_cases c2 : L t > 16384
      · rw [if_pos (by omega)]
      · rw [if_neg (by omega), if_pos (by omega)]
        by_cases c3 : L t = L 0
        · rw [if_pos (by omega)]
          refine ih k (t + 1) (by omega) hm h0 ?_ (by omega)
          obtain ⟨j, h1, h2, h3⟩ := hex
          refine ⟨j, ?_, h2, h3⟩
          rcases Nat.eq_or_lt_of_le h1 with e | e
          · subst e; exact absurd ⟨by omega, by omega, c3⟩ h3
          · exact e
        · rw [if_neg (by omega)]
theorem may_yes {k : Nat} (g : Group m L) (hk : m + 2 ≤ k) : incunableref45_May.f k (rows m L P) = some true := by
  obtain ⟨g1, g2, g3⟩ := g
  obtain ⟨k, rfl⟩ : ∃ q, k = q + 1 := ⟨k - 1, by omega⟩
  unfold incunableref45_May.f
  rw [rows_length, if_neg (by omega), decide_eq_false (by omega)]
  simp only [incunableref45_May.j0, Bool.false_eq_true, if_false]
  exact may_all m k 0 (by omega) (by omega) (by omega) g3 (by omega)
theorem may_no {k : Nat} (hm : m ≤ 1000000) (g : ¬ Group m L) (hk : m + 2 ≤ k) : incunableref45_May.f k (rows m L P) = some false := by
  obtain ⟨k, rfl⟩ : ∃ q, k = q + 1 := ⟨k - 1, by omega⟩
  unfold incunableref45_May.f
  rw [rows_length]
  by_cases c1 : m < 1
  · rw [if_pos (by omega)]; simp [incunableref45_May.j0]
  · rw [if_neg (by omega)]
    by_cases c2 : m > 64
    · rw [decide_eq_true (by omega)]; simp [incunableref45_May.j0]
    · rw [decide_eq_false (by omega)]
      simp only [incunableref45_May.j0, Bool.false_eq_true, if_false]
      refine may_not m k 0 (by omega) (by omega) (by omega) ?_ (by omega)
      refine Classical.byContradiction fun hne => g ⟨by omega, by omega, fun j hj => ?_⟩
      exact Classical.byContradiction fun h => hne ⟨j, by omega, hj, h⟩
theorem make_l (n : Nat) (hn : n ≤ 100000) (hP : ∀ j i, P j i < 256) (hL : ∀ j, j < m → 1 ≤ L j ∧ L j ≤ n) (hm : m ≤ 100000) (r : Nat) : ∀ (k t : Nat), t + r = m → n + m + m + r + 40 < k →
    parity_Make.l0 k (rows m L P) (n : Int) (rows m L P) (m : Int) (t : Int) = some (tab n (fun i => s1 L P i m), tab n (fun i => s2 L P i m), 0) := by
  induction r with
  | zero =>
    intro k t ht hk
    obtain ⟨k, rfl⟩ : ∃ q, k = q + 1 := ⟨k - 1, by omega⟩
    simp only [parity_Make.l0]; rw [if_neg (by omega), sums_f hn hP (fun j hj => (hL j hj).2) hm (by omega)]; rfl
  | succ r ih =>
    intro k t ht hk
    obtain ⟨k, rfl⟩ : ∃ q, k = q + 1 := ⟨k - 1, by omega⟩
    have hlt : t < m := by omega
    have := hL t hlt
    simp only [parity_Make.l0]
    rw [if_pos (by omega), if_pos (by omega), rows_length, if_pos (by omega), rd_rows hlt, tab_length, if_neg (by omega), ws (by omega)]
    exact ih k (t + 1) (by omega) (by omega)
theorem make_bad_l (n : Int) (hm : m ≤ 100000) (r : Nat) : ∀ (k t : Nat), t + r = m → (∃ j, t ≤ j ∧ j < m ∧ L j = 0) → r < k →
    parity_Make.l0 k (rows m L P) n (rows m L P) (m : Int) (t : Int) = some ([], [], 2) := by
  induction r with
  | zero =>
    intro k t ht hex hk
    obtain ⟨j, h1, h2, _⟩ := hex
    omega
  | succ r ih =>
    intro k t ht hex hk
    obtain ⟨k, rfl⟩ : ∃ q, k = q + 1 := ⟨k - 1, by omega⟩
    have hlt : t < m := by omega
    simp only [parity_Make.l0]
    rw [if_pos (by omega), if_pos (by omega), rows_length, if_pos (by omega), rd_rows hlt, tab_length, ws (by omega)]
    by_cases c : L t = 0
    · rw [if_pos (by omega)]
    · rw [if_neg (by omega)]
      refine ih k (t + 1) (by omega) ?_ (by omega)
      obtain ⟨j, h1, h2, h3⟩ := hex
      refine ⟨j, ?_, h2, h3⟩
      rcases Nat.eq_or_lt_of_le h1 with e | e
      · subst e; exact absurd h3 c
      · exact e
theorem make_yes {k : Nat} (hP : ∀ j i, P j i < 256) (g : Group m L) (hk : L 0 + 300 ≤ k) : parity_Make.f k (rows m L P) = some (tab (L 0) (fun i => s1 L P i m), tab (L 0) (fun i => s2 L P i m), 0) := by
  obtain ⟨g1, g2, g3⟩ := g
  have h0 := g3 0 (by omega)
  have hs : szN L m 0 0 = L 0 := szN_same m 0 0 (L 0) (.inl rfl) (by omega) (by omega) (fun j _ hj => .inr (g3 j (by omega)).2.2) (.inr ⟨0, by omega, by omega, rfl⟩)
  obtain ⟨k, rfl⟩ : ∃ q, k = q + 1 := ⟨k - 1, by omega⟩
  unfold parity_Make.f
  rw [size_f (by omega) (by omega), hs]
  simp only [Option.bind_some]
  rw [rows_length, if_neg (by omega), if_neg (by omega)]
  have e : (((L 0 : Nat) : Int) == 0) = false := by simp; omega
  rw [e]
  simp only [parity_Make.j0, Bool.false_eq_true, if_false]
  rw [rows_length]
  exact make_l (L 0) (by omega) hP (fun j hj => by have := g3 j hj; omega) (by omega) m k 0 (by omega) (by omega)
theorem make_no {k : Nat} (hm : m ≤ 100000) (g : ¬ Group m L) (hk : m + 2 ≤ k) : parity_Make.f k (rows m L P) = some ([], [], 2) := by
  obtain ⟨k, rfl⟩ : ∃ q, k = q + 1 := ⟨k - 1, by omega⟩
  unfold parity_Make.f
  rw [size_f (by omega) (by omega)]
  simp only [Option.bind_some]
  rw [rows_length]
  by_cases c0 : m = 0
  · rw [if_pos (by omega)]; simp [parity_Make.j0]
  · rw [if_neg (by omega)]
    by_cases c1 : m > 64
    · rw [if_pos (by omega)]; simp [parity_Make.j0]
    · rw [if_neg (by omega)]
      by_cases c2 : szN L m 0 0 = 0
      · rw [c2]; simp [parity_Make.j0]
      · have e : (((szN L m 0 0 : Nat) : Int) == 0) = false := by simp; omega
        rw [e]
        simp only [parity_Make.j0, Bool.false_eq_true, if_false]
        rw [rows_length]
        refine make_bad_l _ (by omega) m k 0 (by omega) ?_ (by omega)
        obtain ⟨_, h2⟩ := szN_some m 0 0 _ rfl c2
        refine Classical.byContradiction fun hne => g ⟨by omega, by omega, fun j hj => ?_⟩
        have hz : ∀ j, j < m → L j ≠ 0 := fun j hj h => hne ⟨j, by omega, hj, h⟩
        have a := h2 j (by omega) (by omega)
        have b := h2 0 (by omega) (by omega)
        have ha := hz j hj
        have hb := hz 0 (by omega)
        omega
/-! the document's parities -/
theorem rmake_l1 (hP : ∀ j i, P j i < 256) (n i : Nat) (hn : n ≤ 100000) (hi : i < n) (hL : ∀ j, j < m → L j = n) (hm : m ≤ 100000) (A B : List Int) (hA : A.length ≤ 100000) (hB : B.length ≤ 100000) (r : Nat) :
    ∀ (k t : Nat), t + r = m → r + 60 < k → ∃ k', r + k' + 1 = k ∧ incunableref45_Make.l1 k (rows m L P) A B (i : Int) (s1 L P i t : Int) (s2 L P i t : Int) (pw t : Int) (t : Int) = incunableref45_Make.l0 k' (rows m L P) (A ++ [(s1 L P i m : Int)]) (B ++ [(s2 L P i m : Int)]) ((i + 1 : Nat) : Int) := by
  induction r with
  | zero =>
    intro k t ht hk
    obtain ⟨k, rfl⟩ : ∃ q, k = q + 1 := ⟨k - 1, by omega⟩
    obtain rfl : t = m := by omega
    have e1 := s1_lt (L := L) hP i t
    have e2 := s2_lt (L := L) hP i t
    refine ⟨k, by omega, ?_⟩
    simp only [incunableref45_Make.l1]
    rw [rows_length, if_neg (by omega), if_pos (by omega), if_pos (by omega), ws (by omega), Int.emod_eq_of_lt (by omega) (by omega), Int.emod_eq_of_lt (by omega) (by omega)]
  | succ r ih =>
    intro k t ht hk
    obtain ⟨k, rfl⟩ : ∃ q, k = q + 1 := ⟨k - 1, by omega⟩
    have hlt : t < m := by omega
    have hLt := hL t hlt
    have e1 := s1_lt (L := L) hP i t
    have e2 := s2_lt (L := L) hP i t
    have e3 := hP t i
    have e4 := pw_lt t
    have e5 := mul_lt (a := P t i) (b := pw t) e3
    obtain ⟨k', hk', h⟩ := ih k (t + 1) (by omega) (by omega)
    refine ⟨k', by omega, ?_⟩
    rw [← h]
    simp only [incunableref45_Make.l1]
    rw [rows_length, if_pos (by omega), if_pos (by omega), if_pos (by omega), rd_rows hlt, tab_length, if_pos (by omega), rd_tab (by omega), wn (by omega), xor_f (by omega) (by omega) (by omega)]
    simp only [Option.bind_some]
    rw [rtimes_f e3 e4 (by omega)]
    simp only [Option.bind_some]
    rw [xor_f (by omega) (by omega) (by omega)]
    simp only [Option.bind_some]
    have e6 := rtimes_f (a := pw t) (b := 2) (k := k) e4 (by decide) (by omega)
    rw [show (2 : Int) = ((2 : Nat) : Int) from rfl, e6]
    simp only [Option.bind_some]
    rw [ws (by omega)]
    simp only [s1, s2, pw]
    rw [if_pos (by omega), if_pos (by omega)]
theorem rmake_l0 (hP : ∀ j i, P j i < 256) (n : Nat) (hn : n ≤ 100000) (hm0 : 0 < m) (hL : ∀ j, j < m → L j = n) (hm : m ≤ 100000) (r : Nat) :
    ∀ (k i : Nat), i + r = n → r * (m + 2) + m + 70 < k → incunableref45_Make.l0 k (rows m L P) (tab i (fun i => s1 L P i m)) (tab i (fun i => s2 L P i m)) (i : Int) = some (tab n (fun i => s1 L P i m), tab n (fun i => s2 L P i m)) := by
  induction r with
  | zero =>
    intro k i hi hk
    obtain ⟨k, rfl⟩ : ∃ q, k = q + 1 := ⟨k - 1, by omega⟩
    obtain rfl : i = n := by omega
    simp only [incunableref45_Make.l0]
    rw [rows_length, if_pos (by omega), rd_rows0 hm0, tab_length, hL 0 hm0, if_neg (by omega)]
  | succ r ih =>
    intro k i hi hk
    obtain ⟨k, rfl⟩ : ∃ q, k = q + 1 := ⟨k - 1, by omega⟩
    have hrm : (r + 1) * (m + 2) = r * (m + 2) + m + 2 := by rw [Nat.succ_mul]; omega
    simp only [incunableref45_Make.l0]
    rw [rows_length, if_pos (by omega), rd_rows0 hm0, tab_length, hL 0 hm0, if_pos (by omega)]
    obtain ⟨k', hk', h⟩ := rmake_l1 hP n i hn (by omega) hL hm (tab i (fun i => s1 L P i m)) (tab i (fun i => s2 L P i m)) (by rw [tab_length]; omega) (by rw [tab_length]; omega) m k 0 (by omega) (by omega)
    have e : incunableref45_Make.l1 k (rows m L P) (tab i (fun i => s1 L P i m)) (tab i (fun i => s2 L P i m)) (i : Int) 0 0 1 0 = _ := h
    rw [e, ← tab_succ i (fun i => s1 L P i m), ← tab_succ i (fun i => s2 L P i m)]
    exact ih k' (i + 1) (by omega) (by omega)
theorem rmake_f {k : Nat} (hP : ∀ j i, P j i < 256) (g : Group m L) (hk : L 0 * (m + 2) + m + 71 ≤ k) : incunableref45_Make.f k (rows m L P) = some (tab (L 0) (fun i => s1 L P i m), tab (L 0) (fun i => s2 L P i m)) := by
  obtain ⟨g1, g2, g3⟩ := g
  have h0 := g3 0 (by omega)
  exact rmake_l0 hP (L 0) (by omega) (by omega) (fun j hj => (g3 j hj).2.2) (by omega) (L 0) k 0 (by omega) (by omega)
theorem same_l (l : List Int) (hl : l.length ≤ 1000000) (r : Nat) : ∀ (k t : Nat), t + r = l.length → r < k → incunableref01_Same.l0 k l l (t : Int) = some true := by
  induction r with
  | zero =>
    intro k t ht hk
    obtain ⟨k, rfl⟩ : ∃ q, k = q + 1 := ⟨k - 1, by omega⟩
    simp only [incunableref01_Same.l0]; rw [if_neg (by omega)]
  | succ r ih =>
    intro k t ht hk
    obtain ⟨k, rfl⟩ : ∃ q, k = q + 1 := ⟨k - 1, by omega⟩
    simp only [incunableref01_Same.l0]
    rw [if_pos (by omega), if_pos (by omega), if_pos (by omega), if_true, ws (by omega)]
    exact ih k (t + 1) (by omega) (by omega)
theorem same_f {k : Nat} {l : List Int} (hl : l.length ≤ 1000000) (hk : l.length + 1 ≤ k) : incunableref01_Same.f k l l = some true := by
  unfold incunableref01_Same.f
  rw [if_pos rfl]
  exact same_l l hl l.length k 0 (by omega) (by omega)
end
/-- the law ParityMakes, of any rows of bytes -/
theorem makes (l : List (List Int)) (hl : l.length ≤ 9223372036854775807) (hb : ∀ p ∈ l, ∀ x ∈ p, 0 ≤ x ∧ x ≤ 255) : ∃ k, incunablelaw45_ParityMakes.f k l = some true := by
  obtain ⟨e, hP⟩ := rows_of hb
  generalize hL : (fun j => (l.getD j []).length) = L at e
  generalize hPP : (fun j i => ((l.getD j []).getD i 0).toNat) = P at e
  have hP' : ∀ j i, P j i < 256 := fun j i => by rw [← hPP]; exact hP j i
  clear hP hPP hL hb
  have hP := hP'
  clear hP'
  generalize l.length = m at *
  subst e
  refine ⟨m + 100000, ?_⟩
  unfold incunablelaw45_ParityMakes.f
  rw [awake_f (by omega)]
  simp only [Option.bind_some, if_true]
  obtain ⟨b, hf, hfew⟩ := few_f (L := L) (P := P) (k := m + 100000) hl (by omega)
  rw [hf]
  cases b with
  | false => rfl
  | true =>
    obtain ⟨h60, h70⟩ := hfew rfl
    simp only [Option.bind_some, if_true]
    by_cases g : Group m L
    · have h0 := h60 0 (by have := g.1; omega)
      have hmul : L 0 * (m + 2) ≤ 60 * 72 := Nat.mul_le_mul h0 (by omega)
      rw [make_yes hP g (by omega), may_yes g (by omega), rmake_f hP g (by omega)]
      simp only [Option.bind_some, if_true]
      rw [same_f (by rw [tab_length]; omega) (by rw [tab_length]; omega)]
      simp only [Option.bind_some, if_true]
      rw [same_f (by rw [tab_length]; omega) (by rw [tab_length]; omega)]
      rfl
    · rw [make_no (by omega) g (by omega), may_no (by omega) g (by omega)]
      simp [wrap64]
end Go.Proofs.Ytibkckcpclkclaa.EvB
