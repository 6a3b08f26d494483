/-
  Plain Lean of the layer's products, sums, sizes, parities, over the printed functions that ParityRefuses reaches (written by par_ev.py from EvA and EvB).
-/
import Derived.Test.YtibkckcpclkclaaMx2
import Derived.Test.YtibkckcpclkclaaMx3
import Derived.Test.YtibkckcpclkclaaGf
namespace Go.Proofs.Ytibkckcpclkclaa.EvA
open Go.RowKit Go.Proofs.Ytibkckcpclkclaa.M Go.Proofs.Ytibkckcpclkclaa.Gf
open Go.RowKit Go.Proofs.Ytibkckcpclkclaa.M Go.Proofs.Ytibkckcpclkclaa.Gf Go.Proofs.Ytibkckcpclkclaa.EvA Go.Proofs.YtibkckcpclkclaaW.PrintWords
theorem bx {a b : Nat} (ha : a < 256) (hb : b < 256) : Go.bits .xor .u8 (a : Int) (b : Int) = ((a ^^^ b : Nat) : Int) := by
  have h := xor_lt ha hb
  have e : (BitVec.ofNat 8 a ^^^ BitVec.ofNat 8 b).toNat = a ^^^ b := by
    rw [BitVec.toNat_xor, BitVec.toNat_ofNat, BitVec.toNat_ofNat, Nat.mod_eq_of_lt (show a < 2 ^ 8 from ha), Nat.mod_eq_of_lt (show b < 2 ^ 8 from hb)]
  simp only [Go.bits, IntKind.bits, BitVec.ofInt_natCast]
  rw [IntKind.wrap_u8]
  show (((BitVec.ofNat 8 a ^^^ BitVec.ofNat 8 b).toNat : Nat) : Int) % 256 = _
  rw [e]; omega
theorem bnd {a : Nat} (ha : a < 256) : Go.bits .and .u8 (a : Int) 1 = ((a % 2 : Nat) : Int) := by
  have h := (bits_nat .u8 8 (Nat.le_refl _) wraps_u8 a 1 ha (by decide)).1
  rw [Nat.and_one_is_mod] at h
  exact_mod_cast h
theorem w64 {n : Int} (h0 : -9223372036854775808 ≤ n) (h1 : n ≤ 9223372036854775807) : wrap64 n = n := by unfold wrap64; omega
theorem td (m n : Nat) : Int.tdiv (m : Int) (n : Int) = ((m / n : Nat) : Int) := (Int.ofNat_tdiv m n).symm
theorem tm (m n : Nat) : Int.tmod (m : Int) (n : Int) = ((m % n : Nat) : Int) := (Int.ofNat_tmod m n).symm
theorem td2 (m : Nat) : Int.tdiv (m : Int) 2 = ((m / 2 : Nat) : Int) := td m 2
theorem tm2 (m : Nat) : Int.tmod (m : Int) 2 = ((m % 2 : Nat) : Int) := tm m 2
theorem mulL_zero (n : Nat) : ∀ a o, mulL n a 0 o = o := by
  induction n with
  | zero => intro a o; rfl
  | succ n ih => intro a o; simp [mulL, ih]
theorem xt_int {a : Nat} (h : a < 256) : (if (a : Int) < 128 then ((a : Int) * 2) % 256 else Go.bits .xor .u8 (((a : Int) * 2) % 256) 29) = (xt a : Int) := by
  unfold xt
  by_cases c : a < 128
  · rw [if_pos (by omega), if_pos c]; omega
  · rw [if_neg (by omega), if_neg c]
    have e : ((a : Int) * 2) % 256 = ((a * 2 - 256 : Nat) : Int) := by omega
    rw [e]
    exact bx (a := a * 2 - 256) (b := 29) (by omega) (by decide)
theorem times_l (n : Nat) : ∀ (k a b o : Nat), a < 256 → o < 256 → b < 2 ^ n → b < 256 → n < k → parity_Times.l0 k (a : Int) (b : Int) (o : Int) = some (mulL n a b o : Int) := by
  induction n with
  | zero =>
    intro k a b o ha ho hb hb2 hk
    obtain ⟨k, rfl⟩ : ∃ m, k = m + 1 := ⟨k - 1, by omega⟩
    have : b = 0 := by omega
    subst this
    simp only [parity_Times.l0]; rw [if_neg (by omega)]; rfl
  | succ n ih =>
    intro k a b o ha ho hb hb2 hk
    obtain ⟨k, rfl⟩ : ∃ m, k = m + 1 := ⟨k - 1, by omega⟩
    by_cases h0 : b = 0
    · subst h0
      simp only [parity_Times.l0]; rw [if_neg (by omega), mulL_zero]
    · have hb' : b / 2 < 2 ^ n := by rw [Nat.pow_succ] at hb; omega
      have hx := xt_lt a ha
      have e2 : ((b : Int) / 2) = ((b / 2 : Nat) : Int) := by omega
      have ex := xt_int ha
      have go : ∀ o' : Nat, o' < 256 → (if (a : Int) < 128 then parity_Times.l0 k (((a : Int) * 2) % 256) ((b : Int) / 2) (o' : Int) else parity_Times.l0 k (Go.bits .xor .u8 (((a : Int) * 2) % 256) 29) ((b : Int) / 2) (o' : Int)) = some (mulL n (xt a) (b / 2) o' : Int) := by
        intro o' ho'
        rw [← ih k (xt a) (b / 2) o' hx ho' hb' (by omega) (by omega), ← ex, e2]
        split <;> rfl
      simp only [parity_Times.l0]; rw [if_pos (by omega), bnd hb2]
      simp only [mulL]
      by_cases c : b % 2 = 1
      · rw [if_pos (by rw [c]; rfl), if_pos c, bx ho ha]
        exact go _ (xor_lt ho ha)
      · rw [if_neg (by intro h; apply c; exact_mod_cast h), if_neg c]
        exact go _ ho
theorem times_f {a b k : Nat} (ha : a < 256) (hb : b < 256) (hk : 9 ≤ k) : parity_Times.f k (a : Int) (b : Int) = some (mul a b : Int) :=
  times_l 8 k a b 0 ha (by decide) hb hb (by omega)
theorem awake_f {k : Nat} (hk : 9 ≤ k) : incunablelaw45_awake.f k = some true := by
  unfold incunablelaw45_awake.f
  have h := times_f (a := 2) (b := 128) (k := k) (by decide) (by decide) hk
  have e : mul 2 128 = 29 := by decide
  rw [e] at h
  rw [show (2 : Int) = ((2 : Nat) : Int) from rfl, show (128 : Int) = ((128 : Nat) : Int) from rfl, h]
  rfl
theorem wn {n : Nat} (h : n ≤ 1000000000000) : wrap64 (n : Int) = (n : Int) := w64 (by omega) (by omega)
theorem ws {n : Nat} (h : n ≤ 9223372036854775806) : wrap64 ((n : Int) + 1) = ((n + 1 : Nat) : Int) := by rw [w64 (by omega) (by omega)]; omega
theorem wm2 {n : Nat} (h : n ≤ 1000000000000) : wrap64 ((n : Int) * 2) = ((n * 2 : Nat) : Int) := by rw [w64 (by omega) (by omega)]; omega
theorem wa {m n : Nat} (h : m ≤ 1000000000000) (h' : n ≤ 1000000000000) : wrap64 ((m : Int) + (n : Int)) = ((m + n : Nat) : Int) := by rw [w64 (by omega) (by omega)]; omega
theorem wmul {m n : Nat} (h : m * n ≤ 1000000000000) : wrap64 ((m : Int) * (n : Int)) = ((m * n : Nat) : Int) := by rw [← Int.natCast_mul]; exact wn h
/-! the reference's product -/
theorem power_l (r : Nat) : ∀ (k i n : Nat), i + r = n → n < 1000000 → r + 10 < k → parity_power.l0 k (pw i : Int) (n : Int) (i : Int) = some (pw n : Int) := by
  induction r with
  | zero =>
    intro k i n hi hn hk
    obtain ⟨k, rfl⟩ : ∃ m, k = m + 1 := ⟨k - 1, by omega⟩
    obtain rfl : i = n := by omega
    simp only [parity_power.l0]; rw [if_neg (by omega)]
  | succ r ih =>
    intro k i n hi hn hk
    obtain ⟨k, rfl⟩ : ∃ m, k = m + 1 := ⟨k - 1, by omega⟩
    have w2 : wrap64 ((i : Int) + 1) = ((i + 1 : Nat) : Int) := by rw [w64 (by omega) (by omega)]; omega
    have ht := times_f (a := pw i) (b := 2) (k := k) (pw_lt i) (by decide) (by omega)
    simp only [parity_power.l0]; rw [if_pos (by omega), show (2 : Int) = ((2 : Nat) : Int) from rfl, ht]
    simp only [Option.bind_some]; rw [w2]
    exact ih k (i + 1) n (by omega) hn (by omega)
theorem power_f {k n : Nat} (hn : n < 1000000) (hk : n + 11 ≤ k) : parity_power.f k (n : Int) = some (pw n : Int) := power_l n k 0 n (by omega) hn (by omega)
theorem inverse_l (r : Nat) : ∀ (k a o i : Nat), a < 256 → o < 256 → i + r = 7 → r + 10 < k → parity_Inverse.l0 k (a : Int) (o : Int) (i : Int) = some (invL r a o : Int) := by
  induction r with
  | zero =>
    intro k a o i ha ho hi hk
    obtain ⟨k, rfl⟩ : ∃ m, k = m + 1 := ⟨k - 1, by omega⟩
    simp only [parity_Inverse.l0]; rw [if_neg (by omega)]; rfl
  | succ r ih =>
    intro k a o i ha ho hi hk
    obtain ⟨k, rfl⟩ : ∃ m, k = m + 1 := ⟨k - 1, by omega⟩
    have w2 : wrap64 ((i : Int) + 1) = ((i + 1 : Nat) : Int) := by rw [w64 (by omega) (by omega)]; omega
    simp only [parity_Inverse.l0]; rw [if_pos (by omega), times_f ha ha (by omega)]
    simp only [Option.bind_some]; rw [times_f ho (mul_lt ha) (by omega)]
    simp only [Option.bind_some]; rw [w2]
    exact ih k (mul a a) (mul o (mul a a)) (i + 1) (mul_lt ha) (mul_lt ho) (by omega) (by omega)
theorem inverse_f {a k : Nat} (ha : a < 256) (hk : 18 ≤ k) : parity_Inverse.f k (a : Int) = some (inv a : Int) := inverse_l 7 k a 1 0 ha (by decide) (by decide) (by omega)
/-- a list of n numbers by a function -/
def tab (n : Nat) (f : Nat → Nat) : List Int := (List.range n).map fun i => (f i : Int)
theorem tab_length (n : Nat) (f : Nat → Nat) : (tab n f).length = n := by simp [tab]
theorem rd_tab {n i : Nat} {f : Nat → Nat} (h : i < n) : rd (tab n f) (i : Int) = (f i : Int) := by
  simp [rd, tab, h]
theorem tab_set {n i : Nat} {f : Nat → Nat} {v : Nat} : (tab n f).set i (v : Int) = tab n (fun j => if j = i then v else f j) := by
  apply List.ext_getElem
  · simp [tab]
  · intro j h1 h2
    simp only [tab, List.getElem_set, List.getElem_map, List.getElem_range]
    by_cases e : i = j
    · subst e; simp
    · rw [if_neg e, if_neg (fun h => e h.symm)]
theorem tab_congr {n : Nat} {f g : Nat → Nat} (h : ∀ i, i < n → f i = g i) : tab n f = tab n g := by
  unfold tab
  apply List.map_congr_left
  intro i hi
  rw [h i (List.mem_range.mp hi)]
theorem tab_succ (n : Nat) (f : Nat → Nat) : tab (n + 1) f = tab n f ++ [(f n : Int)] := by simp [tab, List.range_succ]
theorem tab_zero (f : Nat → Nat) : tab 0 f = [] := rfl
theorem replicate_tab (n : Nat) : List.replicate n (0 : Int) = tab n (fun _ => 0) := by
  apply List.ext_getElem
  · simp [tab]
  · intro j h1 h2; simp [tab]
theorem bytes_tab {l : List Int} (h : ∀ x ∈ l, 0 ≤ x ∧ x ≤ 255) : l = tab l.length (fun i => (l.getD i 0).toNat) ∧ ∀ i, (l.getD i 0).toNat < 256 := by
  constructor
  · apply List.ext_getElem
    · simp [tab]
    · intro j h1 h2
      have := h l[j] (List.getElem_mem h1)
      simp only [tab, List.getElem_map, List.getElem_range, List.getD_eq_getElem?_getD, List.getElem?_eq_getElem h1, Option.getD_some]
      omega
  · intro i
    by_cases hi : i < l.length
    · have := h l[i] (List.getElem_mem hi)
      simp only [List.getD_eq_getElem?_getD, List.getElem?_eq_getElem hi, Option.getD_some]; omega
    · have e : l.getD i 0 = 0 := by simp [List.getD_eq_getElem?_getD, List.getElem?_eq_none (show l.length ≤ i by omega)]
      rw [e]; decide
/-! bytes put to bytes -/
theorem add_l (r : Nat) : ∀ (k n m t by_ : Nat) (f p : Nat → Nat), t + r = m → m ≤ n → n ≤ 1000000 → by_ < 256 → (∀ i, f i < 256) → (∀ i, p i < 256) → r + 10 < k →
    parity_add.l0 k (tab n (fun i => if i < t then f i ^^^ mul (p i) by_ else f i)) (by_ : Int) (tab m p) (m : Int) (t : Int) = some (tab n (fun i => if i < m then f i ^^^ mul (p i) by_ else f i)) := by
  induction r with
  | zero =>
    intro k n m t by_ f p ht hm hn hb hf hp hk
    obtain ⟨k, rfl⟩ : ∃ q, k = q + 1 := ⟨k - 1, by omega⟩
    obtain rfl : t = m := by omega
    simp only [parity_add.l0]; rw [if_neg (by omega)]
  | succ r ih =>
    intro k n m t by_ f p ht hm hn hb hf hp hk
    obtain ⟨k, rfl⟩ : ∃ q, k = q + 1 := ⟨k - 1, by omega⟩
    have hlt : t < m := by omega
    have hmul := mul_lt (a := p t) (b := by_) (hp t)
    simp only [parity_add.l0]
    rw [if_pos (by omega), if_pos (by omega), tab_length, tab_length, if_pos (by omega), if_pos (by omega), rd_tab hlt, times_f (hp t) hb (by omega)]
    simp only [Option.bind_some]
    rw [rd_tab (show t < n by omega), if_neg (Nat.lt_irrefl t), bx (hf t) hmul, Int.toNat_natCast, tab_set, ws (by omega)]
    have h := ih k n m (t + 1) by_ f p (by omega) hm hn hb hf hp (by omega)
    rw [← h]
    congr 1
    apply tab_congr
    intro i _
    by_cases e : i = t
    · subst e; rw [if_pos rfl, if_pos (by omega)]
    · rw [if_neg e]
      by_cases c : i < t
      · rw [if_pos c, if_pos (by omega)]
      · rw [if_neg c, if_neg (by omega)]
theorem add_f {k n m by_ : Nat} {f p : Nat → Nat} (hm : m ≤ n) (hn : n ≤ 1000000) (hb : by_ < 256) (hf : ∀ i, f i < 256) (hp : ∀ i, p i < 256) (hk : m + 11 ≤ k) :
    parity_add.f k (tab n f) (tab m p) (by_ : Int) = some (tab n (fun i => if i < m then f i ^^^ mul (p i) by_ else f i)) := by
  have h := add_l m k n m 0 by_ f p (by omega) hm hn hb hf hp (by omega)
  unfold parity_add.f
  rw [tab_length, ← h]
  congr 1
theorem add_f1 {k n m : Nat} {f p : Nat → Nat} (hm : m ≤ n) (hn : n ≤ 1000000) (hf : ∀ i, f i < 256) (hp : ∀ i, p i < 256) (hk : m + 11 ≤ k) :
    parity_add.f k (tab n f) (tab m p) 1 = some (tab n (fun i => if i < m then f i ^^^ p i else f i)) := by
  have h := add_f (by_ := 1) hm hn (by decide) hf hp hk
  rw [show (1 : Int) = ((1 : Nat) : Int) from rfl, h]
  congr 1
  apply tab_congr
  intro i _
  rw [mul_one (p i) (hp i)]
/-! rows of bytes -/
def rows (m : Nat) (L : Nat → Nat) (P : Nat → Nat → Nat) : List (List Int) := (List.range m).map fun j => tab (L j) (P j)
theorem rows_length (m : Nat) (L : Nat → Nat) (P : Nat → Nat → Nat) : (rows m L P).length = m := by simp [rows]
theorem rd_rows {m j : Nat} {L : Nat → Nat} {P : Nat → Nat → Nat} (h : j < m) : rd_L1 (rows m L P) (j : Int) = tab (L j) (P j) := by
  simp [rd_L1, rows, h]
theorem rd_rows0 {m : Nat} {L : Nat → Nat} {P : Nat → Nat → Nat} (h : 0 < m) : rd_L1 (rows m L P) 0 = tab (L 0) (P 0) := rd_rows (j := 0) h
theorem rows_of {l : List (List Int)} (h : ∀ p ∈ l, ∀ x ∈ p, 0 ≤ x ∧ x ≤ 255) :
    l = rows l.length (fun j => (l.getD j []).length) (fun j i => ((l.getD j []).getD i 0).toNat) ∧ ∀ j i, ((l.getD j []).getD i 0).toNat < 256 := by
  have hh : ∀ j, ∀ x ∈ l.getD j [], 0 ≤ x ∧ x ≤ 255 := by
    intro j
    by_cases hj : j < l.length
    · have e : l.getD j [] = l[j] := by simp [List.getD_eq_getElem?_getD, List.getElem?_eq_getElem hj]
      rw [e]; exact h _ (List.getElem_mem hj)
    · have e : l.getD j [] = [] := by simp [List.getD_eq_getElem?_getD, List.getElem?_eq_none (show l.length ≤ j by omega)]
      rw [e]; intro x hx; exact absurd hx (by simp)
  refine ⟨?_, fun j i => (bytes_tab (hh j)).2 i⟩
  apply List.ext_getElem
  · simp [rows]
  · intro j h1 h2
    have e : l.getD j [] = l[j] := by simp [List.getD_eq_getElem?_getD, List.getElem?_eq_getElem h1]
    simp only [rows, List.getElem_map, List.getElem_range]
    have hb := (bytes_tab (hh j)).1
    rw [e] at hb ⊢
    exact hb
section
variable {m : Nat} {L : Nat → Nat} {P : Nat → Nat → Nat}
theorem few_l (r : Nat) : ∀ (k t : Nat), t + r = m → m ≤ 9223372036854775807 → (∀ j, j < t → L j ≤ 60) → r < k →
    ∃ b, incunablelaw45_few.l0 k (rows m L P) (rows m L P) (m : Int) (t : Int) = some b ∧ (b = true → (∀ j, j < m → L j ≤ 60) ∧ m ≤ 70) := by
  induction r with
  | zero =>
    intro k t ht hm hall hk
    obtain ⟨k, rfl⟩ : ∃ q, k = q + 1 := ⟨k - 1, by omega⟩
    obtain rfl : t = m := by omega
    refine ⟨decide (((rows t L P).length : Int) ≤ 70), ?_, fun h => ⟨hall, ?_⟩⟩
    · simp only [incunablelaw45_few.l0]; rw [if_neg (by omega)]
    · have := of_decide_eq_true h; rw [rows_length] at this; omega
  | succ r ih =>
    intro k t ht hm hall hk
    obtain ⟨k, rfl⟩ : ∃ q, k = q + 1 := ⟨k - 1, by omega⟩
    have hlt : t < m := by omega
    simp only [incunablelaw45_few.l0]
    rw [if_pos (by omega), if_pos (by omega), rows_length, if_pos (by omega), rd_rows hlt, tab_length, ws (by omega)]
    by_cases c : L t ≤ 60
    · rw [if_neg (by omega)]
      refine ih k (t + 1) (by omega) hm (fun j hj => ?_) (by omega)
      rcases Nat.lt_succ_iff_lt_or_eq.mp hj with h | h
      · exact hall j h
      · rw [h]; exact c
    · rw [if_pos (by omega)]
      exact ⟨false, rfl, fun h => by cases h⟩
theorem few_f {k : Nat} (hm : m ≤ 9223372036854775807) (hk : m + 1 ≤ k) : ∃ b, incunablelaw45_few.f k (rows m L P) = some b ∧ (b = true → (∀ j, j < m → L j ≤ 60) ∧ m ≤ 70) := by
  unfold incunablelaw45_few.f
  rw [rows_length]
  exact few_l m k 0 (by omega) hm (fun j hj => by omega) (by omega)
/-! the length that all have -/
def szN (L : Nat → Nat) : Nat → Nat → Nat → Nat
  | 0, _, n => n
  | r + 1, t, n => if L t = 0 then szN L r (t + 1) n else if n > 0 ∧ L t ≠ n then 0 else if L t > 16384 then 0 else szN L r (t + 1) (L t)
theorem size_l (r : Nat) : ∀ (k t n : Nat), t + r = m → m ≤ 1000000 → r < k → parity_size.l0 k (n : Int) (rows m L P) (m : Int) (t : Int) = some (szN L r t n : Int) := by
  induction r with
  | zero =>
    intro k t n ht hm hk
    obtain ⟨k, rfl⟩ : ∃ q, k = q + 1 := ⟨k - 1, by omega⟩
    obtain rfl : t = m := by omega
    simp only [parity_size.l0]; rw [if_neg (by omega)]; rfl
  | succ r ih =>
    intro k t n ht hm hk
    obtain ⟨k, rfl⟩ : ∃ q, k = q + 1 := ⟨k - 1, by omega⟩
    have hlt : t < m := by omega
    simp only [parity_size.l0]
    rw [if_pos (by omega), if_pos (by omega), rows_length, if_pos (by omega), rd_rows hlt, tab_length, ws (by omega)]
    simp only [szN]
    by_cases c0 : L t = 0
    · rw [if_pos (by omega), if_pos c0]; exact ih k (t + 1) n (by omega) hm (by omega)
    · rw [if_neg (by omega), if_neg c0]
      by_cases c1 : n > 0
      · rw [if_pos (by omega)]
        by_cases c2 : L t = n
        · rw [if_pos (by omega), if_neg (show ¬ (n > 0 ∧ L t ≠ n) from fun h => h.2 c2)]
          by_cases c3 : L t > 16384
          · rw [if_pos (by omega), if_pos c3]; rfl
          · rw [if_neg (by omega), if_neg c3]; exact ih k (t + 1) (L t) (by omega) hm (by omega)
        · rw [if_neg (by omega), if_pos (show n > 0 ∧ L t ≠ n from ⟨c1, c2⟩)]; rfl
      · rw [if_neg (show ¬ ((n : Int) > 0) from by omega), if_neg (show ¬ (n > 0 ∧ L t ≠ n) from fun h => c1 h.1)]
        by_cases c3 : L t > 16384
        · rw [if_pos (by omega), if_pos c3]; rfl
        · rw [if_neg (by omega), if_neg c3]; exact ih k (t + 1) (L t) (by omega) hm (by omega)
theorem size_f {k : Nat} (hm : m ≤ 1000000) (hk : m + 1 ≤ k) : parity_size.f k (rows m L P) = some (szN L m 0 0 : Int) := by
  unfold parity_size.f
  rw [rows_length]
  exact size_l m k 0 0 (by omega) hm (by omega)
theorem szN_some (r : Nat) : ∀ (t n s : Nat), szN L r t n = s → s ≠ 0 → (n = 0 ∨ n = s) ∧ ∀ j, t ≤ j → j < t + r → L j = 0 ∨ (L j = s ∧ s ≤ 16384) := by
  induction r with
  | zero => intro t n s h hs; exact ⟨.inr h, fun j h1 h2 => by omega⟩
  | succ r ih =>
    intro t n s h hs
    simp only [szN] at h
    by_cases c0 : L t = 0
    · rw [if_pos c0] at h
      obtain ⟨h1, h2⟩ := ih (t + 1) n s h hs
      refine ⟨h1, fun j hj1 hj2 => ?_⟩
      rcases Nat.eq_or_lt_of_le hj1 with e | e
      · subst e; exact .inl c0
      · exact h2 j e (by omega)
    · rw [if_neg c0] at h
      by_cases c1 : n > 0 ∧ L t ≠ n
      · rw [if_pos c1] at h; exact absurd h.symm hs
      · rw [if_neg c1] at h
        by_cases c2 : L t > 16384
        · rw [if_pos c2] at h; exact absurd h.symm hs
        · rw [if_neg c2] at h
          obtain ⟨h1, h2⟩ := ih (t + 1) (L t) s h hs
          have e : L t = s := by rcases h1 with h1 | h1 <;> omega
          refine ⟨?_, fun j hj1 hj2 => ?_⟩
          · rcases Nat.eq_zero_or_pos n with e0 | e0
            · exact .inl e0
            · right
              have : L t = n := Classical.byContradiction fun hne => c1 ⟨e0, hne⟩
              omega
          · rcases Nat.eq_or_lt_of_le hj1 with e' | e'
            · subst e'; exact .inr ⟨e, by omega⟩
            · exact h2 j e' (by omega)
theorem szN_same (r : Nat) : ∀ (t n s : Nat), (n = 0 ∨ n = s) → s ≠ 0 → s ≤ 16384 → (∀ j, t ≤ j → j < t + r → L j = 0 ∨ L j = s) → (n = s ∨ ∃ j, t ≤ j ∧ j < t + r ∧ L j = s) → szN L r t n = s := by
  induction r with
  | zero =>
    intro t n s hn hs hs2 hall hex
    rcases hex with h | ⟨j, h1, h2, _⟩
    · exact h
    · omega
  | succ r ih =>
    intro t n s hn hs hs2 hall hex
    simp only [szN]
    have ht := hall t (Nat.le_refl _) (by omega)
    by_cases c0 : L t = 0
    · rw [if_pos c0]
      refine ih (t + 1) n s hn hs hs2 (fun j h1 h2 => hall j (by omega) (by omega)) ?_
      rcases hex with h | ⟨j, h1, h2, h3⟩
      · exact .inl h
      · right
        refine ⟨j, ?_, by omega, h3⟩
        rcases Nat.eq_or_lt_of_le h1 with e | e
        · subst e; omega
        · exact e
    · have e : L t = s := by rcases ht with h | h; · omega
                             · exact h
      rw [if_neg c0, if_neg (by intro h; rcases hn with hn | hn <;> omega), if_neg (by omega)]
      exact ih (t + 1) (L t) s (.inr e) hs hs2 (fun j h1 h2 => hall j (by omega) (by omega)) (.inl e)
/-! both parities -/
def s1 (L : Nat → Nat) (P : Nat → Nat → Nat) (i : Nat) : Nat → Nat
  | 0 => 0
  | j + 1 => if i < L j then s1 L P i j ^^^ P j i else s1 L P i j
def s2 (L : Nat → Nat) (P : Nat → Nat → Nat) (i : Nat) : Nat → Nat
  | 0 => 0
  | j + 1 => if i < L j then s2 L P i j ^^^ mul (P j i) (pw j) else s2 L P i j
theorem s1_lt (hP : ∀ j i, P j i < 256) (i : Nat) : ∀ j, s1 L P i j < 256
  | 0 => by simp [s1]
  | j + 1 => by
    simp only [s1]; split
    · exact xor_lt (s1_lt hP i j) (hP j i)
    · exact s1_lt hP i j
theorem s2_lt (hP : ∀ j i, P j i < 256) (i : Nat) : ∀ j, s2 L P i j < 256
  | 0 => by simp [s2]
  | j + 1 => by
    simp only [s2]; split
    · exact xor_lt (s2_lt hP i j) (mul_lt (hP j i))
    · exact s2_lt hP i j
theorem sums_l (n : Nat) (hn : n ≤ 100000) (hP : ∀ j i, P j i < 256) (hL : ∀ j, j < m → L j ≤ n) (hm : m ≤ 100000) (r : Nat) : ∀ (k t : Nat), t + r = m → n + m + r + 30 < k →
    parity_sums.l0 k (tab n (fun i => s1 L P i t)) (tab n (fun i => s2 L P i t)) (rows m L P) (m : Int) (t : Int) = some (tab n (fun i => s1 L P i m), tab n (fun i => s2 L P i m)) := by
  induction r with
  | zero =>
    intro k t ht hk
    obtain ⟨k, rfl⟩ : ∃ q, k = q + 1 := ⟨k - 1, by omega⟩
    obtain rfl : t = m := by omega
    simp only [parity_sums.l0]; rw [if_neg (by omega)]
  | succ r ih =>
    intro k t ht hk
    obtain ⟨k, rfl⟩ : ∃ q, k = q + 1 := ⟨k - 1, by omega⟩
    have hlt : t < m := by omega
    have hLt := hL t hlt
    simp only [parity_sums.l0]
    rw [if_pos (by omega), if_pos (by omega), rows_length, if_pos (by omega), rd_rows hlt, ws (by omega), add_f1 hLt (by omega) (fun i => s1_lt hP i t) (fun i => hP t i) (by omega)]
    simp only [Option.bind_some]
    rw [power_f (by omega) (by omega)]
    simp only [Option.bind_some]
    rw [add_f hLt (by omega) (pw_lt t) (fun i => s2_lt hP i t) (fun i => hP t i) (by omega)]
    simp only [Option.bind_some]
    exact ih k (t + 1) (by omega) (by omega)
theorem sums_f {n k : Nat} (hn : n ≤ 100000) (hP : ∀ j i, P j i < 256) (hL : ∀ j, j < m → L j ≤ n) (hm : m ≤ 100000) (hk : n + m + m + 31 ≤ k) :
    parity_sums.f k (rows m L P) (n : Int) = some (tab n (fun i => s1 L P i m), tab n (fun i => s2 L P i m)) := by
  unfold parity_sums.f
  rw [if_pos (by omega), Int.toNat_natCast, if_pos (by omega), rows_length, replicate_tab]
  exact sums_l n hn hP hL hm m k 0 (by omega) (by omega)
/-- parts are a group's -/
def Group (m : Nat) (L : Nat → Nat) : Prop := 1 ≤ m ∧ m ≤ 64 ∧ ∀ j, j < m → 1 ≤ L j ∧ L j ≤ 16384 ∧ L j = L 0
theorem make_l (n : Nat) (hn : n ≤ 100000) (hP : ∀ j i, P j i < 256) (hL : ∀ j, j < m → 1 ≤ L j ∧ L j ≤ n) (hm : m ≤ 100000) (r : Nat) : ∀ (k t : Nat), t + r = m → n + m + m + r + 40 < k →
    parity_Make.l0 k (rows m L P) (n : Int) (rows m L P) (m : Int) (t : Int) = some (tab n (fun i => s1 L P i m), tab n (fun i => s2 L P i m), 0) := by
  induction r with
  | zero =>
    intro k t ht hk
    obtain ⟨k, rfl⟩ : ∃ q, k = q + 1 := ⟨k - 1, by omega⟩
    simp only [parity_Make.l0]; rw [if_neg (by omega), sums_f hn hP (fun j hj => (hL j hj).2) hm (by omega)]; rfl
  | succ r ih =>
    intro k t ht hk
    obtain ⟨k, rfl⟩ : ∃ q, k = q + 1 := ⟨k - 1, by omega⟩
    have hlt : t < m := by omega
    have := hL t hlt
    simp only [parity_Make.l0]
    rw [if_pos (by omega), if_pos (by omega), rows_length, if_pos (by omega), rd_rows hlt, tab_length, if_neg (by omega), ws (by omega)]
    exact ih k (t + 1) (by omega) (by omega)
theorem make_bad_l (n : Int) (hm : m ≤ 100000) (r : Nat) : ∀ (k t : Nat), t + r = m → (∃ j, t ≤ j ∧ j < m ∧ L j = 0) → r < k →
    parity_Make.l0 k (rows m L P) n (rows m L P) (m : Int) (t : Int) = some ([], [], 2) := by
  induction r with
  | zero =>
    intro k t ht hex hk
    obtain ⟨j, h1, h2, _⟩ := hex
    omega
  | succ r ih =>
    intro k t ht hex hk
    obtain ⟨k, rfl⟩ : ∃ q, k = q + 1 := ⟨k - 1, by omega⟩
    have hlt : t < m := by omega
    simp only [parity_Make.l0]
    rw [if_pos (by omega), if_pos (by omega), rows_length, if_pos (by omega), rd_rows hlt, tab_length, ws (by omega)]
    by_cases c : L t = 0
    · rw [if_pos (by omega)]
    · rw [if_neg (by omega)]
      refine ih k (t + 1) (by omega) ?_ (by omega)
      obtain ⟨j, h1, h2, h3⟩ := hex
      refine ⟨j, ?_, h2, h3⟩
      rcases Nat.eq_or_lt_of_le h1 with e | e
      · subst e; exact absurd h3 c
      · exact e
theorem make_yes {k : Nat} (hP : ∀ j i, P j i < 256) (g : Group m L) (hk : L 0 + 300 ≤ k) : parity_Make.f k (rows m L P) = some (tab (L 0) (fun i => s1 L P i m), tab (L 0) (fun i => s2 L P i m), 0) := by
  obtain ⟨g1, g2, g3⟩ := g
  have h0 := g3 0 (by omega)
  have hs : szN L m 0 0 = L 0 := szN_same m 0 0 (L 0) (.inl rfl) (by omega) (by omega) (fun j _ hj => .inr (g3 j (by omega)).2.2) (.inr ⟨0, by omega, by omega, rfl⟩)
  obtain ⟨k, rfl⟩ : ∃ q, k = q + 1 := ⟨k - 1, by omega⟩
  unfold parity_Make.f
  rw [size_f (by omega) (by omega), hs]
  simp only [Option.bind_some]
  rw [rows_length, if_neg (by omega), if_neg (by omega)]
  have e : (((L 0 : Nat) : Int) == 0) = false := by simp; omega
  rw [e]
  simp only [parity_Make.j0, Bool.false_eq_true, if_false]
  rw [rows_length]
  exact make_l (L 0) (by omega) hP (fun j hj => by have := g3 j hj; omega) (by omega) m k 0 (by omega) (by omega)
theorem make_no {k : Nat} (hm : m ≤ 100000) (g : ¬ Group m L) (hk : m + 2 ≤ k) : parity_Make.f k (rows m L P) = some ([], [], 2) := by
  obtain ⟨k, rfl⟩ : ∃ q, k = q + 1 := ⟨k - 1, by omega⟩
  unfold parity_Make.f
  rw [size_f (by omega) (by omega)]
  simp only [Option.bind_some]
  rw [rows_length]
  by_cases c0 : m = 0
  · rw [if_pos (by omega)]; simp [parity_Make.j0]
  · rw [if_neg (by omega)]
    by_cases c1 : m > 64
    · rw [if_pos (by omega)]; simp [parity_Make.j0]
    · rw [if_neg (by omega)]
      by_cases c2 : szN L m 0 0 = 0
      · rw [c2]; simp [parity_Make.j0]
      · have e : (((szN L m 0 0 : Nat) : Int) == 0) = false := by simp; omega
        rw [e]
        simp only [parity_Make.j0, Bool.false_eq_true, if_false]
        rw [rows_length]
        refine make_bad_l _ (by omega) m k 0 (by omega) ?_ (by omega)
        obtain ⟨_, h2⟩ := szN_some m 0 0 _ rfl c2
        refine Classical.byContradiction fun hne => g ⟨by omega, by omega, fun j hj => ?_⟩
        have hz : ∀ j, j < m → L j ≠ 0 := fun j hj h => hne ⟨j, by omega, hj, h⟩
        have a := h2 j (by omega) (by omega)
        have b := h2 0 (by omega) (by omega)
        have ha := hz j hj
        have hb := hz 0 (by omega)
        omega
/-! the document's parities -/
theorem same_l (l : List Int) (hl : l.length ≤ 1000000) (r : Nat) : ∀ (k t : Nat), t + r = l.length → r < k → incunableref01_Same.l0 k l l (t : Int) = some true := by
  induction r with
  | zero =>
    intro k t ht hk
    obtain ⟨k, rfl⟩ : ∃ q, k = q + 1 := ⟨k - 1, by omega⟩
    simp only [incunableref01_Same.l0]; rw [if_neg (by omega)]
  | succ r ih =>
    intro k t ht hk
    obtain ⟨k, rfl⟩ : ∃ q, k = q + 1 := ⟨k - 1, by omega⟩
    simp only [incunableref01_Same.l0]
    rw [if_pos (by omega), if_pos (by omega), if_pos (by omega), if_true, ws (by omega)]
    exact ih k (t + 1) (by omega) (by omega)
theorem same_f {k : Nat} {l : List Int} (hl : l.length ≤ 1000000) (hk : l.length + 1 ≤ k) : incunableref01_Same.f k l l = some true := by
  unfold incunableref01_Same.f
  rw [if_pos rfl]
  exact same_l l hl l.length k 0 (by omega) (by omega)
end
end Go.Proofs.Ytibkckcpclkclaa.EvA
