/-
  What the printed functions of one number answer, in the words of the field of 256.
-/
import Derived.Test.YtibkckcpclkclaaMx1
import Derived.Test.YtibkckcpclkclaaMx2
import Derived.Test.YtibkckcpclkclaaGf
namespace Go.Proofs.Ytibkckcpclkclaa.EvA
open Go.RowKit Go.Proofs.Ytibkckcpclkclaa.M Go.Proofs.Ytibkckcpclkclaa.Gf
theorem bx {a b : Nat} (ha : a < 256) (hb : b < 256) : Go.bits .xor .u8 (a : Int) (b : Int) = ((a ^^^ b : Nat) : Int) := by
  have h := xor_lt ha hb
  have e : (BitVec.ofNat 8 a ^^^ BitVec.ofNat 8 b).toNat = a ^^^ b := by
    rw [BitVec.toNat_xor, BitVec.toNat_ofNat, BitVec.toNat_ofNat, Nat.mod_eq_of_lt (show a < 2 ^ 8 from ha), Nat.mod_eq_of_lt (show b < 2 ^ 8 from hb)]
  simp only [Go.bits, IntKind.bits, BitVec.ofInt_natCast]
  rw [IntKind.wrap_u8]
  show (((BitVec.ofNat 8 a ^^^ BitVec.ofNat 8 b).toNat : Nat) : Int) % 256 = _
  rw [e]; omega
theorem bnd {a : Nat} (ha : a < 256) : Go.bits .and .u8 (a : Int) 1 = ((a % 2 : Nat) : Int) := by
  have h := (bits_nat .u8 8 (Nat.le_refl _) wraps_u8 a 1 ha (by decide)).1
  rw [Nat.and_one_is_mod] at h
  exact_mod_cast h
theorem w64 {n : Int} (h0 : -9223372036854775808 ≤ n) (h1 : n ≤ 9223372036854775807) : wrap64 n = n := by unfold wrap64; omega
theorem td (m n : Nat) : Int.tdiv (m : Int) (n : Int) = ((m / n : Nat) : Int) := (Int.ofNat_tdiv m n).symm
theorem tm (m n : Nat) : Int.tmod (m : Int) (n : Int) = ((m % n : Nat) : Int) := (Int.ofNat_tmod m n).symm
theorem td2 (m : Nat) : Int.tdiv (m : Int) 2 = ((m / 2 : Nat) : Int) := td m 2
theorem tm2 (m : Nat) : Int.tmod (m : Int) 2 = ((m % 2 : Nat) : Int) := tm m 2
theorem mulL_zero (n : Nat) : ∀ a o, mulL n a 0 o = o := by
  induction n with
  | zero => intro a o; rfl
  | succ n ih => intro a o; simp [mulL, ih]
theorem xt_int {a : Nat} (h : a < 256) : (if (a : Int) < 128 then ((a : Int) * 2) % 256 else Go.bits .xor .u8 (((a : Int) * 2) % 256) 29) = (xt a : Int) := by
  unfold xt
  by_cases c : a < 128
  · rw [if_pos (by omega), if_pos c]; omega
  · rw [if_neg (by omega), if_neg c]
    have e : ((a : Int) * 2) % 256 = ((a * 2 - 256 : Nat) : Int) := by omega
    rw [e]
    exact bx (a := a * 2 - 256) (b := 29) (by omega) (by decide)
theorem times_l (n : Nat) : ∀ (k a b o : Nat), a < 256 → o < 256 → b < 2 ^ n → b < 256 → n < k → parity_Times.l0 k (a : Int) (b : Int) (o : Int) = some (mulL n a b o : Int) := by
  induction n with
  | zero =>
    intro k a b o ha ho hb hb2 hk
    obtain ⟨k, rfl⟩ : ∃ m, k = m + 1 := ⟨k - 1, by omega⟩
    have : b = 0 := by omega
    subst this
    simp only [parity_Times.l0]; rw [if_neg (by omega)]; rfl
  | succ n ih =>
    intro k a b o ha ho hb hb2 hk
    obtain ⟨k, rfl⟩ : ∃ m, k = m + 1 := ⟨k - 1, by omega⟩
    by_cases h0 : b = 0
    · subst h0
      simp only [parity_Times.l0]; rw [if_neg (by omega), mulL_zero]
    · have hb' : b / 2 < 2 ^ n := by rw [Nat.pow_succ] at hb; omega
      have hx := xt_lt a ha
      have e2 : ((b : Int) / 2) = ((b / 2 : Nat) : Int) := by omega
      have ex := xt_int ha
      have go : ∀ o' : Nat, o' < 256 → (if (a : Int) < 128 then parity_Times.l0 k (((a : Int) * 2) % 256) ((b : Int) / 2) (o' : Int) else parity_Times.l0 k (Go.bits .xor .u8 (((a : Int) * 2) % 256) 29) ((b : Int) / 2) (o' : Int)) = some (mulL n (xt a) (b / 2) o' : Int) := by
        intro o' ho'
        rw [← ih k (xt a) (b / 2) o' hx ho' hb' (by omega) (by omega), ← ex, e2]
        split <;> rfl
      simp only [parity_Times.l0]; rw [if_pos (by omega), bnd hb2]
      simp only [mulL]
      by_cases c : b % 2 = 1
      · rw [if_pos (by rw [c]; rfl), if_pos c, bx ho ha]
        exact go _ (xor_lt ho ha)
      · rw [if_neg (by intro h; apply c; exact_mod_cast h), if_neg c]
        exact go _ ho
theorem times_f {a b k : Nat} (ha : a < 256) (hb : b < 256) (hk : 9 ≤ k) : parity_Times.f k (a : Int) (b : Int) = some (mul a b : Int) :=
  times_l 8 k a b 0 ha (by decide) hb hb (by omega)
theorem awake_f {k : Nat} (hk : 9 ≤ k) : incunablelaw45_awake.f k = some true := by
  unfold incunablelaw45_awake.f
  have h := times_f (a := 2) (b := 128) (k := k) (by decide) (by decide) hk
  have e : mul 2 128 = 29 := by decide
  rw [e] at h
  rw [show (2 : Int) = ((2 : Nat) : Int) from rfl, show (128 : Int) = ((128 : Nat) : Int) from rfl, h]
  rfl
theorem wn {n : Nat} (h : n ≤ 1000000000000) : wrap64 (n : Int) = (n : Int) := w64 (by omega) (by omega)
theorem ws {n : Nat} (h : n ≤ 9223372036854775806) : wrap64 ((n : Int) + 1) = ((n + 1 : Nat) : Int) := by rw [w64 (by omega) (by omega)]; omega
theorem wm2 {n : Nat} (h : n ≤ 1000000000000) : wrap64 ((n : Int) * 2) = ((n * 2 : Nat) : Int) := by rw [w64 (by omega) (by omega)]; omega
theorem wa {m n : Nat} (h : m ≤ 1000000000000) (h' : n ≤ 1000000000000) : wrap64 ((m : Int) + (n : Int)) = ((m + n : Nat) : Int) := by rw [w64 (by omega) (by omega)]; omega
theorem wmul {m n : Nat} (h : m * n ≤ 1000000000000) : wrap64 ((m : Int) * (n : Int)) = ((m * n : Nat) : Int) := by rw [← Int.natCast_mul]; exact wn h
theorem xor_r (k : Nat) (A B X P i : Nat) (hA : A ≤ 65536) (hB : B ≤ 65536) (hX : X ≤ 65536) (hP : P ≤ 65536) (hi : i < 16) :
    incunableref45_xor.l0 (k + 1) (A : Int) (B : Int) (X : Int) (P : Int) (i : Int) = incunableref45_xor.l0 k ((A / 2 : Nat) : Int) ((B / 2 : Nat) : Int) ((X + (if A % 2 = B % 2 then 0 else P) : Nat) : Int) ((P * 2 : Nat) : Int) ((i + 1 : Nat) : Int) := by
  simp only [incunableref45_xor.l0]
  rw [if_pos (by omega), tm2, tm2, td2, td2, wn (n := A / 2) (by omega), wn (n := B / 2) (by omega), wm2 (by omega), ws (by omega), wa (by omega) (by omega)]
  by_cases c : A % 2 = B % 2
  · rw [if_pos (by rw [c]), if_pos c]; rfl
  · rw [if_neg (by intro h; apply c; exact_mod_cast h), if_neg c]
theorem xor_e (k : Nat) (A B X P : Int) : incunableref45_xor.l0 (k + 1) A B X P 16 = some X := by
  simp only [incunableref45_xor.l0]; rw [if_neg (by decide)]
theorem xor_l (r : Nat) : ∀ (k a b i : Nat), a < 65536 → b < 65536 → i + r = 16 → r < k →
    incunableref45_xor.l0 k ((a / 2 ^ i : Nat) : Int) ((b / 2 ^ i : Nat) : Int) (((a ^^^ b) % 2 ^ i : Nat) : Int) ((2 ^ i : Nat) : Int) (i : Int) = some ((a ^^^ b : Nat) : Int) := by
  induction r with
  | zero =>
    intro k a b i ha hb hi hk
    obtain ⟨k, rfl⟩ : ∃ m, k = m + 1 := ⟨k - 1, by omega⟩
    obtain rfl : i = 16 := by omega
    have h : a ^^^ b < 2 ^ 16 := Nat.xor_lt_two_pow (n := 16) ha hb
    rw [Nat.mod_eq_of_lt h]
    exact xor_e k _ _ _ _
  | succ r ih =>
    intro k a b i ha hb hi hk
    obtain ⟨k, rfl⟩ : ∃ m, k = m + 1 := ⟨k - 1, by omega⟩
    have hi16 : i < 16 := by omega
    have h := ih k a b (i + 1) ha hb (by omega) (by omega)
    clear ih
    have hp : (2 : Nat) ^ i ≤ 65536 := Nat.le_trans (Nat.pow_le_pow_right (by decide) (show i ≤ 16 from by omega)) (by decide)
    have hp0 : 0 < (2 : Nat) ^ i := Nat.two_pow_pos i
    have hlow : (a ^^^ b) % 2 ^ i ≤ 65536 := Nat.le_trans (Nat.le_of_lt (Nat.mod_lt _ hp0)) hp
    have la : a / 2 ^ i ≤ 65536 := Nat.le_trans (Nat.div_le_self _ _) (Nat.le_of_lt ha)
    have lb : b / 2 ^ i ≤ 65536 := Nat.le_trans (Nat.div_le_self _ _) (Nat.le_of_lt hb)
    rw [xor_r k _ _ _ _ i la lb hlow hp hi16]
    rw [xor_step a b i, Nat.pow_succ, ← Nat.div_div_eq_div_mul, ← Nat.div_div_eq_div_mul] at h
    exact h
theorem xor_f {a b k : Nat} (ha : a < 65536) (hb : b < 65536) (hk : 17 ≤ k) : incunableref45_xor.f k (a : Int) (b : Int) = some ((a ^^^ b : Nat) : Int) := by
  have h := xor_l 16 k a b 0 ha hb (by decide) (by omega)
  rw [Nat.pow_zero, Nat.div_one, Nat.div_one, Nat.mod_one] at h
  exact h
/-! the reference's product -/
theorem rt_r (k a b n P i : Nat) (ha : a < 256) (hb : b < 256) (hP : P ≤ 128) (hP0 : 0 < P) (hn : n < 32768) (hi : i < 8) (hk : 20 ≤ k) :
    incunableref45_Times.l0 (k + 1) (a : Int) (b : Int) (n : Int) (P : Int) (i : Int) = incunableref45_Times.l0 k (a : Int) (b : Int) ((if b / P % 2 = 1 then n ^^^ (a * P) else n : Nat) : Int) ((P * 2 : Nat) : Int) ((i + 1 : Nat) : Int) := by
  have hm : a * P ≤ 255 * 128 := Nat.mul_le_mul (by omega) hP
  have lb : b / P ≤ b := Nat.div_le_self _ _
  simp only [incunableref45_Times.l0]
  rw [if_pos (by omega), if_neg (by omega), td, wn (n := b / P) (by omega), tm2, wm2 (by omega), ws (by omega), wmul (by omega), xor_f (by omega) (by omega) (by omega)]
  simp only [Option.bind_some]
  by_cases c : b / P % 2 = 1
  · rw [if_pos (by rw [c]; rfl), if_pos c]
  · rw [if_neg (by intro h; apply c; exact_mod_cast h), if_neg c]
theorem rt_e (k : Nat) (a b n P : Int) : incunableref45_Times.l0 (k + 1) a b n P 8 = incunableref45_Times.l1 k n 18240 16384 := by
  simp only [incunableref45_Times.l0]; rw [if_neg (by decide)]
theorem rtimes_l0 (r : Nat) : ∀ (k a b n i : Nat), a < 256 → b < 256 → i + r = 8 → n < 32768 → r + 30 < k →
    ∃ k', 29 < k' ∧ rp r a b n i < 32768 ∧ incunableref45_Times.l0 k (a : Int) (b : Int) (n : Int) ((2 ^ i : Nat) : Int) (i : Int) = incunableref45_Times.l1 k' (rp r a b n i : Int) 18240 16384 := by
  induction r with
  | zero =>
    intro k a b n i ha hb hi hn hk
    obtain ⟨k, rfl⟩ : ∃ m, k = m + 1 := ⟨k - 1, by omega⟩
    obtain rfl : i = 8 := by omega
    exact ⟨k, by omega, hn, rt_e k _ _ _ _⟩
  | succ r ih =>
    intro k a b n i ha hb hi hn hk
    obtain ⟨k, rfl⟩ : ∃ m, k = m + 1 := ⟨k - 1, by omega⟩
    have hp : (2 : Nat) ^ i ≤ 128 := Nat.le_trans (Nat.pow_le_pow_right (by decide) (show i ≤ 7 from by omega)) (by decide)
    have hp0 : 0 < (2 : Nat) ^ i := Nat.two_pow_pos i
    have hn' : (if b / 2 ^ i % 2 = 1 then n ^^^ (a * 2 ^ i) else n) < 32768 := by
      have hm : a * 2 ^ i ≤ 255 * 128 := Nat.mul_le_mul (by omega) hp
      split
      · exact Nat.xor_lt_two_pow (n := 15) hn (Nat.lt_of_le_of_lt hm (by decide))
      · exact hn
    rw [rt_r k a b n _ i ha hb hp hp0 hn (by omega) (by omega), ← Nat.pow_succ]
    exact ih k a b _ (i + 1) ha hb (by omega) hn' (by omega)
theorem rl_r (k n Q P : Nat) (hQ : Q ≤ 65536) (hP : P ≤ 65536) (hP0 : 256 ≤ P) (hn : n < 32768) (hk : 17 ≤ k) :
    incunableref45_Times.l1 (k + 1) (n : Int) (Q : Int) (P : Int) = incunableref45_Times.l1 k ((if n / P % 2 = 1 then n ^^^ Q else n : Nat) : Int) ((Q / 2 : Nat) : Int) ((P / 2 : Nat) : Int) ∨ 65536 ≤ Q := by
  by_cases hq : Q < 65536
  · left
    have ln : n / P ≤ n := Nat.div_le_self _ _
    simp only [incunableref45_Times.l1]
    rw [if_pos (by omega), if_neg (by omega), td, wn (n := n / P) (by omega), tm2, td2, td2, wn (n := Q / 2) (by omega), wn (n := P / 2) (by omega), xor_f (by omega) (by omega) (by omega)]
    simp only [Option.bind_some]
    by_cases c : n / P % 2 = 1
    · rw [if_pos (by rw [c]; rfl), if_pos c]
    · rw [if_neg (by intro h; apply c; exact_mod_cast h), if_neg c]
  · right; omega
theorem rl_e (k : Nat) (n Q : Int) : incunableref45_Times.l1 (k + 1) n Q 128 = some n := by
  simp only [incunableref45_Times.l1]; rw [if_neg (by decide)]
theorem rtimes_l1 (j : Nat) : ∀ (k n : Nat), j ≤ 7 → n < 32768 → j + 18 < k →
    incunableref45_Times.l1 k (n : Int) ((285 * 2 ^ j / 2 : Nat) : Int) ((2 ^ j * 128 : Nat) : Int) = some (rr j n : Int) := by
  induction j with
  | zero =>
    intro k n _ _ hk
    obtain ⟨k, rfl⟩ : ∃ m, k = m + 1 := ⟨k - 1, by omega⟩
    exact rl_e k _ _
  | succ j ih =>
    intro k n hj hn hk
    obtain ⟨k, rfl⟩ : ∃ m, k = m + 1 := ⟨k - 1, by omega⟩
    have hp : (2 : Nat) ^ j ≤ 64 := Nat.le_trans (Nat.pow_le_pow_right (by decide) (show j ≤ 6 from by omega)) (by decide)
    have hp0 : 0 < (2 : Nat) ^ j := Nat.two_pow_pos j
    have e8 : (2 : Nat) ^ (j + 8) = 2 ^ j * 256 := by rw [Nat.pow_add]
    have es : (2 : Nat) ^ (j + 1) = 2 ^ j * 2 := Nat.pow_succ ..
    have step := fun m (hm : m < 32768) => ih k m (by omega) hm (by omega)
    simp only [rr]
    rw [e8, es]
    clear ih e8 es
    generalize (2 : Nat) ^ j = P at *
    have e1 : 285 * (P * 2) / 2 = 285 * P := by omega
    have e2 : P * 2 * 128 = P * 256 := by omega
    rw [e1, e2]
    rcases rl_r k n (285 * P) (P * 256) (by omega) (by omega) (by omega) hn (by omega) with h | h
    · rw [h, show P * 256 / 2 = P * 128 from by omega]
      refine step _ ?_
      split
      · exact Nat.xor_lt_two_pow (n := 15) hn (show 285 * P < 32768 from by omega)
      · exact hn
    · omega
theorem rtimes_f {a b k : Nat} (ha : a < 256) (hb : b < 256) (hk : 40 ≤ k) : incunableref45_Times.f k (a : Int) (b : Int) = some (mul a b : Int) := by
  obtain ⟨k', hk', hl, h⟩ := rtimes_l0 8 k a b 0 0 ha hb (by decide) (by decide) (by omega)
  rw [Nat.pow_zero] at h
  have h1 := rtimes_l1 7 k' _ (by decide) hl (by omega)
  have e : rr 7 (rp 8 a b 0 0) = mul a b := rt_mul ha hb
  rw [← e]
  exact h.trans h1
theorem power_l (r : Nat) : ∀ (k i n : Nat), i + r = n → n < 1000000 → r + 10 < k → parity_power.l0 k (pw i : Int) (n : Int) (i : Int) = some (pw n : Int) := by
  induction r with
  | zero =>
    intro k i n hi hn hk
    obtain ⟨k, rfl⟩ : ∃ m, k = m + 1 := ⟨k - 1, by omega⟩
    obtain rfl : i = n := by omega
    simp only [parity_power.l0]; rw [if_neg (by omega)]
  | succ r ih =>
    intro k i n hi hn hk
    obtain ⟨k, rfl⟩ : ∃ m, k = m + 1 := ⟨k - 1, by omega⟩
    have w2 : wrap64 ((i : Int) + 1) = ((i + 1 : Nat) : Int) := by rw [w64 (by omega) (by omega)]; omega
    have ht := times_f (a := pw i) (b := 2) (k := k) (pw_lt i) (by decide) (by omega)
    simp only [parity_power.l0]; rw [if_pos (by omega), show (2 : Int) = ((2 : Nat) : Int) from rfl, ht]
    simp only [Option.bind_some]; rw [w2]
    exact ih k (i + 1) n (by omega) hn (by omega)
theorem power_f {k n : Nat} (hn : n < 1000000) (hk : n + 11 ≤ k) : parity_power.f k (n : Int) = some (pw n : Int) := power_l n k 0 n (by omega) hn (by omega)
theorem inverse_l (r : Nat) : ∀ (k a o i : Nat), a < 256 → o < 256 → i + r = 7 → r + 10 < k → parity_Inverse.l0 k (a : Int) (o : Int) (i : Int) = some (invL r a o : Int) := by
  induction r with
  | zero =>
    intro k a o i ha ho hi hk
    obtain ⟨k, rfl⟩ : ∃ m, k = m + 1 := ⟨k - 1, by omega⟩
    simp only [parity_Inverse.l0]; rw [if_neg (by omega)]; rfl
  | succ r ih =>
    intro k a o i ha ho hi hk
    obtain ⟨k, rfl⟩ : ∃ m, k = m + 1 := ⟨k - 1, by omega⟩
    have w2 : wrap64 ((i : Int) + 1) = ((i + 1 : Nat) : Int) := by rw [w64 (by omega) (by omega)]; omega
    simp only [parity_Inverse.l0]; rw [if_pos (by omega), times_f ha ha (by omega)]
    simp only [Option.bind_some]; rw [times_f ho (mul_lt ha) (by omega)]
    simp only [Option.bind_some]; rw [w2]
    exact ih k (mul a a) (mul o (mul a a)) (i + 1) (mul_lt ha) (mul_lt ho) (by omega) (by omega)
theorem inverse_f {a k : Nat} (ha : a < 256) (hk : 18 ≤ k) : parity_Inverse.f k (a : Int) = some (inv a : Int) := inverse_l 7 k a 1 0 ha (by decide) (by decide) (by omega)
theorem rinverse_l (r : Nat) : ∀ (k a i : Nat), a < 256 → i + r = 256 → 1 ≤ i → (∀ j, 1 ≤ j → j < i → mul a j ≠ 1) → r + 45 < k → incunableref45_Inverse.l0 k (a : Int) (i : Int) = some (inv a : Int) := by
  induction r with
  | zero =>
    intro k a i ha hi h1 hall hk
    obtain ⟨k, rfl⟩ : ∃ m, k = m + 1 := ⟨k - 1, by omega⟩
    simp only [incunableref45_Inverse.l0]; rw [if_neg (by omega)]
    have h0 : a = 0 := by
      rcases Nat.eq_zero_or_pos a with h | h
      · exact h
      · refine absurd (mul_inv a ha (by omega)) (hall (inv a) ?_ ?_)
        · rcases Nat.eq_zero_or_pos (inv a) with e | e
          · have := mul_inv a ha (by omega); rw [e, mul_zero a ha] at this; exact absurd this (by decide)
          · exact e
        · have := inv_lt a ha; omega
    rw [h0, inv_zero]; rfl
  | succ r ih =>
    intro k a i ha hi h1 hall hk
    obtain ⟨k, rfl⟩ : ∃ m, k = m + 1 := ⟨k - 1, by omega⟩
    have w2 : wrap64 ((i : Int) + 1) = ((i + 1 : Nat) : Int) := by rw [w64 (by omega) (by omega)]; omega
    simp only [incunableref45_Inverse.l0]; rw [if_pos (by omega), rtimes_f ha (by omega) (by omega)]
    simp only [Option.bind_some]
    by_cases c : mul a i = 1
    · rw [if_pos (by rw [c]; rfl), inv_unique ha (by omega) c]
    · rw [if_neg (by intro h; apply c; exact_mod_cast h), w2]
      refine ih k a (i + 1) ha (by omega) (by omega) (fun j hj1 hj2 => ?_) (by omega)
      rcases Nat.lt_succ_iff_lt_or_eq.mp hj2 with h | h
      · exact hall j hj1 h
      · rw [h]; exact c
theorem rinverse_f {a k : Nat} (ha : a < 256) (hk : 310 ≤ k) : incunableref45_Inverse.f k (a : Int) = some (inv a : Int) :=
  rinverse_l 255 k a 1 ha (by decide) (by decide) (fun j h1 h2 => by omega) (by omega)
end Go.Proofs.Ytibkckcpclkclaa.EvA
