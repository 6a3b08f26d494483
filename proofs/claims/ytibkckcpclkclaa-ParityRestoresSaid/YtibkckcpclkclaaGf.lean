/-
  The field of 256 elements in plain Lean: products, their laws, inverses, the reference's product.
-/
namespace Go.Proofs.Ytibkckcpclkclaa.Gf
/-- times x -/
def xt (a : Nat) : Nat := if a < 128 then a * 2 else (a * 2 - 256) ^^^ 29
def mulL : Nat → Nat → Nat → Nat → Nat
  | 0, _, _, o => o
  | n + 1, a, b, o => mulL n (xt a) (b / 2) (if b % 2 = 1 then o ^^^ a else o)
def mul (a b : Nat) : Nat := mulL 8 a b 0

theorem xor_lt {a b : Nat} (ha : a < 256) (hb : b < 256) : a ^^^ b < 256 := Nat.xor_lt_two_pow (n := 8) ha hb
theorem xt_eq : ∀ a, a < 256 → xt a = (a <<< 1) ^^^ (if a.testBit 7 then 285 else 0) := by decide +kernel
theorem xt_lt : ∀ a, a < 256 → xt a < 256 := by decide +kernel
theorem ite_xor (p q : Bool) (n : Nat) : (if (p ^^ q) = true then n else 0) = (if p = true then n else 0) ^^^ (if q = true then n else 0) := by
  cases p <;> cases q <;> simp
theorem xor4 (a b c d : Nat) : (a ^^^ b) ^^^ (c ^^^ d) = (a ^^^ c) ^^^ (b ^^^ d) := by
  rw [Nat.xor_assoc, Nat.xor_assoc, ← Nat.xor_assoc b c d, Nat.xor_comm b c, Nat.xor_assoc c b d]
theorem xt_xor {a b : Nat} (ha : a < 256) (hb : b < 256) : xt (a ^^^ b) = xt a ^^^ xt b := by
  rw [xt_eq _ (xor_lt ha hb), xt_eq _ ha, xt_eq _ hb, Nat.shiftLeft_xor_distrib, Nat.testBit_xor, ite_xor, xor4]
theorem xor_div (a b : Nat) : (a ^^^ b) / 2 = a / 2 ^^^ b / 2 := by
  have h := Nat.shiftRight_xor_distrib (a := a) (b := b) (i := 1)
  simpa [Nat.shiftRight_eq_div_pow] using h
theorem xor_mod (a b : Nat) : (a ^^^ b) % 2 = 1 ↔ ¬ (a % 2 = 1 ↔ b % 2 = 1) := by
  have h := Nat.testBit_xor (x := a) (y := b) (i := 0)
  simp only [Nat.testBit_zero] at h
  have h' : (decide ((a ^^^ b) % 2 = 1)) = true ↔ ((decide (a % 2 = 1)) ^^ (decide (b % 2 = 1))) = true := by rw [h]
  simp only [decide_eq_true_eq] at h'
  rw [h']
  by_cases p : a % 2 = 1 <;> by_cases q : b % 2 = 1 <;> simp [p, q]
theorem xor_self_cancel (a b : Nat) : a ^^^ b ^^^ b = a := by rw [Nat.xor_assoc, Nat.xor_self, Nat.xor_zero]
/-- what stands in the sum stays in it -/
theorem mulL_out (n : Nat) : ∀ a b o, mulL n a b o = o ^^^ mulL n a b 0 := by
  induction n with
  | zero => intro a b o; simp [mulL]
  | succ n ih =>
    intro a b o
    simp only [mulL]
    rw [ih _ _ (if b % 2 = 1 then o ^^^ a else o), ih _ _ (if b % 2 = 1 then 0 ^^^ a else 0)]
    split
    · rw [Nat.zero_xor, Nat.xor_assoc]
    · rw [Nat.zero_xor]
theorem mulL_lt (n : Nat) : ∀ a b o, a < 256 → o < 256 → mulL n a b o < 256 := by
  induction n with
  | zero => intro a b o _ ho; exact ho
  | succ n ih =>
    intro a b o ha ho
    simp only [mulL]
    refine ih _ _ _ (xt_lt a ha) ?_
    split
    · exact xor_lt ho ha
    · exact ho
theorem mul_lt {a b : Nat} (ha : a < 256) : mul a b < 256 := mulL_lt 8 a b 0 ha (by decide)
theorem mulL_add_left (n : Nat) : ∀ a a' b, a < 256 → a' < 256 → mulL n (a ^^^ a') b 0 = mulL n a b 0 ^^^ mulL n a' b 0 := by
  induction n with
  | zero => intro a a' b _ _; simp [mulL]
  | succ n ih =>
    intro a a' b ha ha'
    simp only [mulL]
    rw [mulL_out, mulL_out n (xt a), mulL_out n (xt a'), xt_xor ha ha', ih _ _ _ (xt_lt a ha) (xt_lt a' ha')]
    by_cases h : b % 2 = 1
    · simp only [if_pos h, Nat.zero_xor]; exact xor4 _ _ _ _
    · simp only [if_neg h, Nat.zero_xor]
theorem mulL_add_right (n : Nat) : ∀ a b b', mulL n a (b ^^^ b') 0 = mulL n a b 0 ^^^ mulL n a b' 0 := by
  induction n with
  | zero => intro a b b'; simp [mulL]
  | succ n ih =>
    intro a b b'
    simp only [mulL]
    rw [mulL_out, mulL_out n (xt a) (b / 2), mulL_out n (xt a) (b' / 2), xor_div, ih]
    have hm := xor_mod b b'
    by_cases p : b % 2 = 1 <;> by_cases q : b' % 2 = 1
    · rw [if_neg (by rw [hm]; simp [p, q]), if_pos p, if_pos q]
      simp only [Nat.zero_xor]; rw [xor4, Nat.xor_self, Nat.zero_xor]
    · rw [if_pos (by rw [hm]; simp [p, q]), if_pos p, if_neg q]
      simp only [Nat.zero_xor]; rw [Nat.xor_assoc]
    · rw [if_pos (by rw [hm]; simp [p, q]), if_neg p, if_pos q]
      simp only [Nat.zero_xor]; rw [← Nat.xor_assoc, ← Nat.xor_assoc, Nat.xor_comm a]
    · rw [if_neg (by rw [hm]; simp [p, q]), if_neg p, if_neg q]
      simp only [Nat.zero_xor]
theorem mul_xor_left {a a' : Nat} (b : Nat) (ha : a < 256) (ha' : a' < 256) : mul (a ^^^ a') b = mul a b ^^^ mul a' b := mulL_add_left 8 a a' b ha ha'
theorem mul_xor_right (a b b' : Nat) : mul a (b ^^^ b') = mul a b ^^^ mul a b' := mulL_add_right 8 a b b'

/-- a byte is a sum of powers of two -/
theorem byte_sum : ∀ a, a < 256 → a = ((((((((0 ^^^ (a / 1 % 2 * 1)) ^^^ (a / 2 % 2 * 2)) ^^^ (a / 4 % 2 * 4)) ^^^ (a / 8 % 2 * 8)) ^^^ (a / 16 % 2 * 16)) ^^^ (a / 32 % 2 * 32)) ^^^ (a / 64 % 2 * 64)) ^^^ (a / 128 % 2 * 128)) := by decide +kernel
theorem byte_ind {P : Nat → Prop} (h0 : P 0) (hx : ∀ a b, a < 256 → b < 256 → P a → P b → P (a ^^^ b)) (hp : ∀ i, i < 8 → P (2 ^ i)) : ∀ a, a < 256 → P a := by
  intro a ha
  have one : ∀ i, i < 8 → ∀ m, P (m % 2 * 2 ^ i) := by
    intro i hi m
    rcases Nat.mod_two_eq_zero_or_one m with h | h
    · rw [h, Nat.zero_mul]; exact h0
    · rw [h, Nat.one_mul]; exact hp i hi
  have lt : ∀ i, i < 8 → ∀ m, m % 2 * 2 ^ i < 256 := by
    intro i hi m
    have h2 : (2:Nat) ^ i ≤ 2 ^ 7 := Nat.pow_le_pow_right (by decide) (by omega)
    rcases Nat.mod_two_eq_zero_or_one m with h | h <;> rw [h] <;> omega
  have step : ∀ x i m, i < 8 → x < 256 → P x → x ^^^ (m % 2 * 2 ^ i) < 256 ∧ P (x ^^^ (m % 2 * 2 ^ i)) :=
    fun x i m hi hx' px => ⟨xor_lt hx' (lt i hi m), hx _ _ hx' (lt i hi m) px (one i hi m)⟩
  rw [byte_sum a ha]
  have s0 := step 0 0 (a / 1) (by decide) (by decide) h0
  have s1 := step _ 1 (a / 2) (by decide) s0.1 s0.2
  have s2 := step _ 2 (a / 4) (by decide) s1.1 s1.2
  have s3 := step _ 3 (a / 8) (by decide) s2.1 s2.2
  have s4 := step _ 4 (a / 16) (by decide) s3.1 s3.2
  have s5 := step _ 5 (a / 32) (by decide) s4.1 s4.2
  have s6 := step _ 6 (a / 64) (by decide) s5.1 s5.2
  exact (step _ 7 (a / 128) (by decide) s6.1 s6.2).2

theorem mul_zero : ∀ a, a < 256 → mul a 0 = 0 := by decide +kernel
theorem zero_mul : ∀ a, a < 256 → mul 0 a = 0 := by decide +kernel
theorem mul_one : ∀ a, a < 256 → mul a 1 = a := by decide +kernel
theorem comm_basis : ∀ i, i < 8 → ∀ j, j < 8 → mul (2 ^ i) (2 ^ j) = mul (2 ^ j) (2 ^ i) := by decide +kernel
theorem pow_lt {i : Nat} (h : i < 8) : (2:Nat) ^ i < 256 := by
  have h2 : (2:Nat) ^ i ≤ 2 ^ 7 := Nat.pow_le_pow_right (by decide) (by omega)
  omega
theorem mul_comm {a b : Nat} (ha : a < 256) (hb : b < 256) : mul a b = mul b a := by
  have key : ∀ a, a < 256 → ∀ b, b < 256 → mul a b = mul b a := by
    refine byte_ind (fun b hb => by rw [zero_mul b hb, mul_zero b hb]) (fun x y hx hy px py b hb => ?_) (fun i hi => ?_)
    · rw [mul_xor_left b hx hy, mul_xor_right, px b hb, py b hb]
    · refine byte_ind (by rw [zero_mul _ (pow_lt hi), mul_zero _ (pow_lt hi)]) (fun x y hx hy px py => ?_) (fun j hj => comm_basis i hi j hj)
      rw [mul_xor_left _ hx hy, mul_xor_right, px, py]
  exact key a ha b hb
theorem assoc_basis : ∀ i, i < 8 → ∀ j, j < 8 → ∀ l, l < 8 → mul (mul (2 ^ i) (2 ^ j)) (2 ^ l) = mul (2 ^ i) (mul (2 ^ j) (2 ^ l)) := by decide +kernel
theorem mul_assoc {a b c : Nat} (ha : a < 256) (hb : b < 256) (hc : c < 256) : mul (mul a b) c = mul a (mul b c) := by
  have key : ∀ a, a < 256 → ∀ b, b < 256 → ∀ c, c < 256 → mul (mul a b) c = mul a (mul b c) := by
    refine byte_ind (fun b hb c hc => by rw [zero_mul b hb, zero_mul c hc, zero_mul _ (mul_lt hb)]) (fun x y hx hy px py b hb c hc => ?_) (fun i hi => ?_)
    · rw [mul_xor_left b hx hy, mul_xor_left c (mul_lt hx) (mul_lt hy), mul_xor_left _ hx hy, px b hb c hc, py b hb c hc]
    · refine byte_ind (fun c hc => by rw [mul_zero _ (pow_lt hi), zero_mul c hc, mul_zero _ (pow_lt hi)]) (fun x y hx hy px py c hc => ?_) (fun j hj => ?_)
      · rw [mul_xor_right, mul_xor_left c (mul_lt (pow_lt hi)) (mul_lt (pow_lt hi)), mul_xor_left c hx hy, mul_xor_right, px c hc, py c hc]
      · refine byte_ind (by rw [mul_zero _ (mul_lt (pow_lt hi)), mul_zero _ (pow_lt hj), mul_zero _ (pow_lt hi)]) (fun x y hx hy px py => ?_) (fun l hl => assoc_basis i hi j hj l hl)
        rw [mul_xor_right, mul_xor_right, mul_xor_right, px, py]
  exact key a ha b hb c hc

/-- the seven squares of the inverse -/
def invL : Nat → Nat → Nat → Nat
  | 0, _, o => o
  | n + 1, a, o => invL n (mul a a) (mul o (mul a a))
def inv (a : Nat) : Nat := invL 7 a 1
theorem inv_lt : ∀ a, a < 256 → inv a < 256 := by decide +kernel
theorem mul_inv : ∀ a, a < 256 → a ≠ 0 → mul a (inv a) = 1 := by decide +kernel
theorem inv_zero : inv 0 = 0 := by decide +kernel
theorem inv_unique {a b : Nat} (ha : a < 256) (hb : b < 256) (h : mul a b = 1) : b = inv a := by
  have h0 : a ≠ 0 := by
    rintro rfl
    rw [zero_mul b hb] at h
    exact absurd h (by decide)
  have e : mul (inv a) (mul a b) = mul (mul (inv a) a) b := (mul_assoc (inv_lt a ha) ha hb).symm
  rw [h, mul_one _ (inv_lt a ha), mul_comm (inv_lt a ha) ha, mul_inv a ha h0, mul_comm (by decide) hb, mul_one b hb] at e
  exact e.symm

/-! the reference: a product of polynomials, then what is left of it -/
def rp : Nat → Nat → Nat → Nat → Nat → Nat
  | 0, _, _, n, _ => n
  | r + 1, a, b, n, i => rp r a b (if b / 2 ^ i % 2 = 1 then n ^^^ (a * 2 ^ i) else n) (i + 1)
def rr : Nat → Nat → Nat
  | 0, n => n
  | j + 1, n => rr j (if n / 2 ^ (j + 8) % 2 = 1 then n ^^^ (285 * 2 ^ j) else n)
def rt (a b : Nat) : Nat := rr 7 (rp 8 a b 0 0)

theorem xor_mul (a b i : Nat) : (a ^^^ b) * 2 ^ i = a * 2 ^ i ^^^ b * 2 ^ i := by
  have h := Nat.shiftLeft_xor_distrib (a := a) (b := b) (i := i)
  simpa [Nat.shiftLeft_eq] using h
theorem xor_divp (a b i : Nat) : (a ^^^ b) / 2 ^ i = a / 2 ^ i ^^^ b / 2 ^ i := by
  have h := Nat.shiftRight_xor_distrib (a := a) (b := b) (i := i)
  simpa [Nat.shiftRight_eq_div_pow] using h
theorem rp_out (r : Nat) : ∀ a b n i, rp r a b n i = n ^^^ rp r a b 0 i := by
  induction r with
  | zero => intro a b n i; simp [rp]
  | succ r ih =>
    intro a b n i
    simp only [rp]
    rw [ih _ _ (if b / 2 ^ i % 2 = 1 then n ^^^ (a * 2 ^ i) else n), ih _ _ (if b / 2 ^ i % 2 = 1 then 0 ^^^ (a * 2 ^ i) else 0)]
    split
    · rw [Nat.zero_xor, Nat.xor_assoc]
    · rw [Nat.zero_xor]
theorem rp_left (r : Nat) : ∀ a a' b i, rp r (a ^^^ a') b 0 i = rp r a b 0 i ^^^ rp r a' b 0 i := by
  induction r with
  | zero => intro a a' b i; simp [rp]
  | succ r ih =>
    intro a a' b i
    simp only [rp]
    rw [rp_out, rp_out r a, rp_out r a', ih]
    by_cases h : b / 2 ^ i % 2 = 1
    · simp only [if_pos h, Nat.zero_xor]; rw [xor_mul]; exact xor4 _ _ _ _
    · simp only [if_neg h, Nat.zero_xor]
theorem rp_right (r : Nat) : ∀ a b b' i, rp r a (b ^^^ b') 0 i = rp r a b 0 i ^^^ rp r a b' 0 i := by
  induction r with
  | zero => intro a b b' i; simp [rp]
  | succ r ih =>
    intro a b b' i
    simp only [rp]
    rw [rp_out, rp_out r a b, rp_out r a b', xor_divp, ih]
    have hm := xor_mod (b / 2 ^ i) (b' / 2 ^ i)
    by_cases p : b / 2 ^ i % 2 = 1 <;> by_cases q : b' / 2 ^ i % 2 = 1
    · rw [if_neg (by rw [hm]; simp [p, q]), if_pos p, if_pos q]
      simp only [Nat.zero_xor]; rw [xor4, Nat.xor_self, Nat.zero_xor]
    · rw [if_pos (by rw [hm]; simp [p, q]), if_pos p, if_neg q]
      simp only [Nat.zero_xor]; rw [Nat.xor_assoc]
    · rw [if_pos (by rw [hm]; simp [p, q]), if_neg p, if_pos q]
      simp only [Nat.zero_xor]; rw [← Nat.xor_assoc, ← Nat.xor_assoc, Nat.xor_comm (a * 2 ^ i)]
    · rw [if_neg (by rw [hm]; simp [p, q]), if_neg p, if_neg q]
      simp only [Nat.zero_xor]
theorem rr_xor (j : Nat) : ∀ n m, rr j (n ^^^ m) = rr j n ^^^ rr j m := by
  induction j with
  | zero => intro n m; rfl
  | succ j ih =>
    intro n m
    simp only [rr]
    rw [← ih, xor_divp]
    have hm := xor_mod (n / 2 ^ (j + 8)) (m / 2 ^ (j + 8))
    by_cases p : n / 2 ^ (j + 8) % 2 = 1 <;> by_cases q : m / 2 ^ (j + 8) % 2 = 1
    · rw [if_neg (by rw [hm]; simp [p, q]), if_pos p, if_pos q, xor4, Nat.xor_self, Nat.xor_zero]
    · rw [if_pos (by rw [hm]; simp [p, q]), if_pos p, if_neg q, Nat.xor_assoc, Nat.xor_assoc, Nat.xor_comm m]
    · rw [if_pos (by rw [hm]; simp [p, q]), if_neg p, if_pos q, Nat.xor_assoc]
    · rw [if_neg (by rw [hm]; simp [p, q]), if_neg p, if_neg q]
theorem rt_left (a a' b : Nat) : rt (a ^^^ a') b = rt a b ^^^ rt a' b := by unfold rt; rw [rp_left, rr_xor]
theorem rt_right (a b b' : Nat) : rt a (b ^^^ b') = rt a b ^^^ rt a b' := by unfold rt; rw [rp_right, rr_xor]
theorem rt_basis : ∀ i, i < 8 → ∀ j, j < 8 → rt (2 ^ i) (2 ^ j) = mul (2 ^ i) (2 ^ j) := by decide +kernel
theorem rt_zero : ∀ a, a < 256 → rt a 0 = 0 := by decide +kernel
theorem zero_rt : ∀ a, a < 256 → rt 0 a = 0 := by decide +kernel
theorem rt_mul {a b : Nat} (ha : a < 256) (hb : b < 256) : rt a b = mul a b := by
  have key : ∀ a, a < 256 → ∀ b, b < 256 → rt a b = mul a b := by
    refine byte_ind (fun b hb => by rw [zero_rt b hb, zero_mul b hb]) (fun x y hx hy px py b hb => ?_) (fun i hi => ?_)
    · rw [mul_xor_left b hx hy, rt_left, px b hb, py b hb]
    · refine byte_ind (by rw [rt_zero _ (pow_lt hi), mul_zero _ (pow_lt hi)]) (fun x y hx hy px py => ?_) (fun j hj => rt_basis i hi j hj)
      rw [rt_right, mul_xor_right, px, py]
  exact key a ha b hb

/-! the exclusive or, by tens of bits -/
theorem xor_low (a b i : Nat) : (a ^^^ b) % 2 ^ i = a % 2 ^ i ^^^ b % 2 ^ i := Nat.xor_mod_two_pow
theorem xor_step (a b i : Nat) : (a ^^^ b) % 2 ^ (i + 1) = (a ^^^ b) % 2 ^ i + (if a / 2 ^ i % 2 = b / 2 ^ i % 2 then 0 else 2 ^ i) := by
  have h1 : (a ^^^ b) % 2 ^ (i + 1) = (a ^^^ b) % 2 ^ i + 2 ^ i * ((a ^^^ b) / 2 ^ i % 2) := by
    rw [Nat.pow_succ, Nat.mod_mul]
  rw [h1, xor_divp]
  have hm := xor_mod (a / 2 ^ i) (b / 2 ^ i)
  by_cases e : a / 2 ^ i % 2 = b / 2 ^ i % 2
  · rw [if_pos e]
    have : ¬ (a / 2 ^ i ^^^ b / 2 ^ i) % 2 = 1 := by rw [hm, e]; simp
    have h0 : (a / 2 ^ i ^^^ b / 2 ^ i) % 2 = 0 := by omega
    rw [h0, Nat.mul_zero]
  · rw [if_neg e]
    have : (a / 2 ^ i ^^^ b / 2 ^ i) % 2 = 1 := by rw [hm]; omega
    rw [this, Nat.mul_one]
/-- two to a number -/
def pw : Nat → Nat
  | 0 => 1
  | n + 1 => mul (pw n) 2
theorem pw_lt : ∀ n, pw n < 256
  | 0 => by decide
  | n + 1 => mul_lt (pw_lt n)
end Go.Proofs.Ytibkckcpclkclaa.Gf
