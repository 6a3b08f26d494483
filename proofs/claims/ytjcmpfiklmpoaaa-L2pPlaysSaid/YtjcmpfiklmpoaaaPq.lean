/-
  L2pPlays in plain Lean: the map and the reference's list say the same.
-/
import Derived.Test.YtjcmpfiklmpoaaaPw
import Derived.Test.YtjcmpfiklmpoaaaPv
import Derived.KernelRfl
namespace Go.Proofs.Ytjcmpfiklmpoaaa.Pq
open Go.RowKit Go.Proofs.Ytjcmpfiklmpoaaa.M Go.Proofs.Ytjcmpfiklmpoaaa.Pl Go.Proofs.YtjcmpfiklmpoaaaW.PrintWords Go.Proofs.YtjcmpfiklmpoaaaW.PrintLast
set_option linter.unusedVariables false
set_option linter.unusedSimpArgs false
theorem awake_ok : incunablelaw27_awake.f 10000 = some true := by kernel_rfl
theorem rd_set {A : List Int} {i : Int} (h0 : 0 ≤ i) (h1 : i < (A.length : Int)) (x : Int) {j : Int} (hj : 0 ≤ j) : rd (A.set i.toNat x) j = if j = i then x else rd A j := by
  unfold rd
  rw [List.getD_eq_getElem?_getD, List.getD_eq_getElem?_getD, List.getElem?_set]
  by_cases e : j = i
  · subst e
    rw [if_pos rfl, if_pos rfl, if_pos (by omega)]
    rfl
  · rw [if_neg (by omega), if_neg e]
theorem rFrom_none {A : List Int} {a : Int} : ∀ (d : Nat) (x : Int), (∀ i, x ≤ i → i < x + d → ¬ (rd A i > 0 ∧ wrap64 (rd A i - 1) = a)) → rFrom A a d x = -1
  | 0, _, _ => rfl
  | d + 1, x, h => by
    have ih := rFrom_none (A := A) (a := a) d (x + 1) (fun i h1 h2 => h i (by omega) (by omega))
    have h0 := h x (Int.le_refl _) (by omega)
    unfold rFrom
    split
    · rename_i c
      rw [if_neg (fun e => h0 ⟨c, e⟩)]
      exact ih
    · exact ih
theorem rFrom_some {A : List Int} {a i0 : Int} (hp : rd A i0 > 0 ∧ wrap64 (rd A i0 - 1) = a) : ∀ (d : Nat) (x : Int), x ≤ i0 → i0 < x + d → (∀ i, x ≤ i → i < i0 → ¬ (rd A i > 0 ∧ wrap64 (rd A i - 1) = a)) → rFrom A a d x = i0
  | 0, x, h0, h1, _ => by omega
  | d + 1, x, h0, h1, h => by
    unfold rFrom
    by_cases e : x = i0
    · subst e
      rw [if_pos hp.1, if_pos hp.2]
    · have ih := rFrom_some hp d (x + 1) (by omega) (by omega) (fun i h2 h3 => h i (by omega) h3)
      have hx := h x (Int.le_refl _) (by omega)
      split
      · rename_i c
        rw [if_neg (fun e => hx ⟨c, e⟩)]
        exact ih
      · exact ih
def slot : Option Int → Int
  | none => 0
  | some a => a + 1
structure Rel (S B P : Int) (s : St) (r : Rs) : Prop where
  inv : Inv2 S B P s
  len : (r.A.length : Int) = B * P
  n1 : r.n1 = S
  n2 : r.n2 = P
  at_ : ∀ i, 0 ≤ i → i < B * P → rd r.A i = slot (s.g i)
theorem Rel.has {S B P : Int} (dm : Dim S B P) {s : St} {r : Rs} (h : Rel S B P s r) {a i : Int} (h0 : 0 ≤ i) (h1 : i < B * P) : (rd r.A i > 0 ∧ wrap64 (rd r.A i - 1) = a) ↔ s.g i = some a := by
  rw [h.at_ i h0 h1]
  have hs := dm.s
  cases e : s.g i with
  | none => simp [slot]
  | some x =>
    have hx := (h.inv.base.rng x i ((h.inv.base.fg x i).mpr e)).1
    simp only [slot]
    rw [show x + 1 - 1 = x by omega, w64_small (by omega) (by omega)]
    constructor
    · rintro ⟨_, rfl⟩; rfl
    · intro h; injection h with h; exact ⟨by omega, h⟩
theorem Rel.row {S B P : Int} (dm : Dim S B P) {s : St} {r : Rs} (h : Rel S B P s r) (a : Int) : rRow r.A a = (s.f a).getD (-1) := by
  have hl := h.len
  unfold rRow
  cases e : s.f a with
  | none =>
    refine rFrom_none _ _ fun i h0 h1 hh => ?_
    have := (h.has dm h0 (by omega)).mp hh
    rw [(h.inv.base.fg a i).mpr this] at e
    cases e
  | some x =>
    have hr := (h.inv.base.rng a x e).2
    refine rFrom_some ((h.has dm hr.1 hr.2).mpr ((h.inv.base.fg a x).mp e)) _ _ hr.1 (by omega) fun i h0 h1 hh => ?_
    have := (h.inv.base.fg a i).mpr ((h.has dm h0 (by omega)).mp hh)
    rw [e] at this
    injection this with this
    omega
theorem Rel.bad {S B P : Int} (dm : Dim S B P) {s : St} {r : Rs} (h : Rel S B P s r) (a b : Int) : rBad r a b ↔ ¬ setGood S B P s a b := by
  unfold rBad setGood
  rw [h.n1, h.len]
  by_cases hb : 0 ≤ b ∧ b < B * P
  · have hh : ∀ x, (rd r.A b > 0 ∧ wrap64 (rd r.A b - 1) = x) ↔ s.g b = some x := fun x => h.has dm hb.1 hb.2
    have key : (rd r.A b > 0 ∧ wrap64 (rd r.A b - 1) ≠ a) ↔ ¬ (s.g b = none ∨ s.g b = some a) := by
      cases e : s.g b with
      | none =>
        have := h.at_ b hb.1 hb.2
        rw [e] at this
        simp only [slot] at this
        constructor
        · rintro ⟨c, _⟩; omega
        · intro hn; exact absurd (.inl rfl) hn
      | some x =>
        obtain ⟨c1, c2⟩ := (hh x).mpr e
        constructor
        · rintro ⟨_, hne⟩ (hx | hx)
          · cases hx
          · injection hx with hx; exact hne (by rw [c2, hx])
        · intro hn
          refine ⟨c1, fun e2 => hn (.inr ?_)⟩
          rw [← e2, c2]
    rw [key]
    constructor
    · rintro (h1 | h1 | h1 | h1 | h1) ⟨⟨g0, g1⟩, ⟨g2, g3⟩, g4⟩
      · omega
      · omega
      · omega
      · omega
      · exact h1 g4
    · intro hn
      by_cases h1 : a < 0
      · exact .inl h1
      by_cases h2 : S ≤ a
      · exact .inr (.inl h2)
      refine .inr (.inr (.inr (.inr fun g => hn ⟨⟨by omega, by omega⟩, hb, g⟩)))
  · constructor
    · rintro _ ⟨_, h2, _⟩; exact hb h2
    · intro _
      by_cases h1 : b < 0
      · exact .inr (.inr (.inl h1))
      · exact .inr (.inr (.inr (.inl (by omega))))
theorem Rel.drop {S B P : Int} (dm : Dim S B P) {s : St} {r : Rs} (h : Rel S B P s r) (a : Int) : Rel S B P (dropped s a) { r with A := rDrop r.A a } := by
  refine ⟨gone_inv2 dm h.inv a, by rw [← h.len, rDrop_len], h.n1, h.n2, fun i h0 h1 => ?_⟩
  show rd (rDrop r.A a) i = _
  rw [dropped_g]
  have hr := h.row dm a
  unfold rDrop
  cases e : s.f a with
  | none =>
    rw [e] at hr
    rw [hr]
    rw [if_neg (by decide), if_neg (by simp)]
    exact h.at_ i h0 h1
  | some x =>
    rw [e] at hr
    have hx := (h.inv.base.rng a x e).2
    rw [show rRow r.A a = x from hr, if_pos hx.1, rd_set hx.1 (by rw [h.len]; exact hx.2) _ h0]
    by_cases e2 : i = x
    · subst e2
      rw [if_pos rfl, if_pos rfl]
      rfl
    · rw [if_neg e2, if_neg (fun e3 => e2 (Option.some.inj e3).symm)]
      exact h.at_ i h0 h1
theorem Rel.set {S B P : Int} (dm : Dim S B P) {s : St} {r : Rs} (h : Rel S B P s r) {a b : Int} (hg : setGood S B P s a b) : Rel S B P (setTo s a b) { r with A := (rDrop r.A a).set b.toNat (wrap64 (a + 1)) } := by
  have hd := h.drop dm a
  have hs := dm.s
  refine ⟨set_inv2 dm h.inv hg, by rw [List.length_set]; exact hd.len, h.n1, h.n2, fun i h0 h1 => ?_⟩
  obtain ⟨⟨a0, a1⟩, ⟨b0, b1⟩, _⟩ := hg
  show rd ((rDrop r.A a).set b.toNat (wrap64 (a + 1))) i = _
  rw [rd_set b0 (by rw [show ((rDrop r.A a).length : Int) = B * P from hd.len]; exact b1) _ h0, setTo_g, w64_small (by omega) (by omega)]
  by_cases e : i = b
  · rw [if_pos e, if_pos e]; rfl
  · rw [if_neg e, if_neg e]
    have := hd.at_ i h0 h1
    rw [dropped_g] at this
    exact this
/- rows of a block -/
theorem rr_app {A : List Int} {P b : Int} : ∀ (d : Nat) (x : Int) (out : List Int), rRowsFrom A P b d x out = out ++ rRowsFrom A P b d x []
  | 0, _, out => (List.append_nil out).symm
  | d + 1, x, out => by
    unfold rRowsFrom
    split
    · split
      · rw [rr_app d (x + 1) (out ++ [x]), rr_app d (x + 1) ([] ++ [x])]
        simp
      · exact rr_app d (x + 1) out
    · exact rr_app d (x + 1) out
theorem rr_succ (A : List Int) (P b : Int) (d : Nat) (x : Int) (out : List Int) : rRowsFrom A P b (d + 1) x out = if rd A x > 0 then (if wrap64 (Int.tdiv x P) = b then rRowsFrom A P b d (x + 1) (out ++ [x]) else rRowsFrom A P b d (x + 1) out) else rRowsFrom A P b d (x + 1) out := rfl
theorem rr_split {A : List Int} {P b : Int} : ∀ (d e : Nat) (x : Int) (out : List Int), rRowsFrom A P b (d + e) x out = rRowsFrom A P b e (x + d) (rRowsFrom A P b d x out)
  | 0, e, x, out => by
    rw [Nat.zero_add]
    show _ = rRowsFrom A P b e (x + ((0 : Nat) : Int)) out
    rw [show x + ((0 : Nat) : Int) = x by omega]
  | d + 1, e, x, out => by
    have hx : x + 1 + (d : Int) = x + ((d + 1 : Nat) : Int) := by omega
    rw [show d + 1 + e = (d + e) + 1 by omega, rr_succ, rr_succ]
    split
    · split
      · rw [rr_split d e (x + 1), hx]
      · rw [rr_split d e (x + 1), hx]
    · rw [rr_split d e (x + 1), hx]
theorem tdiv_w {P i : Int} (hP : 1 ≤ P) (h0 : 0 ≤ i) (h1 : i ≤ 100000) : wrap64 (Int.tdiv i P) = i / P := by
  rw [Int.tdiv_eq_ediv_of_nonneg h0]
  have h2 : 0 ≤ i / P := Int.ediv_nonneg h0 (by omega)
  have h3 : i / P ≤ i := Int.ediv_le_self _ h0
  exact w64_small (by omega) (by omega)
theorem rr_none {A : List Int} {P b : Int} (hP : 1 ≤ P) : ∀ (d : Nat) (x : Int) (out : List Int), 0 ≤ x → x + d ≤ 100000 → (∀ i, x ≤ i → i < x + d → i / P ≠ b) → rRowsFrom A P b d x out = out
  | 0, _, _, _, _, _ => rfl
  | d + 1, x, out, h0, h1, h => by
    have ih := rr_none (A := A) (b := b) hP d (x + 1) out (by omega) (by omega) (fun i h2 h3 => h i (by omega) (by omega))
    unfold rRowsFrom
    rw [tdiv_w hP h0 (by omega), if_neg (h x (Int.le_refl _) (by omega))]
    split <;> exact ih
theorem rr_mid {S B P : Int} (dm : Dim S B P) {s : St} {r : Rs} (h : Rel S B P s r) {b : Int} (b0 : 0 ≤ b) (b1 : b < B) : ∀ (d : Nat) (j : Int), 0 ≤ j → j + d ≤ P → rRowsFrom r.A P b d (b * P + j) [] = rowsL s b P d j
  | 0, _, _, _ => rfl
  | d + 1, j, h0, h1 => by
    have hp := dm.p
    have hbp := dm.bp
    have m0 : 0 ≤ b * P := Int.mul_nonneg b0 (by omega)
    have m1 : b * P + P ≤ B * P := by
      have := Int.mul_le_mul_of_nonneg_right (show b + 1 ≤ B by omega) (show 0 ≤ P by omega)
      rw [Int.add_mul, Int.one_mul] at this
      exact this
    have ih := rr_mid dm h b0 b1 d (j + 1) (by omega) (by omega)
    rw [show b * P + (j + 1) = b * P + j + 1 by omega] at ih
    have hdiv : wrap64 (Int.tdiv (b * P + j) P) = b := by
      rw [tdiv_w hp.1 (by omega) (by omega)]
      exact div_parts hp.1 h0 (by omega)
    have hat := h.at_ (b * P + j) (by omega) (by omega)
    unfold rRowsFrom rowsL
    rw [hdiv, hat]
    cases e : s.g (b * P + j) with
    | none =>
      rw [if_neg (by simp [slot]), if_neg (by simp)]
      exact ih
    | some a =>
      have ha := (h.inv.base.rng a _ ((h.inv.base.fg a _).mpr e)).1
      rw [if_pos (by simp only [slot]; omega), if_pos rfl, if_pos (show (some a).isSome = true from rfl), rr_app, ih]
      rfl
theorem Rel.rows {S B P : Int} (dm : Dim S B P) {s : St} {r : Rs} (h : Rel S B P s r) {b : Int} : rRows r b = if 0 ≤ b ∧ b < B then rowsL s b P P.toNat 0 else [] := by
  have hp := dm.p
  have hbp := dm.bp
  have hl := h.len
  unfold rRows
  rw [h.n2]
  by_cases hb : 0 ≤ b ∧ b < B
  · rw [if_pos hb]
    obtain ⟨b0, b1⟩ := hb
    have m0 : 0 ≤ b * P := Int.mul_nonneg b0 (by omega)
    have m1 : b * P + P ≤ B * P := by
      have := Int.mul_le_mul_of_nonneg_right (show b + 1 ≤ B by omega) (show 0 ≤ P by omega)
      rw [Int.add_mul, Int.one_mul] at this
      exact this
    have hmid := rr_mid dm h b0 b1 P.toNat 0 (Int.le_refl _) (by omega)
    rw [Int.add_zero] at hmid
    obtain ⟨q, hq⟩ : ∃ q, q = b * P := ⟨_, rfl⟩
    have hlo : ∀ i, 0 ≤ i → i < q → i / P ≠ b := fun i h0 h1 e => by
      have : i / P < b := Int.ediv_lt_of_lt_mul (by omega) (by rw [← hq]; exact h1)
      omega
    have hhi : ∀ i, q + P ≤ i → i / P ≠ b := fun i h0 e => by
      have : b + 1 ≤ i / P := (Int.le_ediv_iff_mul_le (by omega)).mpr (by rw [Int.add_mul, Int.one_mul, ← hq]; exact h0)
      omega
    rw [← hq] at m0 m1 hmid
    rw [show r.A.length = q.toNat + (P.toNat + (r.A.length - q.toNat - P.toNat)) by omega, rr_split, rr_split]
    rw [rr_none hp.1 q.toNat 0 [] (Int.le_refl _) (by omega) (fun i h0 h1 => hlo i h0 (by omega))]
    rw [show (0 : Int) + (q.toNat : Int) = q by omega, hmid, show q + (P.toNat : Int) = q + P by omega]
    exact rr_none hp.1 _ _ _ (by omega) (by omega) (fun i h0 h1 => hhi i h0)
  · rw [if_neg hb]
    refine rr_none hp.1 _ _ _ (Int.le_refl _) (by omega) fun i h0 h1 e => hb ?_
    have h2 : 0 ≤ i / P := Int.ediv_nonneg h0 (by omega)
    have h3 : i / P < B := div_lt hp.1 (by omega)
    omega
theorem ints_l (l : List Int) (hl : l.length ≤ 100000) (r : Nat) : ∀ k i : Nat, i + r = l.length → r < k → incunableref01_Ints.l0 k l l (i : Int) = some true := by
  induction r with
  | zero =>
    intro k i hi hk
    obtain ⟨k, rfl⟩ : ∃ j, k = j + 1 := ⟨k - 1, by omega⟩
    simp only [incunableref01_Ints.l0]
    rw [if_neg (by omega)]
  | succ r ih =>
    intro k i hi hk
    obtain ⟨k, rfl⟩ : ∃ j, k = j + 1 := ⟨k - 1, by omega⟩
    have hw : wrap64 ((i : Int) + 1) = ((i + 1 : Nat) : Int) := by rw [w64_small (by omega) (by omega)]; omega
    simp only [incunableref01_Ints.l0]
    rw [if_pos (by omega), if_pos (by omega), if_pos (by omega), if_pos trivial, hw]
    exact ih k (i + 1) (by omega) (by omega)
theorem ints_same (l : List Int) {k : Nat} (hl : l.length ≤ 100000) (hk : l.length < k) : incunableref01_Ints.f k l l = some true := by
  unfold incunableref01_Ints.f
  rw [if_pos rfl]
  exact ints_l l hl l.length k 0 (by omega) hk
theorem rowsL_le {s : St} {b P : Int} (d : Nat) (i : Int) : (rowsL s b P d i).length ≤ d := by
  rw [rowsL_len]
  exact cnt_le _ _
/-- What both say of a block's rows. -/
theorem mrows {S B P : Int} (dm : Dim S B P) {s : St} {r : Rs} (h : Rel S B P s r) (b : Int) {k : Nat} (hk : 300 < k) :
    pm_Rows.f k ⟨s, r⟩ b = some (rRows r b, ⟨s, r⟩) ∧ pm_Valid.f ⟨s, r⟩ b = some (((rRows r b).length : Int), ⟨s, r⟩) ∧ (rRows r b).length ≤ 64 := by
  have hp := dm.p
  rw [h.rows dm]
  unfold pm_Rows.f pm_Valid.f
  rw [valid_f]
  by_cases hb : 0 ≤ b ∧ b < B
  · rw [if_pos hb, rows_f dm h.inv hb.1 hb.2 (show P.toNat < k by omega), if_neg (by omega), if_neg (by rw [h.inv.base.len]; omega), h.inv.v b hb.1 hb.2]
    refine ⟨rfl, ?_, by have := rowsL_le (s := s) (b := b) (P := P) P.toNat 0; omega⟩
    rw [rowsL_len]
    have : cnt (fun j => s.g (b * P + (0 + j))) P.toNat = cntB s.g b P := cnt_congr _ fun x _ _ => by rw [show (0 : Int) + x = x by omega]
    rw [this]
    rfl
  · rw [if_neg hb]
    have ev : (if b < 0 then 0 else (if (s.V.length : Int) ≤ b then 0 else rdV s.V b)) = 0 := by
      by_cases h0 : b < 0
      · rw [if_pos h0]
      · rw [if_neg h0, if_pos (by rw [h.inv.base.len]; omega)]
    unfold l2p_Map_Rows.f
    rw [ev]
    exact ⟨rfl, rfl, Nat.zero_le _⟩
theorem l2_loop {S B P : Int} (dm : Dim S B P) {s : St} {r : Rs} (h : Rel S B P s r) (n : Int) : ∀ (d k : Nat) (b : Int), -1 ≤ b → b + d = B + 1 → d + 400 < k → incunablelaw27_L2pPlays.l2 k n b S B P ⟨s, r⟩ = some ((s.n : Int) == n) := by
  have hbp := dm.bp
  have hp := dm.p
  have hb := dm.b
  have hl := h.len
  intro d
  induction d with
  | zero =>
    intro k b h0 h1 hk
    obtain ⟨k, rfl⟩ : ∃ j, k = j + 1 := ⟨k - 1, by omega⟩
    simp only [incunablelaw27_L2pPlays.l2]
    rw [if_neg (by omega)]
    rfl
  | succ d ih =>
    intro k b h0 h1 hk
    obtain ⟨k, rfl⟩ : ∃ j, k = j + 1 := ⟨k - 1, by omega⟩
    obtain ⟨e1, e2, e3⟩ := mrows dm h b (k := k) (by omega)
    have e4 : pr_Rows.f ⟨s, r⟩ b = some (rRows r b, ⟨s, r⟩) := if_pos ⟨by show r.A.length < 1000000; omega, by show r.n2 ≠ 0; rw [h.n2]; omega⟩
    have e5 := ints_same (rRows r b) (k := k) (by omega) (by omega)
    have hw : wrap64 (b + 1) = b + 1 := w64_small (by omega) (by omega)
    simp only [incunablelaw27_L2pPlays.l2]
    rw [if_pos (by omega), e1, Option.bind_some, e4, Option.bind_some, e5, Option.bind_some, if_pos rfl, e2, Option.bind_some, e4, Option.bind_some, if_pos rfl, hw]
    exact ih k (b + 1) (by omega) (by omega) (by omega)
theorem l1_loop {S B P : Int} (dm : Dim S B P) (hS : S ≤ 100) (hB : B * P ≤ 200) {s : St} {r : Rs} (h : Rel S B P s r) : ∀ (d k : Nat) (x : Int), -1 ≤ x → x + d = S + 1 → 3 * d + 700 < k → incunablelaw27_L2pPlays.l1 k ((cnt s.f x.toNat : Nat) : Int) x S B P ⟨s, r⟩ = some true := by
  have hs := dm.s
  have hp := dm.p
  have hb := dm.b
  have hl := h.len
  have hBB : B ≤ 200 := by
    have := Int.mul_le_mul_of_nonneg_left (show 1 ≤ P by omega) (show 0 ≤ B by omega)
    rw [Int.mul_one] at this
    omega
  intro d
  induction d with
  | zero =>
    intro k x h0 h1 hk
    obtain ⟨k, rfl⟩ : ∃ j, k = j + 1 := ⟨k - 1, by omega⟩
    simp only [incunablelaw27_L2pPlays.l1]
    rw [if_neg (by omega), l2_loop dm h _ (B + 2).toNat k (-1) (by omega) (by omega) (by omega), h.inv.base.n]
    have hx : x.toNat = S.toNat + 1 := by omega
    have hn : s.f S = none := by
      cases e : s.f S with
      | none => rfl
      | some y => have := (h.inv.base.rng S y e).1; omega
    rw [hx]
    simp only [cnt]
    rw [show ((S.toNat : Nat) : Int) = S by omega, hn]
    simp
  | succ d ih =>
    intro k x h0 h1 hk
    obtain ⟨k, rfl⟩ : ∃ j, k = j + 3 := ⟨k - 3, by omega⟩
    have hw : wrap64 (x + 1) = x + 1 := w64_small (by omega) (by omega)
    have e1 : pm_Row.f ⟨s, r⟩ x = some ((s.f x).getD 0, (s.f x).isSome, ⟨s, r⟩) := by
      unfold pm_Row.f
      rw [row_f s (show wfI x from ⟨by omega, by omega⟩)]
      rfl
    have e2 : pr_Row.f ⟨s, r⟩ x = some ((s.f x).getD (-1), ⟨s, r⟩) := by
      unfold pr_Row.f
      rw [if_pos (by show r.A.length < 1000000; omega)]
      exact congrArg (fun y => some (y, (⟨s, r⟩ : M.P))) (h.row dm x)
    have hn : x < 0 → s.f x = none := by
      intro hx
      cases e : s.f x with
      | none => rfl
      | some y => have := (h.inv.base.rng x y e).1; omega
    have hstep : ∀ k, 3 * d + 700 < k → incunablelaw27_L2pPlays.l1 k (if (s.f x).isSome = true then wrap64 (((cnt s.f x.toNat : Nat) : Int) + 1) else ((cnt s.f x.toNat : Nat) : Int)) (wrap64 (x + 1)) S B P ⟨s, r⟩ = some true := by
      intro k hk
      rw [hw, ← ih k (x + 1) (by omega) (by omega) hk]
      congr 1
      by_cases hx : x < 0
      · rw [hn hx, show x.toNat = 0 by omega, show (x + 1).toNat = 0 by omega]
        rfl
      · have hc := cnt_le s.f x.toNat
        rw [show (x + 1).toNat = x.toNat + 1 by omega]
        simp only [cnt]
        rw [show ((x.toNat : Nat) : Int) = x by omega]
        split
        · rw [w64_small (by omega) (by omega)]
          omega
        · omega
    have hj : ∀ y : Int, y = (s.f x).getD (-1) → incunablelaw27_L2pPlays.j3 (k + 2) ((cnt s.f x.toNat : Nat) : Int) x ((s.f x).getD 0) (s.f x).isSome y S B P ⟨s, r⟩ = some true := by
      rintro y rfl
      have hst := hstep k (by omega)
      simp only [incunablelaw27_L2pPlays.j3, incunablelaw27_L2pPlays.j4]
      cases e : s.f x with
      | none =>
        rw [e] at hst
        simpa using hst
      | some z =>
        have hz := (h.inv.base.rng x z e).2
        rw [e] at hst
        have : decide (0 ≤ z) = true := decide_eq_true hz.1
        simpa [this] using hst
    rw [show k + 3 = (k + 2) + 1 by omega]
    simp only [incunablelaw27_L2pPlays.l1]
    rw [if_pos (by omega), e1, Option.bind_some, e2, Option.bind_some]
    by_cases hx : x < 0
    · rw [if_pos hx]
      exact hj (-1) (by rw [hn hx]; rfl)
    · rw [if_neg hx]
      exact hj _ rfl
def WF (l : List S32) : Prop := ∀ d ∈ l, wfI d.f1 ∧ wfI d.f2
theorem rd_wf {l : List S32} (hl : WF l) {i : Nat} (h : i < l.length) : wfI (rd_T32 l (i : Int)).f1 ∧ wfI (rd_T32 l (i : Int)).f2 := by
  have : rd_T32 l (i : Int) = l[i] := by simp [rd_T32, h]
  rw [this]
  exact hl _ (List.getElem_mem h)
theorem l0_loop {S B P : Int} (dm : Dim S B P) (hS : S ≤ 100) (hB : B * P ≤ 200) {l : List S32} (hl : WF l) (hlen : l.length ≤ 60) : ∀ (d i k : Nat) (s : St) (r : Rs), Rel S B P s r → s.c ≤ i → i + d = l.length → d + 2000 < k → incunablelaw27_L2pPlays.l0 k l (l.length : Int) (i : Int) S B P ⟨s, r⟩ = some true := by
  intro d
  induction d with
  | zero =>
    intro i k s r h hcc hi hk
    obtain ⟨k, rfl⟩ : ∃ j, k = j + 1 := ⟨k - 1, by omega⟩
    simp only [incunablelaw27_L2pPlays.l0]
    rw [if_neg (by omega)]
    have hs := dm.s
    exact l1_loop dm hS hB h (S + 2).toNat k (-1) (by omega) (by omega) (by omega)
  | succ d ih =>
    intro i k s r h hcc hi hk
    obtain ⟨k, rfl⟩ : ∃ j, k = j + 1 := ⟨k - 1, by omega⟩
    have hlA : r.A.length < 1000000 := by have := h.len; have := dm.bp; omega
    have hw := rd_wf hl (i := i) (by omega)
    have hws : wrap64 ((i : Int) + 1) = ((i + 1 : Nat) : Int) := by rw [w64_small (by omega) (by omega)]; omega
    simp only [incunablelaw27_L2pPlays.l0]
    rw [if_pos (by omega), if_pos (by omega), if_pos (by omega), hws]
    generalize (rd_T32 l (i : Int)).f1 = a at hw
    generalize (rd_T32 l (i : Int)).f2 = b at hw
    by_cases k1 : (rd_T32 l (i : Int)).f0 = 1
    · rw [if_pos k1]
      have e2 : ∀ m : St, pr_Set.f ⟨m, r⟩ a b = some ((rSet r a b).1, ⟨m, (rSet r a b).2⟩) := fun m => if_pos hlA
      by_cases hg : setGood S B P s a b
      · have e1 : pm_Set.f ⟨s, r⟩ a b = some (0, ⟨setTo s a b, r⟩) := by unfold pm_Set.f; rw [set_good dm h.inv.base (by omega) hg]; rfl
        have e3 : rSet r a b = (0, { r with A := (rDrop r.A a).set b.toNat (wrap64 (a + 1)) }) := if_neg (fun hb => (h.bad dm a b).mp hb hg)
        rw [e1, Option.bind_some, e2, Option.bind_some, e3, if_pos rfl]
        exact ih (i + 1) k _ _ (h.set dm hg) (by rw [setTo_c]; omega) (by omega) (by omega)
      · have e1 : pm_Set.f ⟨s, r⟩ a b = some (2, ⟨s, r⟩) := by unfold pm_Set.f; rw [set_bad dm h.inv.base hg]; rfl
        have e3 : rSet r a b = (2, r) := if_pos ((h.bad dm a b).mpr hg)
        rw [e1, Option.bind_some, e2, Option.bind_some, e3, if_pos rfl]
        exact ih (i + 1) k s r h (by omega) (by omega) (by omega)
    · rw [if_neg k1]
      by_cases k2 : (rd_T32 l (i : Int)).f0 = 2
      · have e1 : pm_Drop.f ⟨s, r⟩ a = some ((s.f a).isSome, ⟨dropped s a, r⟩) := by unfold pm_Drop.f; rw [drop_f dm h.inv.base hw.1]; rfl
        have e2 : pr_Drop.f ⟨dropped s a, r⟩ a = some (decide (rRow r.A a ≥ 0), ⟨dropped s a, { r with A := rDrop r.A a }⟩) := if_pos hlA
        have e3 : decide (rRow r.A a ≥ 0) = (s.f a).isSome := by
          rw [h.row dm a]
          cases e : s.f a with
          | none => rfl
          | some x =>
            have := (h.inv.base.rng a x e).2
            exact decide_eq_true this.1
        rw [if_pos k2, e1, Option.bind_some, e2, Option.bind_some, e3, if_pos (by simp)]
        exact ih (i + 1) k _ _ (h.drop dm a) (by rw [dropped_c]; omega) (by omega) (by omega)
      · rw [if_neg k2]
        exact ih (i + 1) k s r h (by omega) (by omega) (by omega)
theorem rel_new {S B P : Int} (dm : Dim S B P) : Rel S B P (new S B P) (rNew S B P) := by
  have hbp := dm.bp
  refine ⟨new_inv2 dm, ?_, rfl, rfl, fun i h0 h1 => ?_⟩
  · show ((List.replicate (B * P).toNat (0 : Int)).length : Int) = B * P
    rw [List.length_replicate]
    omega
  · show rd (List.replicate (B * P).toNat (0 : Int)) i = 0
    unfold rd
    rw [List.getD_eq_getElem?_getD, List.getElem?_replicate]
    split <;> rfl
theorem plays {S B P : Int} (dm : Dim S B P) {l : List S32} (hl : WF l) : incunablelaw27_L2pPlays.f 10000 S B P l = some true := by
  have hbp := dm.bp
  have hw : wrap64 (B * P) = B * P := by
    obtain ⟨q, hq⟩ : ∃ q, q = B * P := ⟨_, rfl⟩
    rw [← hq] at hbp ⊢
    exact w64_small (by omega) (by omega)
  have j0t : ∀ (l : List S32) (x : St), incunablelaw27_L2pPlays.j0 10000 l 0 true S B P x = some true := fun l x => by
    rw [show (10000 : Nat) = 9999 + 1 from rfl]
    simp only [incunablelaw27_L2pPlays.j0]
    rw [if_pos trivial]
  unfold incunablelaw27_L2pPlays.f
  rw [awake_ok, Option.bind_some, if_pos rfl, new_f dm, Option.bind_some]
  by_cases h1 : S > 100
  · rw [if_pos h1]
    exact j0t _ _
  rw [if_neg h1, hw]
  by_cases h2 : B * P > 200
  · rw [if_pos h2]
    exact j0t _ _
  rw [if_neg h2]
  by_cases h3 : (l.length : Int) > 60
  · rw [decide_eq_true h3]
    exact j0t _ _
  rw [decide_eq_false h3, show (10000 : Nat) = 9999 + 1 from rfl]
  have e1 : pr_New.f (new S B P) S B P = some (0, ⟨new S B P, rNew S B P⟩) := if_pos ⟨by omega, by omega⟩
  simp only [incunablelaw27_L2pPlays.j0]
  rw [if_neg (by simp), e1, Option.bind_some, if_pos trivial]
  exact l0_loop dm (by omega) (by omega) hl (by omega) l.length 0 9999 _ _ (rel_new dm) (Nat.le_refl _) (by omega) (by omega)
end Go.Proofs.Ytjcmpfiklmpoaaa.Pq
