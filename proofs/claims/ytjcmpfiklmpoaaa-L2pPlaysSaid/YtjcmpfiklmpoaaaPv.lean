/-
  l2p's map in plain Lean: how many rows of a block are valid.
-/
import Derived.Test.YtjcmpfiklmpoaaaPl
namespace Go.Proofs.Ytjcmpfiklmpoaaa.Pl
open Go.RowKit Go.Proofs.Ytjcmpfiklmpoaaa.M
set_option linter.unusedVariables false
set_option linter.unusedSimpArgs false
theorem cnt_add (f : Int → Option Int) (m : Nat) : ∀ p : Nat, cnt f (m + p) = cnt f m + cnt (fun i => f (m + i)) p
  | 0 => rfl
  | p + 1 => by
    show cnt f (m + p) + (if (f ((m + p : Nat) : Int)).isSome = true then 1 else 0) = _
    rw [cnt_add f m p]
    simp only [cnt]
    rw [show ((m + p : Nat) : Int) = (m : Int) + (p : Int) by omega]
    omega
def cntB (g : Int → Option Int) (b P : Int) : Nat := cnt (fun i => g (b * P + i)) P.toNat
structure Inv2 (S B P : Int) (s : St) : Prop where
  base : Inv S B P s
  v : ∀ b : Int, 0 ≤ b → b < B → rdV s.V b = (cntB s.g b P : Int)
  ng : s.n = cnt s.g (B * P).toNat
theorem rdV_set {V : List Int} {i : Int} (h0 : 0 ≤ i) (h1 : i < (V.length : Int)) (x : Int) {j : Int} (hj : 0 ≤ j) : rdV (V.set i.toNat x) j = if j = i then x else rdV V j := by
  unfold rdV
  rw [List.getD_eq_getElem?_getD, List.getD_eq_getElem?_getD, List.getElem?_set]
  by_cases e : j = i
  · subst e
    rw [if_pos rfl, if_pos rfl, if_pos (by omega)]
    rfl
  · rw [if_neg (by omega), if_neg e]
theorem mod_parts {P r : Int} (hP : 1 ≤ P) : ∃ i, r = r / P * P + i ∧ 0 ≤ i ∧ i < P := by
  refine ⟨r % P, ?_, Int.emod_nonneg r (by omega), Int.emod_lt_of_pos r (by omega)⟩
  have := Int.mul_ediv_add_emod r P
  rw [Int.mul_comm] at this
  omega
theorem div_parts {P b i : Int} (hP : 1 ≤ P) (h0 : 0 ≤ i) (h1 : i < P) : (b * P + i) / P = b := by
  rw [Int.add_comm, Int.add_mul_ediv_right _ _ (by omega), Int.ediv_eq_zero_of_lt h0 h1]
  omega
theorem cntB_del {g : Int → Option Int} {b P r : Int} (hP : 1 ≤ P) (hr : (g r).isSome = true) : if r / P = b then cntB (del g r) b P + 1 = cntB g b P else cntB (del g r) b P = cntB g b P := by
  obtain ⟨i, e, i0, i1⟩ := mod_parts (r := r) hP
  by_cases h : r / P = b
  · rw [if_pos h]
    rw [h] at e
    have hf : (fun x => del g r (b * P + x)) = del (fun x => g (b * P + x)) i := by
      funext x
      unfold del
      generalize b * P = m at e
      by_cases hx : x = i
      · rw [if_pos (by omega), if_pos hx]
      · rw [if_neg (by omega), if_neg hx]
    unfold cntB
    rw [hf]
    exact cnt_del i0 (by show (g (b * P + i)).isSome = true; rw [← e]; exact hr) P.toNat (by omega)
  · rw [if_neg h]
    unfold cntB
    refine cnt_congr _ fun x x0 x1 => ?_
    show (del g r (b * P + x)).isSome = _
    rw [del_ne]
    intro e2
    exact h (by rw [← e2]; exact div_parts hP x0 (by omega))
theorem cntB_put {g : Int → Option Int} {b P r v : Int} (hP : 1 ≤ P) (hr : g r = none) : if r / P = b then cntB (put g r v) b P = cntB g b P + 1 else cntB (put g r v) b P = cntB g b P := by
  obtain ⟨i, e, i0, i1⟩ := mod_parts (r := r) hP
  by_cases h : r / P = b
  · rw [if_pos h]
    rw [h] at e
    have hf : (fun x => put g r v (b * P + x)) = put (fun x => g (b * P + x)) i v := by
      funext x
      unfold put
      generalize b * P = m at e
      by_cases hx : x = i
      · rw [if_pos (by omega), if_pos hx]
      · rw [if_neg (by omega), if_neg hx]
    unfold cntB
    rw [hf]
    exact cnt_put i0 (by show g (b * P + i) = none; rw [← e]; exact hr) P.toNat (by omega)
  · rw [if_neg h]
    unfold cntB
    refine cnt_congr _ fun x x0 x1 => ?_
    show (put g r v (b * P + x)).isSome = _
    rw [put_ne]
    intro e2
    exact h (by rw [← e2]; exact div_parts hP x0 (by omega))
theorem cntB_le (g : Int → Option Int) (b P : Int) : cntB g b P ≤ P.toNat := cnt_le _ _
theorem w64_small {x : Int} (h : -1000000 ≤ x) (h' : x ≤ 1000000) : wrap64 x = x := by unfold wrap64; omega
theorem gone_inv2 {S B P : Int} (d : Dim S B P) {s : St} (h : Inv2 S B P s) (a : Int) : Inv2 S B P (dropped s a) := by
  cases e : s.f a with
  | none =>
    have : dropped s a = s := by unfold dropped; rw [e]
    rw [this]
    exact h
  | some r =>
    have hd : dropped s a = gone s a r := by unfold dropped; rw [e]
    have ra := h.base.rng a r e
    have gr := (h.base.fg a r).mp e
    have hp := d.p
    have hq0 : 0 ≤ r / P := Int.ediv_nonneg ra.2.1 (by omega)
    have hq1 : r / P < B := div_lt hp.1 ra.2.2
    refine ⟨drop_inv d h.base a, fun b b0 b1 => ?_, ?_⟩
    · rw [hd]
      show rdV (s.V.set (r / s.pages).toNat (wrap64 (rdV s.V (r / s.pages) - 1))) b = (cntB (del s.g r) b P : Int)
      rw [h.base.pages, rdV_set hq0 (by rw [h.base.len]; exact hq1) _ b0]
      have hc := cntB_del (g := s.g) (b := b) (r := r) hp.1 (by rw [gr]; rfl)
      have hl := cntB_le s.g b P
      have hv := h.v b b0 b1
      by_cases eb : b = r / P
      · subst eb
        rw [if_pos rfl] at hc
        rw [if_pos rfl, hv, w64_small (by omega) (by omega)]
        omega
      · rw [if_neg (fun x => eb x.symm)] at hc
        rw [if_neg eb, hv, hc]
    · rw [hd]
      show s.n - 1 = cnt (del s.g r) (B * P).toNat
      have := cnt_del (f := s.g) ra.2.1 (by rw [gr]; rfl) (B * P).toNat (by omega)
      rw [h.ng]
      omega
theorem dropped_none {S B P : Int} {s : St} (h : Inv S B P s) {a b : Int} (hg : s.g b = none ∨ s.g b = some a) : (dropped s a).g b = none := by
  rw [dropped_g]
  by_cases e : s.f a = some b
  · rw [if_pos e]
  · rw [if_neg e]
    rcases hg with h1 | h1
    · exact h1
    · exact absurd ((h.fg a b).mpr h1) e
theorem set_inv2 {S B P : Int} (d : Dim S B P) {s : St} (h : Inv2 S B P s) {a b : Int} (hg : setGood S B P s a b) : Inv2 S B P (setTo s a b) := by
  have hd := gone_inv2 d h a
  have hn := dropped_none h.base hg.2.2
  obtain ⟨ha, hb, hgb⟩ := hg
  have hp := d.p
  have hq0 : 0 ≤ b / P := Int.ediv_nonneg hb.1 (by omega)
  have hq1 : b / P < B := div_lt hp.1 hb.2
  refine ⟨set_inv d h.base ⟨ha, hb, hgb⟩, fun q q0 q1 => ?_, ?_⟩
  · show rdV ((dropped s a).V.set (b / (dropped s a).pages).toNat (wrap64 (rdV (dropped s a).V (b / (dropped s a).pages) + 1))) q = (cntB (put (dropped s a).g b a) q P : Int)
    rw [hd.base.pages, rdV_set hq0 (by rw [hd.base.len]; exact hq1) _ q0]
    have hc := cntB_put (g := (dropped s a).g) (b := q) (r := b) (v := a) hp.1 hn
    have hl := cntB_le (dropped s a).g q P
    have hv := hd.v q q0 q1
    by_cases eb : q = b / P
    · subst eb
      rw [if_pos rfl] at hc
      rw [if_pos rfl, hv, w64_small (by omega) (by omega)]
      omega
    · rw [if_neg (fun x => eb x.symm)] at hc
      rw [if_neg eb, hv, hc]
  · show (dropped s a).n + 1 = cnt (put (dropped s a).g b a) (B * P).toNat
    rw [hd.ng, cnt_put hb.1 hn (B * P).toNat (by omega)]
theorem new_inv2 {S B P : Int} (d : Dim S B P) : Inv2 S B P (new S B P) := by
  refine ⟨new_inv d, fun b b0 b1 => ?_, (cnt_none _).symm⟩
  show rdV (List.replicate B.toNat 0) b = ((cnt (fun _ => none) P.toNat : Nat) : Int)
  rw [cnt_none]
  unfold rdV
  rw [List.getD_eq_getElem?_getD, List.getElem?_replicate]
  split <;> rfl
theorem valid_f (s : St) (b : Int) : l2p_Map_Valid.f s b = some (if b < 0 then 0 else (if (s.V.length : Int) ≤ b then 0 else rdV s.V b), s) := rfl
/-- a block's valid rows, from place i on -/
def rowsL (s : St) (b P : Int) : Nat → Int → List Int
  | 0, _ => []
  | d + 1, i => if (s.g (b * P + i)).isSome = true then (b * P + i) :: rowsL s b P d (i + 1) else rowsL s b P d (i + 1)
theorem rows_l0 {S B P : Int} (dm : Dim S B P) {s : St} (h : Inv S B P s) {b : Int} (b0 : 0 ≤ b) (b1 : b < B) : ∀ (d i k : Nat) (out : List Int), (i : Int) + d = P → d < k → out.length + d ≤ 1000 → l2p_Map_Rows.l0 k b out (i : Int) s = some (out ++ rowsL s b P d i, s) := by
  have hp := dm.p
  have hb := dm.b
  have hbp : 0 ≤ b * P ∧ b * P ≤ 16384 := ⟨Int.mul_nonneg b0 (by omega), Int.le_trans (Int.mul_le_mul_of_nonneg_right (show b ≤ 256 by omega) (by omega)) (by omega)⟩
  intro d
  induction d with
  | zero =>
    intro i k out hi hk ho
    obtain ⟨k, rfl⟩ : ∃ j, k = j + 1 := ⟨k - 1, by omega⟩
    simp only [l2p_Map_Rows.l0, rowsL]
    rw [if_neg (by rw [h.pages]; omega), List.append_nil]
  | succ d ih =>
    intro i k out hi hk ho
    obtain ⟨k, rfl⟩ : ∃ j, k = j + 1 := ⟨k - 1, by omega⟩
    have e1 : wrap64 (wrap64 (b * s.pages) + (i : Int)) = b * P + i := by
      rw [h.pages]
      generalize b * P = m at hbp
      rw [w64_small (x := m) (by omega) (by omega), w64_small (by omega) (by omega)]
    have e2 : wrap64 ((i : Int) + 1) = ((i + 1 : Nat) : Int) := by rw [w64_small (by omega) (by omega)]; omega
    simp only [l2p_Map_Rows.l0, rowsL]
    rw [if_pos (by rw [h.pages]; omega), e1, e2]
    by_cases c : (s.g (b * P + i)).isSome = true
    · rw [if_pos c, if_pos c, if_pos (by omega), ih (i + 1) k _ (by omega) (by omega) (by rw [List.length_append]; simp only [List.length_cons, List.length_nil]; omega), List.append_assoc]
      rfl
    · rw [if_neg c, if_neg c, ih (i + 1) k _ (by omega) (by omega) (by omega)]
      rfl
theorem rowsL_mem {s : St} {b P : Int} : ∀ (d : Nat) (i : Int), ∀ x ∈ rowsL s b P d i, ∃ j, x = b * P + j ∧ i ≤ j ∧ j < i + d ∧ (s.g x).isSome = true
  | 0, _ => fun x hx => by cases hx
  | d + 1, i => fun x hx => by
    simp only [rowsL] at hx
    by_cases c : (s.g (b * P + i)).isSome = true
    · rw [if_pos c] at hx
      rcases List.mem_cons.mp hx with rfl | hx
      · exact ⟨i, rfl, by omega, by omega, c⟩
      · obtain ⟨j, e, h1, h2, h3⟩ := rowsL_mem d (i + 1) x hx
        exact ⟨j, e, by omega, by omega, h3⟩
    · rw [if_neg c] at hx
      obtain ⟨j, e, h1, h2, h3⟩ := rowsL_mem d (i + 1) x hx
      exact ⟨j, e, by omega, by omega, h3⟩
theorem rowsL_len {s : St} {b P : Int} : ∀ (d : Nat) (i : Int), (rowsL s b P d i).length = cnt (fun j => s.g (b * P + (i + j))) d
  | 0, _ => rfl
  | d + 1, i => by
    have hs := cnt_add (fun j => s.g (b * P + (i + j))) 1 d
    rw [Nat.add_comm 1 d] at hs
    rw [hs]
    have hc : cnt (fun i_1 => (fun j => s.g (b * P + (i + j))) (((1 : Nat) : Int) + i_1)) d = cnt (fun j => s.g (b * P + (i + 1 + j))) d := cnt_congr _ fun x _ _ => by
      show (s.g (b * P + (i + (((1 : Nat) : Int) + x)))).isSome = (s.g (b * P + (i + 1 + x))).isSome
      rw [show i + (((1 : Nat) : Int) + x) = i + 1 + x by omega]
    rw [hc, ← rowsL_len d (i + 1)]
    have e0 : s.g (b * P + (i + ((0 : Nat) : Int))) = s.g (b * P + i) := by rw [show i + ((0 : Nat) : Int) = i by omega]
    simp only [rowsL, cnt]
    show _ = (0 + (if (s.g (b * P + (i + ((0 : Nat) : Int)))).isSome = true then 1 else 0)) + (rowsL s b P d (i + 1)).length
    rw [e0]
    split
    · simp only [List.length_cons]; omega
    · omega
theorem rows_f {S B P : Int} (dm : Dim S B P) {s : St} (h : Inv2 S B P s) {b : Int} (b0 : 0 ≤ b) (b1 : b < B) {k : Nat} (hk : P.toNat < k) : l2p_Map_Rows.f k s b = some (rowsL s b P P.toNat 0, s) := by
  have hp := dm.p
  unfold l2p_Map_Rows.f
  have ev : (if b < 0 then 0 else (if (s.V.length : Int) ≤ b then 0 else rdV s.V b)) = (cntB s.g b P : Int) := by rw [if_neg (by omega), if_neg (by rw [h.base.len]; omega), h.v b b0 b1]
  rw [ev]
  have hl : (rowsL s b P P.toNat 0).length = cntB s.g b P := by
    rw [rowsL_len]
    exact cnt_congr _ fun x _ _ => by rw [show (0 : Int) + x = x by omega]
  by_cases c : (cntB s.g b P : Int) > 0
  · rw [if_pos c]
    have := rows_l0 dm h.base b0 b1 P.toNat 0 k [] (by omega) hk (by simp only [List.length_nil]; omega)
    exact this
  · rw [if_neg c, List.eq_nil_of_length_eq_zero (by rw [hl]; omega : (rowsL s b P P.toNat 0).length = 0)]
end Go.Proofs.Ytjcmpfiklmpoaaa.Pl
