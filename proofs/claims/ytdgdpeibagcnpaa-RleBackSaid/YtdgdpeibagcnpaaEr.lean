/-
  The document's functions for layer 46, in plain Lean: its Pack is packL; Same; Most.
-/
import Derived.Test.YtdgdpeibagcnpaaMx2
namespace Go.Proofs.Ytdgdpeibagcnpaa.Er
open Go.RowKit Go.Proofs.Ytdgdpeibagcnpaa.M Go.Proofs.YtdgdpeibagcnpaaW.PrintWords
theorem wn {a b : Nat} (h : a + b ≤ 9223372036854775807) : wrap64 ((a : Int) + (b : Int)) = ((a + b : Nat) : Int) := by unfold wrap64; omega
theorem same_l (l : List Int) (hl : l.length ≤ 1000000) (r : Nat) : ∀ k i : Nat, i + r = l.length → r < k → ref01_Same.l0 k l l (i : Int) = some true := by
  induction r with
  | zero =>
    intro k i hi hk
    obtain ⟨k, rfl⟩ : ∃ j, k = j + 1 := ⟨k - 1, by omega⟩
    simp only [ref01_Same.l0]
    rw [if_neg (by omega)]
  | succ r ih =>
    intro k i hi hk
    obtain ⟨k, rfl⟩ : ∃ j, k = j + 1 := ⟨k - 1, by omega⟩
    simp only [ref01_Same.l0]
    rw [if_pos (by omega), if_pos (by omega), if_pos (by omega), if_pos trivial, wrap_succ (by omega)]
    exact ih k (i + 1) (by omega) (by omega)
theorem same_eq (l : List Int) (hl : l.length ≤ 1000000) {k : Nat} (hk : l.length < k) : ref01_Same.f k l l = some true := by
  unfold ref01_Same.f
  rw [if_pos rfl]
  exact same_l l hl l.length k 0 (by omega) hk
theorem rd_drop {l : List Int} {a i : Nat} (h : a + i < l.length) : rd l ((a + i : Nat) : Int) = rd (l.drop a) (i : Int) := by
  rw [rd_nat h, rd_nat (l := l.drop a) (i := i) (by rw [List.length_drop]; omega), List.getElem_drop]
theorem run_l0 (l : List Int) (hl : l.length ≤ 1000000) (a : Nat) : ∀ (m i k : Nat), i + m = 130 → m < k → a + i ≤ l.length → ref46_run.l0 k l (a : Int) (i : Int) = some ((i + run1 (rd (l.drop a) 0) m ((l.drop a).drop i) : Nat) : Int)
  | 0, i, k, hi, hk, hl' => by
    obtain ⟨k, rfl⟩ : ∃ j, k = j + 1 := ⟨k - 1, by omega⟩
    simp only [ref46_run.l0, run1, Nat.add_zero]
    split
    · rw [if_neg (by omega)]
    · rfl
  | m + 1, i, k, hi, hk, hl' => by
    obtain ⟨k, rfl⟩ : ∃ j, k = j + 1 := ⟨k - 1, by omega⟩
    simp only [ref46_run.l0]
    rw [wn (by omega)]
    by_cases e : a + i = l.length
    · have hz : (l.drop a).drop i = [] := by rw [List.drop_drop]; exact List.drop_eq_nil_of_le (by omega)
      rw [if_neg (by omega), hz]
      rfl
    · have hlt : i < (l.drop a).length := by rw [List.length_drop]; omega
      have h0 : rd l (a : Int) = rd (l.drop a) 0 := rd_drop (i := 0) (by omega)
      rw [if_pos (by omega), if_pos (by omega), if_pos (by omega), if_pos (by omega), if_pos (by omega), rd_drop (by omega), h0, List.drop_eq_getElem_cons hlt, rd_nat hlt]
      simp only [run1]
      by_cases c : (l.drop a)[i] = rd (l.drop a) 0
      · rw [if_pos c, if_pos c, wrap_succ (by omega), run_l0 l hl a m (i + 1) k (by omega) (by omega) (by omega)]
        congr 2
        omega
      · rw [if_neg c, if_neg c]; rfl
theorem run_f (l : List Int) (hl : l.length ≤ 1000000) (a : Nat) (ha : a ≤ l.length) {k : Nat} (hk : 131 ≤ k) : ref46_run.f k l (a : Int) = some ((sameL (l.drop a) : Nat) : Int) := by
  have h := run_l0 l hl a 130 0 k (by omega) (by omega) (by omega)
  unfold ref46_run.f sameL
  simpa using h
theorem fin {B : Nat} (hB : 4000000 ≤ B) {l out : List Int} {a n k : Nat} (hl : l.length ≤ 1000000) (ho : out.length ≤ 3000000) (h1 : 1 ≤ n) (h2 : n ≤ 128) (h3 : a + n ≤ l.length)
    (H : ∀ out' : List Int, out'.length ≤ out.length + 1 + n → ref46_Pack.l0 k l out' ((a + n : Nat) : Int) = some (out' ++ packL (l.drop (a + n)))) :
    (if out.length < B then ((some (out ++ [(wrap64 ((n : Int) - 1)) % 256] : List Int)).bind fun y137 => (if 0 ≤ (a : Int) then (if (a : Int) ≤ (wrap64 ((a : Int) + (n : Int))) then (if (wrap64 ((a : Int) + (n : Int))) ≤ (l.length : Int) then (if y137.length + ((l.take ((wrap64 ((a : Int) + (n : Int))) : Int).toNat).drop (a : Int).toNat).length < B then (ref46_Pack.l0 k l (y137 ++ ((l.take ((wrap64 ((a : Int) + (n : Int))) : Int).toNat).drop (a : Int).toNat)) (wrap64 ((a : Int) + (n : Int)))) else (none)) else (none)) else (none)) else (none))) else (none)) = some (out ++ (encP ((l.drop a).take n) false ++ packL (l.drop (a + n)))) := by
  have hw0 : wrap64 ((n : Int) - 1) = (n : Int) - 1 := by unfold wrap64; omega
  have hw : (wrap64 ((n : Int) - 1)) % 256 = (n : Int) - 1 := by rw [hw0]; omega
  have hlt : ((l.drop a).take n).length = n := by rw [List.length_take, List.length_drop]; omega
  have ht : (l.take (a + n)).drop a = (l.drop a).take n := by rw [List.drop_take]; congr 1; omega
  rw [wn (by omega), hw]
  simp only [Option.bind_some, Int.toNat_natCast]
  rw [ht, if_pos (by omega), if_pos (by omega), if_pos (by omega), if_pos (by omega), if_pos (by rw [List.length_append, hlt]; show out.length + 1 + n < B; omega), H _ (by rw [List.length_append, List.length_append, hlt]; show out.length + 1 + n ≤ _; omega)]
  unfold encP
  rw [if_neg (by simp), hlt]
  simp
theorem l1_g (S : List Int → Nat) (P : Nat → List Int → Nat) (hP0 : ∀ x, P 0 x = 0) (hPn : ∀ m, P (m + 1) [] = 0) (hPc : ∀ m x r, 3 ≤ S (x :: r) → P (m + 1) (x :: r) = 0) (hPs : ∀ m x r, ¬ 3 ≤ S (x :: r) → P (m + 1) (x :: r) = P m r + 1)
    {l out : List Int} {a k0 N : Nat} (hS : ∀ b k, b ≤ l.length → N ≤ k → ref46_run.f k l (b : Int) = some ((S (l.drop b) : Nat) : Int)) (hl : l.length ≤ 1000000) (ho : out.length ≤ 3000000) (hs : ¬ 3 ≤ S (l.drop a)) (ha : a < l.length)
    (H : ∀ n, 1 ≤ n → n ≤ 128 → a + n ≤ l.length → ∀ k, k0 ≤ k → ∀ out' : List Int, out'.length ≤ out.length + 1 + n → ref46_Pack.l0 k l out' ((a + n : Nat) : Int) = some (out' ++ packL (l.drop (a + n)))) :
    ∀ (m j k : Nat), j + m = 128 → k0 + m + N < k → a + j ≤ l.length → ref46_Pack.l1 k l out (a : Int) (j : Int) = some (out ++ (encP ((l.drop a).take (j + P m (l.drop (a + j)))) false ++ packL (l.drop (a + (j + P m (l.drop (a + j))))))) := by
  intro m
  induction m with
  | zero =>
    intro j k hj hk hjl
    obtain ⟨k, rfl⟩ : ∃ i, k = i + 1 := ⟨k - 1, by omega⟩
    simp only [ref46_Pack.l1]
    rw [hP0, Nat.add_zero]
    generalize hB : (140737488355328 : Nat) = B
    have hf := fin (B := B) (by omega) (l := l) (out := out) (a := a) (n := j) (k := k) hl ho (by omega) (by omega) hjl (fun o h => H j (by omega) (by omega) hjl k (by omega) o h)
    by_cases c : (wrap64 ((a : Int) + (j : Int))) < (l.length : Int)
    · rw [if_pos c, if_neg (by omega)]; exact hf
    · rw [if_neg c]; exact hf
  | succ m ih =>
    intro j k hj hk hjl
    obtain ⟨k, rfl⟩ : ∃ i, k = i + 1 := ⟨k - 1, by omega⟩
    simp only [ref46_Pack.l1]
    generalize hB : (140737488355328 : Nat) = B
    by_cases e : a + j = l.length
    · have hp : P (m + 1) (l.drop (a + j)) = 0 := by rw [List.drop_eq_nil_of_le (by omega)]; exact hPn m
      have hf := fin (B := B) (by omega) (l := l) (out := out) (a := a) (n := j) (k := k) hl ho (by omega) (by omega) hjl (fun o h => H j (by omega) (by omega) hjl k (by omega) o h)
      rw [hp, Nat.add_zero, if_neg (by rw [wn (by omega)]; omega)]
      exact hf
    · have hlt : a + j < l.length := by omega
      rw [if_pos (by rw [wn (by omega)]; omega), if_pos (by omega)]
      have hrun : ref46_run.f k l (wrap64 ((a : Int) + (j : Int))) = some ((S (l.drop (a + j)) : Nat) : Int) := by
        rw [wn (by omega)]
        exact hS (a + j) k hjl (by omega)
      rw [hrun]
      rw [Option.bind_some]
      have hd : l.drop (a + j) = l[a + j] :: l.drop (a + j + 1) := List.drop_eq_getElem_cons hlt
      by_cases c : 3 ≤ S (l.drop (a + j))
      · have hp : P (m + 1) (l.drop (a + j)) = 0 := by rw [hd] at c ⊢; exact hPc m _ _ c
        have hj1 : 1 ≤ j := by
          rcases Nat.eq_zero_or_pos j with z | z
          · subst z; rw [Nat.add_zero] at c; exact absurd c hs
          · exact z
        have hf := fin (B := B) (by omega) (l := l) (out := out) (a := a) (n := j) (k := k) hl ho hj1 (by omega) hjl (fun o h => H j hj1 (by omega) hjl k (by omega) o h)
        rw [hp, Nat.add_zero, if_neg (by omega)]
        exact hf
      · have hp : P (m + 1) (l.drop (a + j)) = P m (l.drop (a + (j + 1))) + 1 := by
          rw [hd] at c ⊢
          rw [hPs m _ _ c, Nat.add_assoc]
        subst hB
        rw [if_pos (by omega), wrap_succ (by omega), ih (j + 1) k (by omega) (by omega) (by omega), hp]
        rw [show j + (P m (l.drop (a + (j + 1))) + 1) = j + 1 + P m (l.drop (a + (j + 1))) from by omega]
theorem plainN_cut (m : Nat) (x : Int) (r : List Int) (h : 3 ≤ sameL (x :: r)) : plainN (m + 1) (x :: r) = 0 := by simp only [plainN]; rw [if_pos h]
theorem plainN_on (m : Nat) (x : Int) (r : List Int) (h : ¬ 3 ≤ sameL (x :: r)) : plainN (m + 1) (x :: r) = plainN m r + 1 := by simp only [plainN]; rw [if_neg h]
theorem l1_f {l out : List Int} {a k0 : Nat} (hl : l.length ≤ 1000000) (ho : out.length ≤ 3000000) (hs : ¬ 3 ≤ sameL (l.drop a)) (ha : a < l.length)
    (H : ∀ n, 1 ≤ n → n ≤ 128 → a + n ≤ l.length → ∀ k, k0 ≤ k → ∀ out' : List Int, out'.length ≤ out.length + 1 + n → ref46_Pack.l0 k l out' ((a + n : Nat) : Int) = some (out' ++ packL (l.drop (a + n)))) :
    ∀ (m j k : Nat), j + m = 128 → k0 + m + 131 < k → a + j ≤ l.length → ref46_Pack.l1 k l out (a : Int) (j : Int) = some (out ++ (encP ((l.drop a).take (j + plainN m (l.drop (a + j)))) false ++ packL (l.drop (a + (j + plainN m (l.drop (a + j))))))) :=
  l1_g sameL plainN (fun _ => rfl) (fun _ => rfl) plainN_cut plainN_on (fun b _ hb hk => run_f l hl b hb hk) hl ho hs ha H
theorem rd_take0 {l : List Int} {a s : Nat} (hs : 0 < s) (ha : a < l.length) : rd ((l.drop a).take s) 0 = rd l (a : Int) := by
  have h00 := rd_nat (l := (l.drop a).take s) (i := 0) (by rw [List.length_take, List.length_drop]; omega)
  rw [show ((0 : Nat) : Int) = 0 from rfl] at h00
  rw [h00, rd_nat (i := a) ha, List.getElem_take, List.getElem_drop]
  rfl
theorem encP_same {p : List Int} {s : Nat} (h : p.length = s) : encP p true = [(s : Int) + 125, rd p 0] := by
  unfold encP
  rw [if_pos rfl, h]
theorem pack_same {B : Nat} (hB : 4000000 ≤ B) {l out : List Int} {a s k : Nat} (L : Option (List Int)) (hl : l.length ≤ 1000000) (ho : out.length ≤ 3000000) (ha : a < l.length) (h3 : 3 ≤ s) (h4 : s ≤ 130) (h5 : a + s ≤ l.length)
    (H : ref46_Pack.l0 k l (out ++ [(s : Int) + 125, rd l (a : Int)]) ((a + s : Nat) : Int) = some (out ++ [(s : Int) + 125, rd l (a : Int)] ++ packL (l.drop (a + s)))) :
    (if (s : Int) ≥ 3 then (if 0 ≤ (a : Int) then (if out.length + [(wrap64 ((s : Int) + 125)) % 256, rd l (a : Int)].length < B then (ref46_Pack.l0 k l (out ++ [(wrap64 ((s : Int) + 125)) % 256, rd l (a : Int)]) (wrap64 ((a : Int) + (s : Int)))) else (none)) else (none)) else L) = some (out ++ (encP ((l.drop a).take s) true ++ packL ((l.drop a).drop s))) := by
  have hw0 : wrap64 ((s : Int) + 125) = (s : Int) + 125 := by unfold wrap64; omega
  have hw : (wrap64 ((s : Int) + 125)) % 256 = (s : Int) + 125 := by rw [hw0]; omega
  have hlt : ((l.drop a).take s).length = s := by rw [List.length_take, List.length_drop]; omega
  have hb : out.length + [(s : Int) + 125, rd l (a : Int)].length < B := by simp only [List.length_cons, List.length_nil]; omega
  rw [if_pos (by omega), if_pos (by omega), hw, if_pos hb, wn (by omega), H, encP_same hlt, rd_take0 (by omega) ha, List.drop_drop, List.append_assoc]
set_option maxRecDepth 10000 in
theorem pack_l0 (l : List Int) (hl : l.length ≤ 1000000) : ∀ (r a k : Nat) (out : List Int), l.length - a ≤ r → a ≤ l.length → r * 300 + 300 ≤ k → out.length + 2 * (l.length - a) ≤ 3000000 → ref46_Pack.l0 k l out (a : Int) = some (out ++ packL (l.drop a)) := by
  intro r
  induction r with
  | zero =>
    intro a k out hr ha hk ho
    obtain ⟨k, rfl⟩ : ∃ i, k = i + 1 := ⟨k - 1, by omega⟩
    simp only [ref46_Pack.l0]
    rw [if_neg (by omega), List.drop_eq_nil_of_le (by omega), packL_nil, List.append_nil]
  | succ r ih =>
    intro a k out hr ha hk ho
    obtain ⟨k, rfl⟩ : ∃ i, k = i + 1 := ⟨k - 1, by omega⟩
    simp only [ref46_Pack.l0]
    by_cases e : a = l.length
    · rw [if_neg (by omega), List.drop_eq_nil_of_le (by omega), packL_nil, List.append_nil]
    · have hne : l.drop a ≠ [] := by
        intro z
        have := congrArg List.length z
        rw [List.length_drop] at this
        simp at this
        omega
      obtain ⟨p1, p2, p3, p4, p5⟩ := pieceL_le _ hne
      rw [List.length_drop] at p2
      rw [if_pos (by omega), run_f l hl a ha (by omega)]
      rw [Option.bind_some, packL_cons _ hne]
      by_cases c : 3 ≤ sameL (l.drop a)
      · have e1 : pieceL (l.drop a) = (sameL (l.drop a), true) := by unfold pieceL; rw [if_pos c]
        rw [e1] at p1 p2 p3 ⊢
        dsimp only at p1 p2 p3 ⊢
        rw [Option.bind_some]
        generalize sameL (l.drop a) = s at c p1 p2 p3 ⊢
        have hlb : (out ++ [(s : Int) + 125, rd l (a : Int)]).length + 2 * (l.length - (a + s)) ≤ 3000000 := by
          rw [List.length_append]
          simp only [List.length_cons, List.length_nil]
          omega
        have hi := ih (a + s) k _ (by clear hlb; omega) (by clear hlb; omega) (by clear hlb; omega) hlb
        generalize hB : (140737488355328 : Nat) = B
        exact pack_same (B := B) (by omega) _ hl (by omega) (by omega) c p3 (by omega) hi
      · have e1 : pieceL (l.drop a) = (plainN 128 (l.drop a), false) := by unfold pieceL; rw [if_neg c]
        rw [e1] at p1 p2 p3 ⊢
        dsimp only at p1 p2 p3 ⊢
        rw [if_neg (by omega)]
        have h := l1_f (l := l) (out := out) (a := a) (k0 := r * 300 + 300) hl (by omega) c (by omega)
          (fun n h1 h2 h3 k hk out' ho' => ih (a + n) k out' (by omega) h3 hk (by omega)) 128 0 k (by omega) (by omega) (by omega)
        simp only [Nat.zero_add, Nat.add_zero] at h
        rw [List.drop_drop]
        exact h
end Go.Proofs.Ytdgdpeibagcnpaa.Er
