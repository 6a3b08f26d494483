/-
  What is packed is unpacked; a packed text's length is bounded; so many of one byte.
-/
import Derived.Test.YtdgdpeibagcnpaaUp
namespace Go.Proofs.Ytdgdpeibagcnpaa.Er
open Go.RowKit Go.Proofs.Ytdgdpeibagcnpaa.M Go.Proofs.YtdgdpeibagcnpaaW.PrintWords
theorem pieceL_true (l : List Int) (h : (pieceL l).2 = true) : l.take (pieceL l).1 = List.replicate (pieceL l).1 (rd l 0) := by
  unfold pieceL at h ⊢
  split
  · exact (run1_le (rd l 0) 130 l).2.2
  · rename_i c
    rw [if_neg c] at h
    cases h
theorem plain_stop : ∀ (m : Nat) (l : List Int), plainN m l < m → l.drop (plainN m l) = [] ∨ 3 ≤ sameL (l.drop (plainN m l))
  | 0, _, h => by omega
  | _ + 1, [], _ => .inl rfl
  | m + 1, x :: r, h => by
    simp only [plainN] at h ⊢
    by_cases c : 3 ≤ sameL (x :: r)
    · rw [if_pos c]
      exact .inr c
    · rw [if_neg c] at h ⊢
      rw [List.drop_succ_cons]
      exact plain_stop m r (by omega)
theorem piece_false {l : List Int} (h : (pieceL l).2 = false) : (pieceL l).1 = plainN 128 l := by
  unfold pieceL at h ⊢
  split
  · rename_i c
    rw [if_pos c] at h
    cases h
  · rfl
theorem piece_of_same {l : List Int} (h : 3 ≤ sameL l) : pieceL l = (sameL l, true) := by
  unfold pieceL
  rw [if_pos h]
theorem un_pack : ∀ (n : Nat) (l out : List Int) (m : Nat), l.length ≤ n → (packL l).length ≤ m → out.length + l.length ≤ 65536 → unp m (packL l) out = (out ++ l, 0) := by
  intro n
  induction n with
  | zero =>
    intro l out m hn hm ho
    have : l = [] := List.length_eq_zero_iff.mp (by omega)
    subst this
    rw [packL_nil, unp_nil, List.append_nil]
  | succ n ih =>
    intro l out m hn hm ho
    by_cases e : l = []
    · subst e
      rw [packL_nil, unp_nil, List.append_nil]
    · obtain ⟨p1, p2, p3, p4, p5⟩ := pieceL_le l e
      have ht := pieceL_true l
      rw [packL_cons l e] at hm ⊢
      generalize (pieceL l).1 = p at p1 p2 p3 p4 p5 ht hm ⊢
      generalize (pieceL l).2 = b at p4 p5 ht hm ⊢
      have hlt : (l.take p).length = p := by rw [List.length_take]; omega
      have hi := fun m' hm' => ih (l.drop p) (out ++ l.take p) m' (by rw [List.length_drop]; omega) hm' (by rw [List.length_append, hlt, List.length_drop]; omega)
      generalize packL (l.drop p) = q at hi hm ⊢
      cases b with
      | true =>
        have h3 := p5 rfl
        rw [encP_same hlt] at hm ⊢
        obtain ⟨m, rfl⟩ : ∃ j, m = j + 1 := ⟨m - 1, by simp only [List.length_append, List.length_cons] at hm; omega⟩
        have e1 : [(p : Int) + 125, rd (l.take p) 0] ++ q = ((p : Int) + 125) :: rd (l.take p) 0 :: q := rfl
        rw [e1]
        simp only [unp]
        have e2 : ((p : Int) + 125).toNat = p + 125 := by omega
        have e3 : rd (rd (l.take p) 0 :: q) 0 = rd (l.take p) 0 := rfl
        have e4 : (rd (l.take p) 0 :: q).drop 1 = q := rfl
        have e5 : rd (l.take p) 0 = rd l 0 := by
          have := rd_take0 (l := l) (a := 0) (s := p) (by omega) (by omega)
          simpa using this
        rw [if_neg (by omega), e2, if_neg (by rw [List.length_cons]; omega), if_neg (by omega), e3, e4, e5, Nat.add_sub_cancel, ← ht rfl, hi m (by simp only [List.length_append, List.length_cons, List.length_nil] at hm; omega), List.append_assoc, List.take_append_drop]
      | false =>
        have h4 := p4 rfl
        have e0 : encP (l.take p) false = ((p : Int) - 1) :: l.take p := by unfold encP; rw [if_neg (by simp), hlt]
        rw [e0] at hm ⊢
        rw [List.cons_append] at hm ⊢
        obtain ⟨m, rfl⟩ : ∃ j, m = j + 1 := ⟨m - 1, by rw [List.length_cons] at hm; omega⟩
        simp only [unp]
        have e2 : ((p : Int) - 1).toNat + 1 = p := by omega
        have e3 : (l.take p ++ q).take p = l.take p := by rw [List.take_append_of_le_length (by omega), List.take_of_length_le (by omega)]
        have e4 : (l.take p ++ q).drop p = q := by rw [List.drop_append_of_le_length (by omega), List.drop_eq_nil_of_le (by omega), List.nil_append]
        rw [if_pos (by omega), e2, if_neg (by rw [List.length_append, hlt]; omega), if_neg (by omega), e3, e4, hi m (by rw [List.length_cons, List.length_append] at hm; omega), List.append_assoc, List.take_append_drop]
theorem len_true {l : List Int} (e : l ≠ []) (h : (pieceL l).2 = true) : (packL l).length = 2 + (packL (l.drop (pieceL l).1)).length := by
  obtain ⟨p1, p2, p3, p4, p5⟩ := pieceL_le l e
  rw [packL_cons l e, h, encP_same (s := (pieceL l).1) (by rw [List.length_take]; omega), List.length_append]
  rfl
theorem len_false {l : List Int} (e : l ≠ []) (h : (pieceL l).2 = false) : (packL l).length = 1 + (pieceL l).1 + (packL (l.drop (pieceL l).1)).length := by
  obtain ⟨p1, p2, p3, p4, p5⟩ := pieceL_le l e
  rw [packL_cons l e, h, List.length_append]
  unfold encP
  rw [if_neg (by simp), List.length_cons, List.length_take]
  omega
theorem most_len : ∀ (n : Nat) (l : List Int), l.length ≤ n → (packL l).length ≤ l.length + (l.length + 127) / 128 := by
  intro n
  induction n using Nat.strongRecOn with
  | _ n ih =>
    intro l hn
    by_cases e : l = []
    · subst e; exact Nat.zero_le _
    · obtain ⟨p1, p2, p3, p4, p5⟩ := pieceL_le l e
      cases hb : (pieceL l).2 with
      | true =>
        have h3 := p5 hb
        have hi := ih (n - 1) (by omega) (l.drop (pieceL l).1) (by rw [List.length_drop]; omega)
        rw [len_true e hb]
        rw [List.length_drop] at hi
        omega
      | false =>
        have h4 := p4 hb
        rw [len_false e hb]
        by_cases c : (pieceL l).1 = 128
        · have hi := ih (n - 1) (by omega) (l.drop (pieceL l).1) (by rw [List.length_drop]; omega)
          rw [List.length_drop] at hi
          omega
        · have hs := plain_stop 128 l (by rw [← piece_false hb]; omega)
          rw [← piece_false hb] at hs
          rcases hs with hs | hs
          · rw [hs, packL_nil]
            have := congrArg List.length hs
            rw [List.length_drop, List.length_nil] at this
            rw [List.length_nil]
            omega
          · by_cases e2 : l.drop (pieceL l).1 = []
            · rw [e2, packL_nil]
              have := congrArg List.length e2
              rw [List.length_drop, List.length_nil] at this
              rw [List.length_nil]
              omega
            · have hq := piece_of_same hs
              obtain ⟨q1, q2, q3, q4, q5⟩ := pieceL_le _ e2
              have hb2 : (pieceL (l.drop (pieceL l).1)).2 = true := by rw [hq]
              have h5 := q5 hb2
              have hi := ih (n - 1) (by omega) ((l.drop (pieceL l).1).drop (pieceL (l.drop (pieceL l).1)).1) (by rw [List.length_drop, List.length_drop]; omega)
              rw [len_true e2 hb2]
              rw [List.length_drop, List.length_drop] at hi
              rw [List.length_drop] at q2
              omega
theorem run1_rep (c : Int) : ∀ (m k : Nat), run1 c m (List.replicate k c) = min k m
  | 0, k => by simp [run1]
  | m + 1, 0 => by simp [run1]
  | m + 1, k + 1 => by
    rw [List.replicate_succ]
    simp only [run1]
    rw [if_pos trivial, run1_rep c m k]
    omega
theorem same_rep (c : Int) (k : Nat) : sameL (List.replicate k c) = min k 130 := by
  unfold sameL
  cases k with
  | zero => rfl
  | succ k =>
    have : rd (List.replicate (k + 1) c) 0 = c := rfl
    rw [this]
    exact run1_rep c 130 (k + 1)
theorem rep_len (c : Int) : ∀ (n k : Nat), k ≤ n → (packL (List.replicate k c)).length = k / 130 * 2 + (if 3 ≤ k % 130 then 2 else (if 0 < k % 130 then k % 130 + 1 else 0)) := by
  intro n
  induction n with
  | zero =>
    intro k hk
    obtain rfl : k = 0 := by omega
    rfl
  | succ n ih =>
    intro k hk
    by_cases c3 : 3 ≤ k
    · have hs := same_rep c k
      have hne : List.replicate k c ≠ [] := by
        intro z
        have := congrArg List.length z
        rw [List.length_replicate] at this
        simp at this
        omega
      have hq := piece_of_same (l := List.replicate k c) (by rw [hs]; omega)
      rw [hs] at hq
      rw [len_true hne (by rw [hq]), hq, List.drop_replicate, ih (k - min k 130) (by omega)]
      by_cases c4 : k < 130
      · have e1 : k - min k 130 = 0 := by omega
        rw [e1, if_neg (by omega), if_neg (by omega), if_pos (by omega)]
        omega
      · have e1 : k - min k 130 = k - 130 := by omega
        have e2 : (k - 130) % 130 = k % 130 := by omega
        have e3 : (k - 130) / 130 + 1 = k / 130 := by omega
        rw [e1, e2, ← e3]
        omega
    · have hk3 : k = 0 ∨ k = 1 ∨ k = 2 := by omega
      have s1 : sameL [c] = 1 := same_rep c 1
      have s2 : sameL [c, c] = 2 := same_rep c 2
      rcases hk3 with rfl | rfl | rfl
      · rfl
      · have e1 : List.replicate 1 c = [c] := rfl
        have hp : pieceL [c] = (1, false) := by
          unfold pieceL
          rw [s1, if_neg (by decide)]
          simp only [plainN]
          rw [s1, if_neg (by decide)]
        rw [e1, len_false (by simp) (by rw [hp]), hp]
        rfl
      · have e1 : List.replicate 2 c = [c, c] := rfl
        have hp : pieceL [c, c] = (2, false) := by
          unfold pieceL
          rw [s2, if_neg (by decide)]
          simp only [plainN]
          rw [s2, s1, if_neg (by decide), if_neg (by decide)]
        rw [e1, len_false (by simp) (by rw [hp]), hp]
        rfl
end Go.Proofs.Ytdgdpeibagcnpaa.Er
