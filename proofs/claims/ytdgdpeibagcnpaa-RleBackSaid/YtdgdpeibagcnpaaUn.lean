/-
  What a packed text stands for, in plain Lean: the layer's Unpack and the document's Unpack both answer unp.
-/
import Derived.Test.YtdgdpeibagcnpaaMx4
import Derived.Test.YtdgdpeibagcnpaaEr
namespace Go.Proofs.Ytdgdpeibagcnpaa.Er
open Go.RowKit Go.Proofs.Ytdgdpeibagcnpaa.M Go.Proofs.YtdgdpeibagcnpaaW.PrintWords
def Byt (l : List Int) : Prop := ∀ x ∈ l, 0 ≤ x ∧ x ≤ 255
def unp : Nat → List Int → List Int → List Int × Int
  | 0, _, out => (out, 0)
  | _ + 1, [], out => (out, 0)
  | m + 1, x :: r, out =>
    if x < 128 then (if r.length < x.toNat + 1 then ([], 10) else (if 65536 < out.length + x.toNat + 1 then ([], 3) else unp m (r.drop (x.toNat + 1)) (out ++ r.take (x.toNat + 1))))
    else (if r.length < 1 then ([], 10) else (if 65536 + 125 < out.length + x.toNat then ([], 3) else unp m (r.drop 1) (out ++ List.replicate (x.toNat - 125) (rd r 0))))
theorem unp_nil (m : Nat) (out : List Int) : unp m [] out = (out, 0) := by cases m <;> rfl
theorem w64 {x : Int} (h : -1000000 ≤ x) (h' : x ≤ 1000000) : wrap64 x = x := by unfold wrap64; omega
theorem rep_one {y : Int} {n : Nat} (h1 : 128 ≤ n) (h2 : n ≤ 255) : bytes_Repeat.f [y] ((n : Int) - 125) = some (List.replicate (n - 125) y) := by
  unfold bytes_Repeat.f
  rw [if_pos ⟨rfl, by omega, by omega⟩]
  have e : ((n : Int) - 125).toNat = n - 125 := by omega
  rw [e]
  rfl
theorem un_l0 : ∀ (m : Nat) (l out : List Int) (k : Nat), l.length ≤ m → 2 * m + 2 ≤ k → Byt l → l.length ≤ 200000 → out.length ≤ 65536 → Unpack.l0 k l out = some (unp m l out) := by
  intro m
  induction m with
  | zero =>
    intro l out k hm hk hb hl ho
    have : l = [] := List.length_eq_zero_iff.mp (by omega)
    subst this
    obtain ⟨k, rfl⟩ : ∃ j, k = j + 1 := ⟨k - 1, by omega⟩
    simp only [Unpack.l0]
    rw [if_neg (by simp)]
    rfl
  | succ m ih =>
    intro l out k hm hk hb hl ho
    cases l with
    | nil =>
      obtain ⟨k, rfl⟩ : ∃ j, k = j + 1 := ⟨k - 1, by omega⟩
      simp only [Unpack.l0]
      rw [if_neg (by simp)]
      rfl
    | cons x r =>
      obtain ⟨k, rfl⟩ : ∃ j, k = j + 2 := ⟨k - 2, by omega⟩
      obtain ⟨hx0, hx1⟩ := hb x (List.mem_cons_self ..)
      obtain ⟨n, rfl⟩ : ∃ n : Nat, x = (n : Int) := ⟨x.toNat, by omega⟩
      have h0 : rd ((n : Int) :: r) 0 = n := rfl
      have hlen : ((((n : Int) :: r).length : Nat) : Int) = (r.length : Int) + 1 := by rw [List.length_cons]; omega
      have hrl : r.length ≤ m := by rw [List.length_cons] at hm; omega
      have hrl2 : r.length ≤ 199999 := by rw [List.length_cons] at hl; omega
      have hbr : Byt r := fun z hz => hb z (List.mem_cons_of_mem _ hz)
      clear hm hl
      simp only [Unpack.l0]
      rw [hlen, if_pos (by omega), if_pos (by omega), h0, w64 (x := (n : Int)) (by omega) (by omega)]
      by_cases c : (n : Int) ≥ 128
      · rw [if_pos c, w64 (by omega) (by omega)]
        simp only [Unpack.j1, unp]
        rw [hlen, if_neg (show ¬ (n : Int) < 128 by omega), Int.toNat_natCast]
        cases r with
        | nil => rw [if_pos (by simp), if_pos (by simp)]
        | cons y r =>
          rw [if_neg (show ¬ (((y :: r).length : Nat) : Int) + 1 < 2 by rw [List.length_cons]; omega), if_neg (show ¬ (y :: r).length < 1 by rw [List.length_cons]; omega), w64 (by omega) (by omega)]
          by_cases d : 65536 + 125 < out.length + n
          · rw [if_pos (show (out.length : Int) + ((n : Int) - 125) > 65536 by omega), if_pos d]
          · rw [if_neg (show ¬ (out.length : Int) + ((n : Int) - 125) > 65536 by omega), if_neg d, if_pos trivial, if_pos (by omega), h0, if_pos c, if_pos (by decide), if_pos (by rw [List.length_cons]; omega)]
            have e1 : (((n : Int) :: y :: r).take 2).drop 1 = [y] := rfl
            have e2 : rd (y :: r) 0 = y := rfl
            have e3 : ((n : Int) :: y :: r).drop (2 : Int).toNat = r := rfl
            have e4 : (y :: r).drop 1 = r := rfl
            rw [e1, rep_one (by omega) (by omega), Option.bind_some, List.length_replicate, if_pos (by omega), if_pos (by omega), if_pos (by rw [List.length_cons]; omega), e2, e3, e4]
            rw [List.length_cons] at hrl hrl2
            exact ih r _ k (by omega) (by omega) (fun z hz => hbr z (List.mem_cons_of_mem _ hz)) (by omega) (by rw [List.length_append, List.length_replicate]; omega)
      · rw [if_neg c, w64 (by omega) (by omega), w64 (by omega) (by omega)]
        simp only [Unpack.j1, unp]
        rw [hlen, if_pos (show (n : Int) < 128 by omega), Int.toNat_natCast]
        by_cases d : r.length < n + 1
        · rw [if_pos (show (r.length : Int) + 1 < (n : Int) + 2 by omega), if_pos d]
        · rw [if_neg (show ¬ (r.length : Int) + 1 < (n : Int) + 2 by omega), if_neg d, w64 (by omega) (by omega)]
          by_cases d2 : 65536 < out.length + n + 1
          · rw [if_pos (show (out.length : Int) + ((n : Int) + 1) > 65536 by omega), if_pos d2]
          · rw [if_neg (show ¬ (out.length : Int) + ((n : Int) + 1) > 65536 by omega), if_neg d2]
            have t : ((n : Int) + 2).toNat = n + 1 + 1 := by omega
            have e1 : (((n : Int) :: r).take ((n : Int) + 2).toNat).drop 1 = r.take (n + 1) := by rw [t]; rfl
            have e2 : ((n : Int) :: r).drop ((n : Int) + 2).toNat = r.drop (n + 1) := by rw [t]; rfl
            have e3 : (r.take (n + 1)).length = n + 1 := by rw [List.length_take]; omega
            have hi := ih (r.drop (n + 1)) (out ++ r.take (n + 1)) k (by rw [List.length_drop]; omega) (by omega) (fun z hz => hbr z (List.mem_of_mem_drop hz)) (by rw [List.length_drop]; omega) (by rw [List.length_append, e3]; omega)
            rw [e1, e2, Option.bind_some, e3, h0, hi, if_pos (show (1 : Int) ≤ (n : Int) + 2 by omega), if_pos (show (n : Int) + 2 ≤ (r.length : Int) + 1 by omega), if_pos (show out.length + (n + 1) < 140737488355328 by omega), if_pos (show (0 : Int) ≤ (n : Int) + 2 by omega)]
            split
            · rw [if_pos (by omega)]
            · rfl
theorem ru_l1 (l : List Int) (hl : l.length ≤ 200000) (a n : Nat) (h1 : 128 ≤ n) (h2 : n ≤ 255) (ha : a + 1 < l.length) : ∀ (d i k : Nat) (out : List Int), i + d = n - 125 → out.length + d ≤ 1000000 → ref46_Unpack.l1 (k + d + 1) l out (a : Int) (n : Int) (i : Int) = ref46_Unpack.l0 k l (out ++ List.replicate d (rd l ((a + 1 : Nat) : Int))) ((a + 2 : Nat) : Int) := by
  intro d
  induction d with
  | zero =>
    intro i k out hi ho
    simp only [ref46_Unpack.l1]
    rw [w64 (x := (n : Int) - 125) (by omega) (by omega), if_neg (show ¬ (i : Int) < (n : Int) - 125 by omega), w64 (x := (a : Int) + 2) (by omega) (by omega), List.replicate_zero, List.append_nil]
    rfl
  | succ d ih =>
    intro i k out hi ho
    obtain ⟨q, hq⟩ : ∃ q, q = k + d + 1 := ⟨_, rfl⟩
    have e : k + (d + 1) + 1 = q + 1 := by omega
    rw [e]
    simp only [ref46_Unpack.l1]
    rw [w64 (x := (n : Int) - 125) (by omega) (by omega), if_pos (show (i : Int) < (n : Int) - 125 by omega), w64 (x := (a : Int) + 1) (by omega) (by omega), if_pos (show (0 : Int) ≤ (a : Int) + 1 by omega), if_pos (show (a : Int) + 1 < (l.length : Int) by omega), if_pos (show out.length < 140737488355328 by omega), w64 (x := (i : Int) + 1) (by omega) (by omega)]
    have hi' := ih (i + 1) k (out ++ [rd l ((a : Int) + 1)]) (by omega) (by rw [List.length_append]; simp only [List.length_cons, List.length_nil]; omega)
    have e2 : ((i + 1 : Nat) : Int) = (i : Int) + 1 := by omega
    rw [e2, ← hq] at hi'
    rw [hi']
    have e3 : ((a + 1 : Nat) : Int) = (a : Int) + 1 := by omega
    rw [e3, List.append_assoc, List.replicate_succ]
    rfl
theorem ru_l0 (l : List Int) (hb : Byt l) (hl : l.length ≤ 200000) : ∀ (m a k : Nat) (out : List Int), l.length - a ≤ m → a ≤ l.length → 200 * m + 200 ≤ k → out.length ≤ 65536 → ref46_Unpack.l0 k l out (a : Int) = some (unp m (l.drop a) out) := by
  intro m
  induction m with
  | zero =>
    intro a k out hm ha hk ho
    obtain ⟨k, rfl⟩ : ∃ j, k = j + 1 := ⟨k - 1, by omega⟩
    simp only [ref46_Unpack.l0]
    rw [if_neg (by omega)]
    rfl
  | succ m ih =>
    intro a k out hm ha hk ho
    by_cases e : a = l.length
    · obtain ⟨k, rfl⟩ : ∃ j, k = j + 1 := ⟨k - 1, by omega⟩
      simp only [ref46_Unpack.l0]
      rw [if_neg (by omega), List.drop_eq_nil_of_le (by omega), unp_nil]
    · have hlt : a < l.length := by omega
      obtain ⟨x, r, hd⟩ : ∃ x r, l.drop a = x :: r := ⟨_, _, List.drop_eq_getElem_cons hlt⟩
      have hx : rd l (a : Int) = x := by
        have h := rd_drop (l := l) (a := a) (i := 0) (by omega)
        rw [hd] at h
        exact h
      have hr : l.drop (a + 1) = r := by rw [← List.drop_drop, hd]; rfl
      obtain ⟨hx0, hx1⟩ := hb x (List.mem_of_mem_drop (by rw [hd]; exact List.mem_cons_self ..) )
      have hrl : r.length + a + 1 = l.length := by rw [← hr, List.length_drop]; omega
      rw [hd]
      obtain ⟨n, rfl⟩ : ∃ n : Nat, x = (n : Int) := ⟨x.toNat, by omega⟩
      by_cases c : (n : Int) < 128
      · obtain ⟨k, rfl⟩ : ∃ j, k = j + 1 := ⟨k - 1, by omega⟩
        simp only [ref46_Unpack.l0, unp]
        rw [hx, if_pos (show (a : Int) < (l.length : Int) by omega), if_pos (show (0 : Int) ≤ (a : Int) by omega), w64 (x := (n : Int)) (by omega) (by omega), if_pos c, if_pos c, Int.toNat_natCast, w64 (x := (a : Int) + (n : Int)) (by omega) (by omega), w64 (x := (a : Int) + (n : Int) + 2) (by omega) (by omega), w64 (x := (out.length : Int) + (n : Int)) (by omega) (by omega), w64 (x := (out.length : Int) + (n : Int) + 1) (by omega) (by omega), w64 (x := (a : Int) + 1) (by omega) (by omega)]
        by_cases d : r.length < n + 1
        · rw [if_pos (show (a : Int) + (n : Int) + 2 > (l.length : Int) by omega), if_pos d]
        · rw [if_neg (show ¬ (a : Int) + (n : Int) + 2 > (l.length : Int) by omega), if_neg d]
          by_cases d2 : 65536 < out.length + n + 1
          · rw [if_pos (show (out.length : Int) + (n : Int) + 1 > 65536 by omega), if_pos d2]
          · rw [if_neg (show ¬ (out.length : Int) + (n : Int) + 1 > 65536 by omega), if_neg d2]
            have t1 : ((a : Int) + (n : Int) + 2).toNat = a + 1 + (n + 1) := by omega
            have t2 : ((a : Int) + 1).toNat = a + 1 := by omega
            have t3 : (l.take (a + 1 + (n + 1))).drop (a + 1) = r.take (n + 1) := by rw [List.drop_take, hr]; congr 1; omega
            have t4 : (r.take (n + 1)).length = n + 1 := by rw [List.length_take]; omega
            have t5 : l.drop (a + 1 + (n + 1)) = r.drop (n + 1) := by rw [← List.drop_drop, hr]
            have hi := ih (a + 1 + (n + 1)) k (out ++ r.take (n + 1)) (by omega) (by omega) (by omega) (by rw [List.length_append, t4]; omega)
            have t6 : ((a + 1 + (n + 1) : Nat) : Int) = (a : Int) + (n : Int) + 2 := by omega
            rw [t5, t6] at hi
            rw [t1, t2, t3, t4, if_pos (show (0 : Int) ≤ (a : Int) + 1 by omega), if_pos (show (a : Int) + 1 ≤ (a : Int) + (n : Int) + 2 by omega), if_pos (show (a : Int) + (n : Int) + 2 ≤ (l.length : Int) by omega), if_pos (show out.length + (n + 1) < 140737488355328 by omega), hi]
      · obtain ⟨k, rfl⟩ : ∃ j, k = j + (n - 125) + 2 := ⟨k - (n - 125) - 2, by omega⟩
        simp only [ref46_Unpack.l0, unp]
        rw [hx, if_pos (show (a : Int) < (l.length : Int) by omega), if_pos (show (0 : Int) ≤ (a : Int) by omega), w64 (x := (n : Int)) (by omega) (by omega), if_neg c, if_neg c, Int.toNat_natCast, w64 (x := (a : Int) + 2) (by omega) (by omega), w64 (x := (out.length : Int) + (n : Int)) (by omega) (by omega), w64 (x := (out.length : Int) + (n : Int) - 125) (by omega) (by omega)]
        by_cases d : r.length < 1
        · rw [if_pos (show (a : Int) + 2 > (l.length : Int) by omega), if_pos d]
        · rw [if_neg (show ¬ (a : Int) + 2 > (l.length : Int) by omega), if_neg d]
          by_cases d2 : 65536 + 125 < out.length + n
          · rw [if_pos (show (out.length : Int) + (n : Int) - 125 > 65536 by omega), if_pos d2]
          · rw [if_neg (show ¬ (out.length : Int) + (n : Int) - 125 > 65536 by omega), if_neg d2]
            have h1 := ru_l1 l hl a n (by omega) (by omega) (by omega) (n - 125) 0 k out (by omega) (by omega)
            have hi := ih (a + 2) k (out ++ List.replicate (n - 125) (rd r 0)) (by omega) (by omega) (by omega) (by rw [List.length_append, List.length_replicate]; omega)
            have t1 : rd l ((a + 1 : Nat) : Int) = rd r 0 := by
              have h := rd_drop (l := l) (a := a + 1) (i := 0) (by omega)
              rw [hr] at h
              exact h
            have t2 : l.drop (a + 2) = r.drop 1 := by rw [← hr, List.drop_drop]
            rw [t1] at h1
            rw [t2] at hi
            exact h1.trans hi
end Go.Proofs.Ytdgdpeibagcnpaa.Er
