/-
  Restore in plain Lean: what it answers of any parts of one length.
-/
import Derived.Test.YtibkckcpclkclaaMx4
import Derived.Test.YtibkckcpclkclaaEvR
import Derived.Laws.Strings
namespace Go.Proofs.Ytibkckcpclkclaa.EvA
open Go.RowKit Go.Proofs.Ytibkckcpclkclaa.M Go.Proofs.Ytibkckcpclkclaa.Gf Go.Proofs.YtibkckcpclkclaaW.PrintWords
/-! what is lost -/
def lostN (L : Nat → Nat) : Nat → Nat → List Int
  | 0, _ => []
  | r + 1, t => if L t = 0 then (t : Int) :: lostN L r (t + 1) else lostN L r (t + 1)
theorem lost_l {m : Nat} {L : Nat → Nat} {P : Nat → Nat → Nat} (r : Nat) : ∀ (k t : Nat) (out : List Int), t + r = m → m ≤ 1000000 → r < k → out.length + r ≤ 1000000 → parity_lost.l0 k out (rows m L P) (m : Int) (t : Int) = some (out ++ lostN L r t) := by
  induction r with
  | zero =>
    intro k t out ht hm hk ho
    obtain ⟨k, rfl⟩ : ∃ q, k = q + 1 := ⟨k - 1, by omega⟩
    simp only [parity_lost.l0, lostN]
    rw [if_neg (by omega), List.append_nil]
  | succ r ih =>
    intro k t out ht hm hk ho
    obtain ⟨k, rfl⟩ : ∃ q, k = q + 1 := ⟨k - 1, by omega⟩
    have hlt : t < m := by omega
    simp only [parity_lost.l0, lostN]
    rw [if_pos (by omega), if_pos (by omega), rows_length, if_pos (by omega), rd_rows hlt, tab_length, ws (by omega)]
    by_cases c : L t = 0
    · rw [if_pos (by omega), if_pos (by omega), if_pos c, ih k (t + 1) _ (by omega) hm (by omega) (by rw [List.length_append]; simp only [List.length_cons, List.length_nil]; omega), List.append_assoc]
      rfl
    · rw [if_neg (by omega), if_neg c, ih k (t + 1) out (by omega) hm (by omega) (by omega)]
theorem lost_f {m : Nat} {L : Nat → Nat} {P : Nat → Nat → Nat} {k : Nat} (hm : m ≤ 1000000) (hk : m + 1 ≤ k) : parity_lost.f k (rows m L P) = some (lostN L m 0) := by
  unfold parity_lost.f
  rw [rows_length]
  exact lost_l m k 0 [] (by omega) hm (by omega) (by simp; omega)
theorem mem_lostN (L : Nat → Nat) : ∀ (r t : Nat) (x : Int), x ∈ lostN L r t ↔ ∃ j : Nat, t ≤ j ∧ j < t + r ∧ L j = 0 ∧ x = (j : Int)
  | 0, t, x => by simp only [lostN]; exact ⟨(fun h => by cases h), (fun ⟨j, h1, h2, _⟩ => by omega)⟩
  | r + 1, t, x => by
    have ih := mem_lostN L r (t + 1) x
    simp only [lostN]
    by_cases c : L t = 0
    · rw [if_pos c, List.mem_cons, ih]
      constructor
      · rintro (h | ⟨j, h1, h2, h3, h4⟩)
        · exact ⟨t, by omega, by omega, c, h⟩
        · exact ⟨j, by omega, by omega, h3, h4⟩
      · rintro ⟨j, h1, h2, h3, h4⟩
        by_cases e : j = t
        · subst e; exact .inl h4
        · exact .inr ⟨j, by omega, by omega, h3, h4⟩
    · rw [if_neg c, ih]
      constructor
      · rintro ⟨j, h1, h2, h3, h4⟩
        exact ⟨j, by omega, by omega, h3, h4⟩
      · rintro ⟨j, h1, h2, h3, h4⟩
        by_cases e : j = t
        · subst e; exact absurd h3 c
        · exact ⟨j, by omega, by omega, h3, h4⟩
theorem lostN_le (L : Nat → Nat) : ∀ (r t : Nat), (lostN L r t).length ≤ r
  | 0, _ => Nat.le_refl _
  | r + 1, t => by
    have := lostN_le L r (t + 1)
    simp only [lostN]
    split
    · rw [List.length_cons]; omega
    · omega
theorem lostN_app (L L' : Nat → Nat) (q : Nat) : ∀ (r t : Nat), (∀ j, t ≤ j → j < t + r → L j = L' j) → (lostN L' (r + q) t).length = (lostN L r t).length + (lostN L' q (t + r)).length
  | 0, t, _ => by simp [lostN]
  | r + 1, t, h => by
    have ih := lostN_app L L' q r (t + 1) (fun j h1 h2 => h j (by omega) (by omega))
    have e : r + 1 + q = (r + q) + 1 := by omega
    have e2 : t + (r + 1) = t + 1 + r := by omega
    rw [e, e2]
    simp only [lostN]
    rw [h t (by omega) (by omega)]
    split
    · rw [List.length_cons, List.length_cons, ih]; omega
    · exact ih
theorem lostN_len2 (L L' : Nat → Nat) (m : Nat) (h : ∀ j, j < m → L j = L' j) : (lostN L m 0).length ≤ (lostN L' (m + 2) 0).length := by
  rw [lostN_app L L' 2 m 0 (fun j _ hj => h j (by omega))]
  omega
/-! bytes -/
theorem add_some {k n m b : Nat} {f p : Nat → Nat} (hm : m ≤ n) (hn : n ≤ 1000000) (hb : b < 256) (hf : ∀ i, f i < 256) (hp : ∀ i, p i < 256) (hk : m + 11 ≤ k) : ∃ g : Nat → Nat, (∀ i, g i < 256) ∧ parity_add.f k (tab n f) (tab m p) (b : Int) = some (tab n g) := by
  refine ⟨_, fun i => ?_, add_f hm hn hb hf hp hk⟩
  split
  · exact xor_lt (hf i) (mul_lt (hp i))
  · exact hf i
theorem add_some1 {k n m : Nat} {f p : Nat → Nat} (hm : m ≤ n) (hn : n ≤ 1000000) (hf : ∀ i, f i < 256) (hp : ∀ i, p i < 256) (hk : m + 11 ≤ k) : ∃ g : Nat → Nat, (∀ i, g i < 256) ∧ parity_add.f k (tab n f) (tab m p) 1 = some (tab n g) := add_some (b := 1) hm hn (by decide) hf hp hk
theorem one_f {k n b : Nat} {f : Nat → Nat} (hn : n ≤ 100000) (hb : b < 256) (hf : ∀ i, f i < 256) (hk : n + 40 ≤ k) : ∃ g : Nat → Nat, (∀ i, g i < 256) ∧ parity_one.f k (tab n f) (b : Int) = some (tab n g) := by
  obtain ⟨g, hg, e⟩ := add_some (k := k) (n := n) (m := n) (b := inv b) (f := fun _ => 0) (p := f) (Nat.le_refl _) (by omega) (inv_lt b hb) (fun _ => by decide) hf (by omega)
  refine ⟨g, hg, ?_⟩
  unfold parity_one.f
  rw [tab_length, if_pos (by omega), Int.toNat_natCast, if_pos (by omega), inverse_f hb (by omega), Option.bind_some, replicate_tab, e, Option.bind_some]
theorem two_f {k n a b : Nat} {p q : Nat → Nat} (hn : n ≤ 100000) (ha : a < 256) (hb : b < 256) (hp : ∀ i, p i < 256) (hq : ∀ i, q i < 256) (hk : n + 40 ≤ k) : ∃ x y : Nat → Nat, (∀ i, x i < 256) ∧ (∀ i, y i < 256) ∧ parity_two.f k (tab n p) (tab n q) (a : Int) (b : Int) = some (tab n x, tab n y) := by
  obtain ⟨g1, h1, e1⟩ := add_some (k := k) (n := n) (m := n) (b := a) (f := fun _ => 0) (p := p) (Nat.le_refl _) (by omega) ha (fun _ => by decide) hp (by omega)
  obtain ⟨g2, h2, e2⟩ := add_some1 (k := k) (n := n) (m := n) (f := g1) (p := q) (Nat.le_refl _) (by omega) h1 hq (by omega)
  obtain ⟨y, h3, e3⟩ := one_f (k := k) (n := n) (b := a ^^^ b) (f := g2) hn (xor_lt ha hb) h2 hk
  obtain ⟨g4, h4, e4⟩ := add_some1 (k := k) (n := n) (m := n) (f := fun _ => 0) (p := p) (Nat.le_refl _) (by omega) (fun _ => by decide) hp (by omega)
  obtain ⟨x, h5, e5⟩ := add_some1 (k := k) (n := n) (m := n) (f := g4) (p := y) (Nat.le_refl _) (by omega) h4 h3 (by omega)
  refine ⟨x, y, h5, h3, ?_⟩
  unfold parity_two.f
  rw [tab_length, if_pos (by omega), Int.toNat_natCast, if_pos (by omega), replicate_tab, e1, Option.bind_some, e2, Option.bind_some, bx ha hb, e3, Option.bind_some, e4, Option.bind_some, e5, Option.bind_some]
/-! rows, one of them set -/
theorem rows_set {m j n : Nat} {L : Nat → Nat} {P : Nat → Nat → Nat} {g : Nat → Nat} : (rows m L P).set j (tab n g) = rows m (fun i => if i = j then n else L i) (fun i => if i = j then g else P i) := by
  apply List.ext_getElem
  · simp [rows]
  · intro i h1 h2
    rw [List.getElem_set]
    simp only [rows, List.getElem_map, List.getElem_range]
    by_cases e : j = i
    · subst e; simp
    · have e' : ¬ i = j := fun h => e h.symm
      rw [if_neg e, if_neg e', if_neg e']
theorem rows_succ (m : Nat) (L : Nat → Nat) (P : Nat → Nat → Nat) : rows (m + 1) L P = rows m L P ++ [tab (L m) (P m)] := by simp [rows, List.range_succ]
theorem rows_congr {m : Nat} {L L' : Nat → Nat} {P P' : Nat → Nat → Nat} (hL : ∀ j, j < m → L j = L' j) (hP : ∀ j, j < m → P j = P' j) : rows m L P = rows m L' P' := by
  unfold rows
  apply List.map_congr_left
  intro j hj
  rw [hL j (List.mem_range.1 hj), hP j (List.mem_range.1 hj)]
theorem byte_inj {x y : Int} (hx : 0 ≤ x ∧ x ≤ 255) (hy : 0 ≤ y ∧ y ≤ 255) (h : UInt8.ofNat x.toNat = UInt8.ofNat y.toNat) : x = y := by
  have h1 := congrArg UInt8.toNat h
  rw [UInt8.toNat_ofNat', UInt8.toNat_ofNat'] at h1
  omega
theorem map_inj : ∀ (p q : List Int), (∀ x ∈ p, 0 ≤ x ∧ x ≤ 255) → (∀ x ∈ q, 0 ≤ x ∧ x ≤ 255) → p.map (fun n => UInt8.ofNat n.toNat) = q.map (fun n => UInt8.ofNat n.toNat) → p = q
  | [], [], _, _, _ => rfl
  | [], _ :: _, _, _, h => by simp at h
  | _ :: _, [], _, _, h => by simp at h
  | x :: p, y :: q, hp, hq, h => by
    rw [List.map_cons, List.map_cons] at h
    injection h with h1 h2
    rw [byte_inj (hp x (List.mem_cons_self ..)) (hq y (List.mem_cons_self ..)) h1, map_inj p q (fun z hz => hp z (List.mem_cons_of_mem _ hz)) (fun z hz => hq z (List.mem_cons_of_mem _ hz)) h2]
theorem tab_bytes {n : Nat} {f : Nat → Nat} (hf : ∀ i, f i < 256) : ∀ x ∈ tab n f, 0 ≤ x ∧ x ≤ 255 := by
  intro x hx
  obtain ⟨i, _, rfl⟩ := List.mem_map.1 hx
  have := hf i
  omega
theorem equal_tab {n m : Nat} {f g : Nat → Nat} (hf : ∀ i, f i < 256) (hg : ∀ i, g i < 256) : bytes_Equal.f (tab n f) (tab m g) = some (decide (tab n f = tab m g)) := by
  unfold bytes_Equal.f
  congr 1
  by_cases c : tab n f = tab m g
  · rw [decide_eq_true c, c]
    exact beq_self_eq_true _
  · rw [decide_eq_false c, beq_eq_false_iff_ne]
    intro h
    rw [Go.ByteArray.toList_eq, Go.ByteArray.toList_eq, strOfNums_data, strOfNums_data] at h
    exact c (map_inj _ _ (tab_bytes hf) (tab_bytes hg) h)
/-- what Restore says of parts that it has restored -/
def told (m n a b : Nat) (A B : Nat → Nat) (L : Nat → Nat) (P : Nat → Nat → Nat) : List (List Int) × Int :=
  if (a = 0 ∨ tab n (fun i => s1 L P i m) = tab a A) ∧ (b = 0 ∨ tab n (fun i => s2 L P i m) = tab b B) then (rows m L P, 0) else ([], 12)
theorem j3_f {m n a b k : Nat} {A B : Nat → Nat} {L : Nat → Nat} {P : Nat → Nat → Nat} (hn : n ≤ 100000) (hm : m ≤ 100000) (hA : ∀ i, A i < 256) (hB : ∀ i, B i < 256) (hP : ∀ j i, P j i < 256) (hL : ∀ j, j < m → L j ≤ n) (hk : n + m + m + 40 ≤ k) : parity_Restore.j3 k (tab a A) (tab b B) (n : Int) (rows m L P) = some (told m n a b A B L P) := by
  obtain ⟨k, rfl⟩ : ∃ q, k = q + 1 := ⟨k - 1, by omega⟩
  simp only [parity_Restore.j3]
  rw [sums_f hn hP hL hm (by omega), Option.bind_some, tab_length, tab_length]
  have e1 := equal_tab (n := n) (m := a) (f := fun i => s1 L P i m) (g := A) (fun i => s1_lt hP i m) hA
  have e2 := equal_tab (n := n) (m := b) (f := fun i => s2 L P i m) (g := B) (fun i => s2_lt hP i m) hB
  unfold told
  by_cases ca : a = 0
  · rw [if_neg (by omega)]
    by_cases cb : b = 0
    · rw [if_neg (by omega), if_pos ⟨.inl ca, .inl cb⟩]
    · rw [if_pos (by omega), e2, Option.bind_some]
      by_cases d2 : tab n (fun i => s2 L P i m) = tab b B
      · rw [if_pos (decide_eq_true d2), if_pos ⟨.inl ca, .inr d2⟩]
      · rw [if_neg (by rw [decide_eq_false d2]; simp), if_neg (fun h => h.2.elim cb d2)]
  · rw [if_pos (by omega), e1, Option.bind_some]
    by_cases d1 : tab n (fun i => s1 L P i m) = tab a A
    · rw [if_pos (decide_eq_true d1)]
      by_cases cb : b = 0
      · rw [if_neg (by omega), if_pos ⟨.inr d1, .inl cb⟩]
      · rw [if_pos (by omega), e2, Option.bind_some]
        by_cases d2 : tab n (fun i => s2 L P i m) = tab b B
        · rw [if_pos (decide_eq_true d2), if_pos ⟨.inr d1, .inr d2⟩]
        · rw [if_neg (by rw [decide_eq_false d2]; simp), if_neg (fun h => h.2.elim cb d2)]
    · rw [if_neg (by rw [decide_eq_false d1]; simp), if_neg (fun h => h.1.elim ca d1)]
/-- the parts that are there have the length n, and are left as they are -/
def Kept (m n : Nat) (L L2 : Nat → Nat) (P P2 : Nat → Nat → Nat) : Prop := (∀ j, j < m → L2 j = n) ∧ (∀ j i, P2 j i < 256) ∧ ∀ j, j < m → L j ≠ 0 → L2 j = L j ∧ P2 j = P j
theorem set_one {m n i0 : Nat} {L : Nat → Nat} {P : Nat → Nat → Nat} {g : Nat → Nat} (hP : ∀ j i, P j i < 256) (hL : ∀ j, j < m → L j = 0 ∨ L j = n) (hg : ∀ i, g i < 256) (h0 : L i0 = 0) (hall : ∀ j, j < m → L j = 0 → j = i0) : Kept m n L (fun i => if i = i0 then n else L i) P (fun i => if i = i0 then g else P i) := by
  refine ⟨fun j hj => ?_, fun j i => ?_, fun j hj hne => ?_⟩
  · dsimp only
    by_cases e : j = i0
    · rw [if_pos e]
    · rw [if_neg e]
      exact (hL j hj).elim (fun z => absurd (hall j hj z) e) id
  · dsimp only
    by_cases e : j = i0
    · rw [if_pos e]; exact hg i
    · rw [if_neg e]; exact hP j i
  · have e : ¬ j = i0 := fun e => hne (by rw [e]; exact h0)
    dsimp only
    rw [if_neg e, if_neg e]
    exact ⟨rfl, rfl⟩
theorem set_two {m n i0 i1 : Nat} {L : Nat → Nat} {P : Nat → Nat → Nat} {x y : Nat → Nat} (hP : ∀ j i, P j i < 256) (hL : ∀ j, j < m → L j = 0 ∨ L j = n) (hx : ∀ i, x i < 256) (hy : ∀ i, y i < 256) (h0 : L i0 = 0) (h1 : L i1 = 0) (hall : ∀ j, j < m → L j = 0 → j = i0 ∨ j = i1) :
    Kept m n L (fun i => if i = i1 then n else (if i = i0 then n else L i)) P (fun i => if i = i1 then y else (if i = i0 then x else P i)) := by
  refine ⟨fun j hj => ?_, fun j i => ?_, fun j hj hne => ?_⟩
  · dsimp only
    by_cases e : j = i1
    · rw [if_pos e]
    · rw [if_neg e]
      by_cases e2 : j = i0
      · rw [if_pos e2]
      · rw [if_neg e2]
        exact (hL j hj).elim (fun z => (hall j hj z).elim (fun q => absurd q e2) (fun q => absurd q e)) id
  · dsimp only
    by_cases e : j = i1
    · rw [if_pos e]; exact hy i
    · rw [if_neg e]
      by_cases e2 : j = i0
      · rw [if_pos e2]; exact hx i
      · rw [if_neg e2]; exact hP j i
  · have e : ¬ j = i1 := fun e => hne (by rw [e]; exact h1)
    have e2 : ¬ j = i0 := fun e => hne (by rw [e]; exact h0)
    dsimp only
    rw [if_neg e, if_neg e, if_neg e2, if_neg e2]
    exact ⟨rfl, rfl⟩
theorem rd0 {x : Int} {r : List Int} : rd (x :: r) 0 = x := rfl
theorem rd1 {x y : Int} {r : List Int} : rd (x :: y :: r) 1 = y := rfl
/-- the last part of Restore, once all parts were copied -/
theorem rest_end {m n a b k : Nat} {A B : Nat → Nat} {L : Nat → Nat} {P : Nat → Nat → Nat} (hn : n ≤ 100000) (hm : m ≤ 1000) (hA : ∀ i, A i < 256) (hB : ∀ i, B i < 256) (hP : ∀ j i, P j i < 256) (hL : ∀ j, j < m → L j = 0 ∨ L j = n) (ha : a = 0 ∨ a = n) (hb : b = 0 ∨ b = n) (hl : (lostN L m 0).length ≤ 2) (hk : n + m + m + 3000 ≤ k) :
    ∃ L2 P2, Kept m n L L2 P P2 ∧ parity_Restore.l0 k (rows m L P) (tab a A) (tab b B) (n : Int) (rows m L P) (rows m L P) (m : Int) (m : Int) = some (told m n a b A B L2 P2) := by
  obtain ⟨k, rfl⟩ : ∃ q, k = q + 2 := ⟨k - 2, by omega⟩
  have hLn : ∀ j, j < m → L j ≤ n := fun j hj => by have := hL j hj; omega
  obtain ⟨fp, hp, ep⟩ := add_some1 (k := k + 1) (n := n) (m := a) (f := fun i => s1 L P i m) (p := A) (by omega) (by omega) (fun i => s1_lt hP i m) hA (by omega)
  obtain ⟨fq, hq, eq⟩ := add_some1 (k := k + 1) (n := n) (m := b) (f := fun i => s2 L P i m) (p := B) (by omega) (by omega) (fun i => s2_lt hP i m) hB (by omega)
  have hmem := mem_lostN L m 0
  simp only [parity_Restore.l0]
  rw [if_neg (by omega), sums_f hn hP hLn (by omega) (by omega), Option.bind_some, ep, Option.bind_some, eq, Option.bind_some, lost_f (by omega) (by omega), Option.bind_some]
  generalize lostN L m 0 = I at hl hmem
  match I, hl with
  | [], _ =>
    refine ⟨L, P, ⟨fun j hj => (hL j hj).elim (fun z => absurd ((hmem (j : Int)).2 ⟨j, by omega, by omega, z, rfl⟩) (by simp)) id, hP, fun j _ _ => ⟨rfl, rfl⟩⟩, ?_⟩
    rw [if_neg (by simp), if_neg (by simp)]
    simp only [parity_Restore.j2]
    rw [if_neg (by simp), if_neg (by simp)]
    exact j3_f hn (by omega) hA hB hP hLn (by omega)
  | [x], _ =>
    obtain ⟨i0, _, hi, h0, rfl⟩ := (hmem x).1 (List.mem_cons_self ..)
    have hall : ∀ j, j < m → L j = 0 → j = i0 := by
      intro j hj z
      have := (hmem (j : Int)).2 ⟨j, by omega, by omega, z, rfl⟩
      rw [List.mem_singleton] at this
      omega
    have fin : ∀ g : Nat → Nat, (∀ i, g i < 256) → parity_Restore.j3 k (tab a A) (tab b B) (n : Int) ((rows m L P).set (i0 : Int).toNat (tab n g)) = some (told m n a b A B (fun i => if i = i0 then n else L i) (fun i => if i = i0 then g else P i)) := by
      intro g hg
      have hk2 := set_one hP hL hg h0 hall
      rw [Int.toNat_natCast, rows_set]
      exact j3_f hn (by omega) hA hB hk2.2.1 (fun j hj => Nat.le_of_eq (hk2.1 j hj)) (by omega)
    rw [if_neg (by simp), if_pos (by simp)]
    simp only [parity_Restore.j2]
    rw [tab_length]
    by_cases c : (a : Int) > 0
    · refine ⟨_, _, set_one hP hL hp h0 hall, ?_⟩
      rw [if_pos (decide_eq_true c), if_pos (by simp), rd0, if_pos (by omega), rows_length, if_pos (by omega)]
      exact fin fp hp
    · obtain ⟨g, hg, eg⟩ := one_f (k := k) (n := n) (b := pw i0) (f := fq) hn (pw_lt i0) hq (by omega)
      refine ⟨_, _, set_one hP hL hg h0 hall, ?_⟩
      rw [if_neg (by rw [decide_eq_false c]; simp), if_pos (by simp), if_pos (by simp), rd0, power_f (by omega) (by omega), Option.bind_some, eg, Option.bind_some, if_pos (by omega), rows_length, if_pos (by omega)]
      exact fin g hg
  | [x, y], _ =>
    obtain ⟨i0, _, hi, h0, rfl⟩ := (hmem x).1 (List.mem_cons_self ..)
    obtain ⟨i1, _, hi1, h1, rfl⟩ := (hmem y).1 (List.mem_cons_of_mem _ (List.mem_cons_self ..))
    have hall : ∀ j, j < m → L j = 0 → j = i0 ∨ j = i1 := by
      intro j hj z
      have := (hmem (j : Int)).2 ⟨j, by omega, by omega, z, rfl⟩
      rw [List.mem_cons, List.mem_singleton] at this
      omega
    obtain ⟨gx, gy, hx, hy, e2⟩ := two_f (k := k + 1) (n := n) (a := pw i0) (b := pw i1) (p := fp) (q := fq) hn (pw_lt i0) (pw_lt i1) hp hq (by omega)
    have hk2 := set_two hP hL hx hy h0 h1 hall
    refine ⟨_, _, hk2, ?_⟩
    rw [if_pos (by simp), if_pos (by simp), if_pos (by simp), rd0, rd1, power_f (by omega) (by omega), Option.bind_some, power_f (by omega) (by omega), Option.bind_some, e2, Option.bind_some, rows_length, if_pos (by omega), if_pos (by omega), if_pos (by omega), if_pos (by omega), Int.toNat_natCast, Int.toNat_natCast, rows_set, rows_set]
    exact j3_f hn (by omega) hA hB hk2.2.1 (fun j hj => Nat.le_of_eq (hk2.1 j hj)) (by omega)
theorem rest_l0 {m n a b : Nat} {A B : Nat → Nat} {L : Nat → Nat} {P : Nat → Nat → Nat} (hn : n ≤ 100000) (hm : m ≤ 1000) (hA : ∀ i, A i < 256) (hB : ∀ i, B i < 256) (hP : ∀ j i, P j i < 256) (hL : ∀ j, j < m → L j = 0 ∨ L j = n) (ha : a = 0 ∨ a = n) (hb : b = 0 ∨ b = n) (hl : (lostN L m 0).length ≤ 2) :
    ∀ (r t k : Nat), t + r = m → n + m + m + 3000 + r ≤ k → ∃ L2 P2, Kept m n L L2 P P2 ∧ parity_Restore.l0 k (rows m L P) (tab a A) (tab b B) (n : Int) (rows t L P) (rows m L P) (m : Int) (t : Int) = some (told m n a b A B L2 P2) := by
  intro r
  induction r with
  | zero =>
    intro t k ht hk
    obtain rfl : t = m := by omega
    exact rest_end hn hm hA hB hP hL ha hb hl (by omega)
  | succ r ih =>
    intro t k ht hk
    obtain ⟨k, rfl⟩ : ∃ q, k = q + 1 := ⟨k - 1, by omega⟩
    obtain ⟨L2, P2, hK, h⟩ := ih (t + 1) k (by omega) (by omega)
    refine ⟨L2, P2, hK, ?_⟩
    have hlt : t < m := by omega
    have hc : bytes_Clone.f (tab (L t) (P t)) = some (tab (L t) (P t)) := by
      have := hL t hlt
      unfold bytes_Clone.f
      rw [if_pos (by rw [tab_length]; omega)]
    simp only [parity_Restore.l0]
    rw [if_pos (by omega), if_pos (by omega), rows_length, if_pos (by omega), rd_rows hlt, hc, Option.bind_some, rows_length, if_pos (by omega), ws (by omega), ← rows_succ]
    exact h
end Go.Proofs.Ytibkckcpclkclaa.EvA
