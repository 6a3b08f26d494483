/-
  ParityRestores: the plain law, joined to the walk.
-/
import Derived.Test.YtibkckcpclkclaaBk
import Derived.Test.YtibkckcpclkclaaWp
namespace Go.Proofs.Ytibkckcpclkclaa.Bk
open Go.RowKit Go.Proofs.Ytibkckcpclkclaa.M Go.Proofs.Ytibkckcpclkclaa.Gf Go.Proofs.Ytibkckcpclkclaa.EvA Go.Proofs.YtibkckcpclkclaaW.PrintWords
theorem rows_getD {M j : Nat} {L : Nat → Nat} {P : Nat → Nat → Nat} (h : j < M) : (rows M L P).getD j [] = tab (L j) (P j) := by
  simp [rows, h]
theorem rows_take {M m : Nat} {L : Nat → Nat} {P : Nat → Nat → Nat} (h : m ≤ M) : (rows M L P).take m = rows m L P := by
  unfold rows
  rw [← List.map_take, List.take_range, Nat.min_eq_left h]
theorem rows_none {M j : Nat} {L : Nat → Nat} {P : Nat → Nat → Nat} : (rows M L P).set j [] = rows M (fun i => if i = j then 0 else L i) P := by
  have h := rows_set (m := M) (j := j) (n := 0) (L := L) (P := P) (g := P j)
  rw [show tab 0 (P j) = [] from rfl] at h
  rw [h]
  refine rows_congr (fun _ _ => rfl) (fun i _ => ?_)
  by_cases e : i = j
  · rw [if_pos e, e]
  · rw [if_neg e]
theorem gone_rows {k m : Nat} {L L' : Nat → Nat} {P : Nat → Nat → Nat} {ps : List Int} (h : ers (rows (m + 2) L P) ps ps.length = rows (m + 2) L' P) : gone (rows (m + 2) L P) m k ps = ask k m L' P := by
  unfold gone ask
  rw [h, rows_take (by omega), rows_getD (by omega), rows_getD (by omega)]
/-- the sums of parts of one length -/
theorem s1_like {L L' : Nat → Nat} {P P' : Nat → Nat → Nat} {m : Nat} (i : Nat) (hL : ∀ j, j < m → L j = L' j) (hP : ∀ j, j < m → P j = P' j) : s1 L P i m = s1 L' P' i m := by
  rw [s1_S, s1_S]
  exact S_congr m (fun j hj => by rw [hL j hj, hP j hj])
theorem s2_like {L L' : Nat → Nat} {P P' : Nat → Nat → Nat} {m : Nat} (i : Nat) (hL : ∀ j, j < m → L j = L' j) (hP : ∀ j, j < m → P j = P' j) : s2 L P i m = s2 L' P' i m := by
  rw [s2_S, s2_S]
  exact S_congr m (fun j hj => by rw [hL j hj, hP j hj])
theorem xor_is {a t : Nat} (h : a = a ^^^ t) : t = 0 := by
  have := congrArg (a ^^^ ·) h
  simp only [Nat.xor_self] at this
  rw [← Nat.xor_assoc, Nat.xor_self, Nat.zero_xor] at this
  exact this.symm
theorem tab_at {n r : Nat} {f g : Nat → Nat} (h : tab n f = tab n g) (hr : r < n) : f r = g r := by
  have := congrArg (fun l => rd l (r : Int)) h
  simp only [rd_tab hr] at this
  omega
/-- one byte turned: told -/
theorem turned {m n i0 r t : Nat} {P P2 : Nat → Nat → Nat} (hA : P m = fun i => s1 (fun _ => n) P i m) (hB : P (m + 1) = fun i => s2 (fun _ => n) P i m) (hi : i0 < m + 2) (hr : r < n) (ht : t ≠ 0)
    (h2 : ∀ j, P2 j = if j = i0 then (fun x => if x = r then P i0 r ^^^ t else P i0 x) else P j) : told m n n n (P2 m) (P2 (m + 1)) (fun _ => n) P2 = ([], 12) := by
  unfold told
  refine if_neg (fun h => ?_)
  obtain ⟨h1, h3⟩ := h
  have e1 := tab_at (h1.resolve_left (by omega)) hr
  have e2 := tab_at (h3.resolve_left (by omega)) hr
  have a1 : P m r = s1 (fun _ => n) P r m := by rw [hA]
  have a2 : P (m + 1) r = s2 (fun _ => n) P r m := by rw [hB]
  have far : ∀ j, j ≠ i0 → P2 j = P j := fun j hj => by rw [h2, if_neg hj]
  have at0 : P2 i0 r = P i0 r ^^^ t := by rw [h2, if_pos rfl, if_pos rfl]
  by_cases c0 : i0 = m
  · subst c0
    rw [at0, s1_like r (fun _ _ => rfl) (fun j hj => far j (by omega)), ← a1] at e1
    exact ht (xor_is e1)
  by_cases c1 : i0 = m + 1
  · subst c1
    rw [at0, s2_like r (fun _ _ => rfl) (fun j hj => far j (by omega)), ← a2] at e2
    exact ht (xor_is e2)
  · rw [far m (by omega), a1] at e1
    have e3 : s1 (fun _ => n) P2 r m ^^^ s1 (fun _ => n) P r m = t := by
      rw [s1_S, s1_S, S_xor, S_one (i0 := i0) m (fun j _ hj => by rw [far j hj, Nat.xor_self]) (by omega), if_pos hr, if_pos hr, at0, Nat.xor_comm (P i0 r) t, Nat.xor_assoc, Nat.xor_self, Nat.xor_zero]
    rw [e1, Nat.xor_self] at e3
    exact ht e3.symm
theorem nat_tmod {x : Int} (h0 : 0 ≤ x) (h1 : x ≤ 255) (n : Nat) : (wrap64 x).tmod (n : Int) = ((x.toNat % n : Nat) : Int) := by
  rw [w64s (by omega) (by omega), Int.tmod_eq_emod_of_nonneg h0, Int.natCast_emod, Int.toNat_of_nonneg h0]
theorem restores_rows {W : World} {A0 : Option Addr} {c0 m : Nat} {L : Nat → Nat} {P : Nat → Nat → Nat} (x0 x1 x2 t0 t1 : Int) (hV : Kd.V Pt 30 W W.heap.size (fun _ => True) (.slice A0 (rows m L P).length c0) (rows m L P)) (hm : m ≤ 9223372036854775807) (hP : ∀ j i, P j i < 256)
    (h0 : 0 ≤ x0 ∧ x0 ≤ 255) (h1 : 0 ≤ x1 ∧ x1 ≤ 255) (h2 : 0 ≤ x2 ∧ x2 ≤ 255) (h3 : 0 ≤ t0 ∧ t0 ≤ 255) (h4 : 0 ≤ t1 ∧ t1 ≤ 255) :
    Calls Try.prog 5 #[.slice A0 (rows m L P).length c0, .agg #[.int .u8 x0, .int .u8 x1, .int .u8 x2], .agg #[.int .u8 t0, .int .u8 t1]] W fun e w' => e = .returned (.bool true) ∧ Below W.heap.size W w' := by
  obtain ⟨k, hk⟩ : ∃ k, k = m + 100000 := ⟨_, rfl⟩
  have hAw : incunablelaw45_awake.f k = some true := awake_f (by omega)
  obtain ⟨o, hFew, hfew⟩ := few_f (L := L) (P := P) (k := k) hm (by omega)
  cases o with
  | false => exact law_few _ x0 x1 x2 t0 t1 hV hAw hFew
  | true =>
    by_cases g : Group m L
    case neg => exact law_may _ x0 x1 x2 t0 t1 hV hAw hFew (may_no (by have := (hfew rfl).2; omega) g (by omega))
    case pos =>
      have hMay := may_yes (P := P) g (show m + 2 ≤ k by omega)
      obtain ⟨g1, g2, g3⟩ := g
      have hg0 := g3 0 (by omega)
      have hMake := make_yes (k := k) hP ⟨g1, g2, g3⟩ (by omega)
      obtain ⟨n, hn⟩ : ∃ n, n = L 0 := ⟨_, rfl⟩
      rw [← hn] at hMake hg0
      have hL : ∀ j, j < m → L j = n := fun j hj => by rw [hn]; exact (g3 j hj).2.2
      obtain ⟨A, hA⟩ : ∃ A : Nat → Nat, A = fun i => s1 L P i m := ⟨_, rfl⟩
      obtain ⟨B, hB⟩ : ∃ B : Nat → Nat, B = fun i => s2 L P i m := ⟨_, rfl⟩
      obtain ⟨Q, hQ⟩ : ∃ Q : Nat → Nat → Nat, Q = ext m P A B := ⟨_, rfl⟩
      rw [← hA, ← hB] at hMake
      have hQl : ∀ j, j < m → P j = Q j := fun j hj => by rw [hQ, ext_lt hj]
      have hQa : Q m = A := by rw [hQ, ext_a]
      have hQb : Q (m + 1) = B := by rw [hQ, ext_b]
      have hQ2 : ∀ j i, Q j i < 256 := by
        intro j i
        rw [hQ]
        unfold ext
        split
        · exact hP j i
        · split
          · rw [hA]; exact s1_lt hP i m
          · rw [hB]; exact s2_lt hP i m
      have hQA : Q m = fun i => s1 (fun _ => n) Q i m := by rw [hQa, hA]; funext i; exact s1_like i hL hQl
      have hQB : Q (m + 1) = fun i => s2 (fun _ => n) Q i m := by rw [hQb, hB]; funext i; exact s2_like i hL hQl
      have hl : rows m L P = rows m (fun _ => n) Q := rows_congr hL hQl
      have hall : rows m L P ++ [tab n A, tab n B] = rows (m + 2) (fun _ => n) Q := by
        rw [rows_all]
        refine rows_congr (fun j hj => ?_) (fun j _ => by rw [hQ])
        unfold ext
        split
        · exact hL j (by assumption)
        · split <;> rfl
      have hlen : (rows m L P).length = m := rows_length m L P
      obtain ⟨i0, e0⟩ : ∃ i0, i0 = x0.toNat % (m + 2) := ⟨_, rfl⟩
      obtain ⟨i1, e1⟩ : ∃ i1, i1 = x1.toNat % (m + 2) := ⟨_, rfl⟩
      obtain ⟨i2, e2⟩ : ∃ i2, i2 = x2.toNat % (m + 2) := ⟨_, rfl⟩
      have l0 : i0 < m + 2 := by rw [e0]; exact Nat.mod_lt _ (by omega)
      have l1 : i1 < m + 2 := by rw [e1]; exact Nat.mod_lt _ (by omega)
      have l2 : i2 < m + 2 := by rw [e2]; exact Nat.mod_lt _ (by omega)
      obtain ⟨r, er⟩ : ∃ r, r = t0.toNat % n := ⟨_, rfl⟩
      have lr : r < n := by rw [er]; exact Nat.mod_lt _ (by omega)
      have hR1 : gone (rows m L P ++ [tab n A, tab n B]) (rows m L P).length k [(i0 : Int), (i1 : Int)] = some (rows m L P, 0) := by
        rw [hall, hlen, hl, gone_rows (L' := fun i => if i = i1 then 0 else if i = i0 then 0 else n) (by
          show ((rows (m + 2) (fun _ => n) Q).set i0 []).set i1 [] = _
          rw [rows_none, rows_none])]
        refine ask_back g1 g2 (by omega) (by omega) hQ2 (fun j _ => ?_) (asc_le2 (p := (i0 : Int)) (q := (i1 : Int)) (lost_asc _ _ _) (fun x hx => ?_)) hQA hQB (by omega)
        · split
          · exact .inl rfl
          · split
            · exact .inl rfl
            · exact .inr rfl
        · obtain ⟨j, _, _, hz, rfl⟩ := (mem_lostN _ _ _ x).1 hx
          split at hz
          · rename_i c; exact .inr (by rw [c])
          · split at hz
            · rename_i c; exact .inl (by rw [c])
            · omega
      have hR2 : i0 ≠ i1 → i1 ≠ i2 → i0 ≠ i2 → gone (rows m L P ++ [tab n A, tab n B]) (rows m L P).length k [(i0 : Int), (i1 : Int), (i2 : Int)] = some ([], 30) := by
        intro n01 n12 n02
        rw [hall, hlen, gone_rows (L' := fun i => if i = i2 then 0 else if i = i1 then 0 else if i = i0 then 0 else n) (by
          show (((rows (m + 2) (fun _ => n) Q).set i0 []).set i1 []).set i2 [] = _
          rw [rows_none, rows_none, rows_none])]
        refine ask_many (n := n) g1 g2 (by omega) (by omega) (fun j _ => ?_) (len_ge3 (p := (i0 : Int)) (q := (i1 : Int)) (r := (i2 : Int)) ?_ ?_ ?_ (by omega) (by omega) (by omega)) (by omega)
        · split
          · exact .inl rfl
          · split
            · exact .inl rfl
            · split
              · exact .inl rfl
              · exact .inr rfl
        · exact (mem_lostN _ _ _ _).2 ⟨i0, by omega, by omega, by rw [if_neg n02, if_neg n01, if_pos rfl], rfl⟩
        · exact (mem_lostN _ _ _ _).2 ⟨i1, by omega, by omega, by rw [if_neg n12, if_pos rfl], rfl⟩
        · exact (mem_lostN _ _ _ _).2 ⟨i2, by omega, by omega, by rw [if_pos rfl], rfl⟩
      have hLd : (rows m L P ++ [tab n A, tab n B]).getD i0 [] = tab n (Q i0) := by rw [hall, rows_getD l0]
      refine law_full _ x0 x1 x2 t0 t1 hV hAw (by omega) hFew hMay (tab n A) (tab n B) hMake i0 i1 i2 ?_ ?_ ?_ (by omega) (by omega) (by omega) hR1 hR2 (tab n (Q i0)) hLd (by rw [tab_length]; omega) r ?_ (by rw [tab_length]; exact lr) ?_ ?_
      · rw [hlen, e0, ← nat_tmod h0.1 h0.2]; rfl
      · rw [hlen, e1, ← nat_tmod h1.1 h1.2]; rfl
      · rw [hlen, e2, ← nat_tmod h2.1 h2.2]; rfl
      · rw [tab_length, er, nat_tmod h3.1 h3.2]
      · intro x hx
        obtain ⟨j, hj, rfl⟩ := List.mem_map.1 hx
        have := hL j (List.mem_range.1 hj)
        exact same_f (by rw [tab_length]; omega) (by rw [tab_length]; omega)
      · intro ht
        obtain ⟨t, rfl⟩ : ∃ t : Nat, t1 = (t : Int) := ⟨t1.toNat, (Int.toNat_of_nonneg h4.1).symm⟩
        rw [hall, hlen, rd_tab lr, bx (hQ2 _ _) (by omega), tab_set, rows_set]
        have en : (fun i => if i = i0 then n else n) = fun _ => n := by funext i; split <;> rfl
        rw [en, gone_rows (L' := fun _ => n) rfl, ask_none g1 g2 (by omega) (by omega) (fun j i => ?_) (by omega), turned (i0 := i0) (r := r) (t := t) hQA hQB l0 lr (by omega) (fun j => rfl)]
        split
        · dsimp only
          split
          · exact xor_lt (hQ2 _ _) (by omega)
          · exact hQ2 _ _
        · exact hQ2 _ _
theorem restores {W : World} {A0 : Option Addr} {c0 : Nat} (l : List (List Int)) (x0 x1 x2 t0 t1 : Int) (hV : Kd.V Pt 30 W W.heap.size (fun _ => True) (.slice A0 l.length c0) l) (hm : l.length ≤ 9223372036854775807) (hb : ∀ r ∈ l, ∀ x ∈ r, 0 ≤ x ∧ x ≤ 255)
    (h0 : 0 ≤ x0 ∧ x0 ≤ 255) (h1 : 0 ≤ x1 ∧ x1 ≤ 255) (h2 : 0 ≤ x2 ∧ x2 ≤ 255) (h3 : 0 ≤ t0 ∧ t0 ≤ 255) (h4 : 0 ≤ t1 ∧ t1 ≤ 255) :
    Calls Try.prog 5 #[.slice A0 l.length c0, .agg #[.int .u8 x0, .int .u8 x1, .int .u8 x2], .agg #[.int .u8 t0, .int .u8 t1]] W fun e w' => e = .returned (.bool true) ∧ Below W.heap.size W w' := by
  obtain ⟨er, hr⟩ := rows_of hb
  have hlen : l.length = (rows l.length (fun j => (l.getD j []).length) (fun j i => ((l.getD j []).getD i 0).toNat)).length := by rw [rows_length]
  have h := restores_rows (A0 := A0) (c0 := c0) (W := W) (m := l.length) (L := fun j => (l.getD j []).length) (P := fun j i => ((l.getD j []).getD i 0).toNat) x0 x1 x2 t0 t1 (by rw [← hlen, ← er]; exact hV) hm hr h0 h1 h2 h3 h4
  rw [← hlen] at h
  exact h
end Go.Proofs.Ytibkckcpclkclaa.Bk
