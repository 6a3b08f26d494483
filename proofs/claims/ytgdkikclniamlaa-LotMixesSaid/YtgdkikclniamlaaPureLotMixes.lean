/- For every seed and every number the layer's mix is the document's mix, and has each number once; of no number that may not be mixed there is a mix: the statement LotMixes answers true. -/
import Derived.Test.YtgdkikclniamlaaMx2
namespace Go.Proofs.Ytgdkikclniamlaa.Pure
open Go.RowKit Go.Proofs.Ytgdkikclniamlaa.M Go.Proofs.YtgdkikclniamlaaW.PrintWords Go.Proofs.YtgdkikclniamlaaW.PrintLast
def st (s : Int) : Int := IntKind.u64.wrap (IntKind.u64.wrap (s * 6364136223846793005) + 1442695040888963407)
def hi (s : Int) : Int := st s / 8589934592
theorem st_rng (s : Int) : 0 ≤ st s ∧ st s < 18446744073709551616 := by
  unfold st
  generalize IntKind.u64.wrap (s * 6364136223846793005) + 1442695040888963407 = x
  rw [IntKind.wrap_u64]
  omega
theorem hi_rng (s : Int) : 0 ≤ hi s ∧ hi s < 2147483648 := by
  have := st_rng s
  unfold hi
  omega
theorem w_hi (s : Int) : wrap64 (hi s) = hi s := by
  have := hi_rng s
  unfold wrap64
  omega
theorem low_lot (s : Int) {n : Int} (hn : 1 ≤ n) : lot_Lot_Below.f s n = some (hi s % n, st s) := by
  have h : lot_Lot_Next.f s = some (hi s, st s) := by
    show some (wrap64 (st s / 8589934592), st s) = _
    rw [show st s / 8589934592 = hi s from rfl, w_hi]
  unfold lot_Lot_Below.f
  rw [if_neg (by omega), h, Option.bind_some, if_neg (by omega), Int.tmod_eq_emod_of_nonneg (hi_rng s).1]
theorem low_ref (s : Int) {n : Int} (hn : 1 ≤ n) : incunableref42_Lot_Below.f s n = some (hi s % n, st s) := by
  have e : IntKind.u64.wrap (IntKind.u64.wrap (6364136223846793005 * s) + 1442695040888963407) = st s := by rw [Int.mul_comm]; rfl
  have hr := hi_rng s
  have ht : Int.tdiv (st s) 8589934592 = hi s := Int.tdiv_eq_ediv_of_nonneg (st_rng s).1
  have hw : IntKind.u64.wrap (hi s) = hi s := by rw [IntKind.wrap_u64]; omega
  unfold incunableref42_Lot_Below.f
  rw [if_neg (by omega), e, ht, hw, w_hi, Int.tmod_eq_emod_of_nonneg hr.1]
/-- i steps of the mix, from place i down -/
def mixL : Nat → List Int → Int → List Int × Int
  | 0, l, s => (l, s)
  | i + 1, l, s => mixL i ((l.set (i + 1) (rd l (hi s % ((i + 2 : Nat) : Int)))).set (hi s % ((i + 2 : Nat) : Int)).toNat (rd l ((i + 1 : Nat) : Int))) (st s)
theorem ws {n : Nat} (h : n ≤ 1000000) : wrap64 ((n : Int) + 1) = ((n + 1 : Nat) : Int) := by unfold wrap64; omega
theorem wp {n : Nat} (h : n ≤ 1000000) : wrap64 (((n + 1 : Nat) : Int) - 1) = (n : Int) := by unfold wrap64; omega
theorem rem_rng (s : Int) (i : Nat) : 0 ≤ hi s % ((i + 2 : Nat) : Int) ∧ hi s % ((i + 2 : Nat) : Int) < ((i + 2 : Nat) : Int) := ⟨Int.emod_nonneg _ (by omega), Int.emod_lt_of_pos _ (by omega)⟩
theorem l1_lot : ∀ (i : Nat) (l : List Int) (s : Int) (k : Nat), i < l.length → l.length ≤ 70000 → i < k → lot_Lot_Mix.l1 k l (i : Int) s = some (mixL i l s) := by
  intro i
  induction i with
  | zero =>
    intro l s k hi hl hk
    obtain ⟨k, rfl⟩ : ∃ j, k = j + 1 := ⟨k - 1, by omega⟩
    simp only [lot_Lot_Mix.l1]
    rw [if_neg (by omega)]
    rfl
  | succ i ih =>
    intro l s k hi hl hk
    obtain ⟨k, rfl⟩ : ∃ j, k = j + 1 := ⟨k - 1, by omega⟩
    obtain ⟨r0, r1⟩ : 0 ≤ Pure.hi s % ((i + 1 + 1 : Nat) : Int) ∧ Pure.hi s % ((i + 1 + 1 : Nat) : Int) < ((i + 1 + 1 : Nat) : Int) := rem_rng s i
    simp only [lot_Lot_Mix.l1]
    rw [if_pos (by omega), ws (n := i + 1) (by omega), low_lot s (by omega), Option.bind_some]
    rw [if_pos r0, if_pos (by omega), if_pos (by omega), if_pos (by omega), wp (by omega), Int.toNat_natCast]
    exact ih _ _ k (by rw [List.length_set, List.length_set]; omega) (by rw [List.length_set, List.length_set]; omega) (by omega)
theorem l1_ref : ∀ (i : Nat) (l : List Int) (s : Int) (k : Nat), i < l.length → l.length ≤ 70000 → i < k → incunableref42_Lot_Mix.l1 k l (i : Int) s = some (mixL i l s) := by
  intro i
  induction i with
  | zero =>
    intro l s k hi hl hk
    obtain ⟨k, rfl⟩ : ∃ j, k = j + 1 := ⟨k - 1, by omega⟩
    simp only [incunableref42_Lot_Mix.l1]
    rw [if_neg (by omega)]
    rfl
  | succ i ih =>
    intro l s k hi hl hk
    obtain ⟨k, rfl⟩ : ∃ j, k = j + 1 := ⟨k - 1, by omega⟩
    obtain ⟨r0, r1⟩ : 0 ≤ Pure.hi s % ((i + 1 + 1 : Nat) : Int) ∧ Pure.hi s % ((i + 1 + 1 : Nat) : Int) < ((i + 1 + 1 : Nat) : Int) := rem_rng s i
    simp only [incunableref42_Lot_Mix.l1]
    rw [if_pos (by omega), ws (n := i + 1) (by omega), low_ref s (by omega), Option.bind_some]
    rw [if_pos (by omega), if_pos (by omega), if_pos r0, if_pos (by omega), wp (by omega), Int.toNat_natCast]
    exact ih _ _ k (by rw [List.length_set, List.length_set]; omega) (by rw [List.length_set, List.length_set]; omega) (by omega)
def iota (n : Nat) : List Int := (List.range n).map fun i : Nat => (i : Int)
theorem iota_length (n : Nat) : (iota n).length = n := by simp [iota]
theorem iota_succ (n : Nat) : iota (n + 1) = iota n ++ [(n : Int)] := by simp [iota, List.range_succ]
theorem l0_ref (n : Nat) (hn : n ≤ 70000) (hn1 : 1 ≤ n) (s : Int) : ∀ (d i k : Nat), i + d = n → d + n < k → incunableref42_Lot_Mix.l0 k (n : Int) (iota i) (i : Int) s = some (mixL (n - 1) (iota n) s) := by
  intro d
  induction d with
  | zero =>
    intro i k hi hk
    obtain rfl : i = n := by omega
    obtain ⟨k, rfl⟩ : ∃ j, k = j + 1 := ⟨k - 1, by omega⟩
    obtain ⟨m, rfl⟩ : ∃ m, i = m + 1 := ⟨i - 1, by omega⟩
    simp only [incunableref42_Lot_Mix.l0]
    rw [if_neg (by omega), wp (by omega)]
    exact l1_ref m _ s k (by rw [iota_length]; omega) (by rw [iota_length]; omega) (by omega)
  | succ d ih =>
    intro i k hi hk
    obtain ⟨k, rfl⟩ : ∃ j, k = j + 1 := ⟨k - 1, by omega⟩
    simp only [incunableref42_Lot_Mix.l0]
    rw [if_pos (by omega), if_pos (by rw [iota_length]; omega), ws (by omega), ← iota_succ]
    exact ih (i + 1) k (by omega) (by omega)
theorem fill_set (i d : Nat) : (iota i ++ List.replicate (d + 1) 0).set i (i : Int) = iota (i + 1) ++ List.replicate d 0 := by
  rw [List.set_append_right _ _ (by rw [iota_length]; exact Nat.le_refl _), iota_length, Nat.sub_self, List.replicate_succ, List.set_cons_zero, iota_succ, List.append_assoc]
  rfl
theorem l0_lot (n : Nat) (hn : n ≤ 70000) (hn1 : 1 ≤ n) (s : Int) : ∀ (d i k : Nat), i + d = n → d + n < k → lot_Lot_Mix.l0 k (n : Int) (iota i ++ List.replicate d 0) (n : Int) (i : Int) s = some (mixL (n - 1) (iota n) s) := by
  intro d
  induction d with
  | zero =>
    intro i k hi hk
    obtain rfl : i = n := by omega
    obtain ⟨k, rfl⟩ : ∃ j, k = j + 1 := ⟨k - 1, by omega⟩
    obtain ⟨m, rfl⟩ : ∃ m, i = m + 1 := ⟨i - 1, by omega⟩
    simp only [lot_Lot_Mix.l0]
    rw [if_neg (by omega), wp (by omega), List.replicate_zero, List.append_nil]
    exact l1_lot m _ s k (by rw [iota_length]; omega) (by rw [iota_length]; omega) (by omega)
  | succ d ih =>
    intro i k hi hk
    obtain ⟨k, rfl⟩ : ∃ j, k = j + 1 := ⟨k - 1, by omega⟩
    simp only [lot_Lot_Mix.l0]
    rw [if_pos (by omega), if_pos (by omega), if_pos (by rw [List.length_append, iota_length, List.length_replicate]; omega), Int.toNat_natCast, fill_set, ws (by omega)]
    exact ih (i + 1) k (by omega) (by omega)
theorem mix_lot (n : Nat) (hn : n ≤ 65536) (hn1 : 1 ≤ n) (s : Int) {k : Nat} (hk : 2 * n < k) : lot_Lot_Mix.f k s (n : Int) = some (mixL (n - 1) (iota n) s) := by
  have h := l0_lot n (by omega) hn1 s n 0 k (by omega) (by omega)
  unfold lot_Lot_Mix.f lot_within.f
  rw [if_pos (by omega), Option.bind_some, decide_eq_true (by omega), if_pos rfl, if_pos (by omega), Int.toNat_natCast, if_pos (by omega), Option.bind_some, List.length_replicate]
  exact h
theorem mix_none {n : Int} (hn : n < 1 ∨ 65536 < n) (s : Int) (k : Nat) : lot_Lot_Mix.f k s n = some ([], s) := by
  unfold lot_Lot_Mix.f lot_within.f
  by_cases c : n ≥ 1
  · rw [if_pos c, Option.bind_some, decide_eq_false (by omega), if_neg (by simp)]
  · rw [if_neg c, Option.bind_some, if_neg (by simp)]
theorem mix_ref (n : Nat) (hn : n ≤ 65536) (hn1 : 1 ≤ n) (s : Int) {k : Nat} (hk : 2 * n < k) : incunableref42_Lot_Mix.f k s (n : Int) = some (mixL (n - 1) (iota n) s) := by
  have h := l0_ref n (by omega) hn1 s n 0 k (by omega) (by omega)
  unfold incunableref42_Lot_Mix.f
  exact h
theorem rd_nat {l : List Int} {i : Nat} (h : i < l.length) : rd l (i : Int) = l[i] := by simp [rd, h]
theorem mixL_perm : ∀ (i : Nat) (l : List Int) (s : Int), i < l.length → List.Perm (mixL i l s).1 l
  | 0, l, s, _ => List.Perm.refl _
  | i + 1, l, s, h => by
    obtain ⟨r0, r1⟩ := rem_rng s i
    simp only [mixL]
    generalize hi s % ((i + 2 : Nat) : Int) = v at r0 r1 ⊢
    obtain ⟨v, rfl⟩ : ∃ m : Nat, v = (m : Int) := ⟨v.toNat, by omega⟩
    have hv : v < l.length := by omega
    rw [Int.toNat_natCast, rd_nat hv, rd_nat h]
    exact (mixL_perm i _ (st s) (by rw [List.length_set, List.length_set]; omega)).trans (List.set_set_perm h hv)
theorem ints_l (l : List Int) (hl : l.length ≤ 100000) (r : Nat) : ∀ k i : Nat, i + r = l.length → r < k → incunableref01_Ints.l0 k l l (i : Int) = some true := by
  induction r with
  | zero =>
    intro k i hi hk
    obtain ⟨k, rfl⟩ : ∃ j, k = j + 1 := ⟨k - 1, by omega⟩
    simp only [incunableref01_Ints.l0]
    rw [if_neg (by omega)]
  | succ r ih =>
    intro k i hi hk
    obtain ⟨k, rfl⟩ : ∃ j, k = j + 1 := ⟨k - 1, by omega⟩
    simp only [incunableref01_Ints.l0]
    rw [if_pos (by omega), if_pos (by omega), if_pos (by omega), if_pos trivial, ws (by omega)]
    exact ih k (i + 1) (by omega) (by omega)
theorem ints_f (l : List Int) (hl : l.length ≤ 100000) {k : Nat} (hk : l.length < k) : incunableref01_Ints.f k l l = some true := by
  unfold incunableref01_Ints.f
  rw [if_pos rfl]
  exact ints_l l hl l.length k 0 (by omega) hk
/-- which numbers were met -/
def met (n : Nat) (p : List Int) : List Bool := (List.range n).map fun j : Nat => decide ((j : Int) ∈ p)
theorem met_length (n : Nat) (p : List Int) : (met n p).length = n := by simp [met]
theorem met_nil (n : Nat) : met n [] = List.replicate n false := by
  apply List.ext_getElem
  · simp [met]
  · intro i h1 h2
    simp [met]
theorem met_rd {n v : Nat} {p : List Int} (h : v < n) : rdOf false (met n p) (v : Int) = decide ((v : Int) ∈ p) := by simp [rdOf, met, h]
theorem met_set {n v : Nat} {p : List Int} : (met n p).set v true = met n (p ++ [(v : Int)]) := by
  apply List.ext_getElem
  · simp [met]
  · intro i h1 h2
    rw [List.getElem_set]
    simp only [met, List.getElem_map, List.getElem_range, List.mem_append, List.mem_singleton]
    by_cases e : v = i
    · subst e; simp
    · have e' : ¬ (i : Int) = (v : Int) := by omega
      rw [if_neg e]
      simp [e']
theorem met_l (n : Nat) (m : List Int) (hm : m.length = n) (hn : n ≤ 70000) (hr : ∀ x ∈ m, 0 ≤ x ∧ x < (n : Int)) (hd : m.Nodup) : ∀ (d i k : Nat), i + d = n → d < k → incunablelaw42_LotMixes.l0 k (n : Int) (met n (m.take i)) m (n : Int) (i : Int) = some true := by
  intro d
  induction d with
  | zero =>
    intro i k hi hk
    obtain ⟨k, rfl⟩ : ∃ j, k = j + 1 := ⟨k - 1, by omega⟩
    simp only [incunablelaw42_LotMixes.l0]
    rw [if_neg (by omega)]
  | succ d ih =>
    intro i k hi hk
    obtain ⟨k, rfl⟩ : ∃ j, k = j + 1 := ⟨k - 1, by omega⟩
    have hlt : i < m.length := by omega
    obtain ⟨r0, r1⟩ := hr m[i] (List.getElem_mem hlt)
    have hnot : m[i] ∉ m.take i := by
      intro hin
      obtain ⟨j, hj, e⟩ := List.mem_take_iff_getElem.1 hin
      have := (List.getElem_inj (h₀ := by omega) (h₁ := hlt) hd).1 e
      omega
    have hts : m.take i ++ [m[i]] = m.take (i + 1) := by rw [List.take_append_getElem hlt]
    simp only [incunablelaw42_LotMixes.l0]
    rw [if_pos (by omega), if_pos (by omega), if_pos (by omega), rd_nat hlt]
    generalize m[i] = x at r0 r1 hnot hts ⊢
    obtain ⟨v, rfl⟩ : ∃ q : Nat, x = (q : Int) := ⟨x.toNat, by omega⟩
    rw [if_neg (by omega), if_neg (by omega), if_pos r0, if_pos (by rw [met_length]; exact r1), met_rd (by omega), decide_eq_false hnot, if_neg (by simp), Int.toNat_natCast, met_set, hts, ws (by omega)]
    exact ih (i + 1) k (by omega) (by omega)
theorem LotMixes : incunablelaw42_LotMixes.Pure := by
  intro s n hs hn
  obtain ⟨k, hk⟩ : ∃ k : Nat, 300000 ≤ k := ⟨300000, Nat.le_refl _⟩
  refine ⟨k + 2, ?_⟩
  unfold incunablelaw42_LotMixes.f incunablelaw42_awake.f
  rw [Option.bind_some, if_pos rfl]
  have hmain : ¬ (300 < n ∧ n ≤ 65536) → incunablelaw42_LotMixes.j0 (k + 2) s n false = some true := by
    intro hc
    simp only [incunablelaw42_LotMixes.j0]
    rw [if_neg (by simp)]
    by_cases c1 : n < 1
    · rw [mix_none (.inl c1), Option.bind_some, if_pos c1]
      simp only [incunablelaw42_LotMixes.j1]
      rw [if_pos trivial]
      rfl
    · by_cases c2 : n > 65536
      · rw [mix_none (.inr c2), Option.bind_some, if_neg c1, decide_eq_true c2]
        simp only [incunablelaw42_LotMixes.j1]
        rw [if_pos trivial]
        rfl
      · obtain ⟨n, rfl⟩ : ∃ q : Nat, n = (q : Int) := ⟨n.toNat, by omega⟩
        have h1 : 1 ≤ n := by omega
        have h2 : n ≤ 300 := by omega
        rw [mix_lot n (by omega) h1 s (by omega), Option.bind_some, if_neg c1, decide_eq_false c2]
        simp only [incunablelaw42_LotMixes.j1]
        have hp := mixL_perm (n - 1) (iota n) s (by rw [iota_length]; omega)
        have hl : (mixL (n - 1) (iota n) s).1.length = n := by rw [hp.length_eq, iota_length]
        have hd : (mixL (n - 1) (iota n) s).1.Nodup := by
          rw [hp.nodup_iff]
          unfold iota
          exact List.Pairwise.map _ (fun a b h e => h (by omega)) List.nodup_range
        have hr : ∀ x ∈ (mixL (n - 1) (iota n) s).1, 0 ≤ x ∧ x < (n : Int) := by
          intro x hx
          rw [hp.mem_iff] at hx
          obtain ⟨i, hi, rfl⟩ := List.mem_map.1 hx
          have := List.mem_range.1 hi
          omega
        rw [if_neg (by simp), if_pos (by omega), Int.toNat_natCast, if_pos (by omega), mix_ref n (by omega) h1 s (by omega), Option.bind_some]
        generalize (mixL (n - 1) (iota n) s).1 = m at hl hd hr ⊢
        rw [ints_f m (by omega) (by omega), Option.bind_some, if_pos rfl, if_pos (by omega), hl, ← met_nil n]
        exact met_l n m hl (by omega) hr hd n 0 k (by omega) (by omega)
  by_cases c : n > 300
  · rw [if_pos c]
    by_cases c2 : n ≤ 65536
    · rw [decide_eq_true c2]
      simp only [incunablelaw42_LotMixes.j0]
      rw [if_pos trivial]
    · rw [decide_eq_false c2]
      exact hmain (by omega)
  · rw [if_neg c]
    exact hmain (by omega)
end Go.Proofs.Ytgdkikclniamlaa.Pure
