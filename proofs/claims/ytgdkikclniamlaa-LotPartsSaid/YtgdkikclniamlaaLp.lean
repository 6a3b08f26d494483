/-
  LotParts in plain Lean: ops that are drawn one by one are those that are drawn at once; of a hundred of a hundred of one kind there is no other.
-/
import Derived.Test.YtgdkikclniamlaaMx5
namespace Go.Proofs.Ytgdkikclniamlaa.Lp
open Go.RowKit Go.Proofs.Ytgdkikclniamlaa.M Go.Proofs.YtgdkikclniamlaaW.PrintWords Go.Proofs.YtgdkikclniamlaaW.PrintLast
def st (s : Int) : Int := IntKind.u64.wrap (IntKind.u64.wrap (s * 6364136223846793005) + 1442695040888963407)
def hi (s : Int) : Int := st s / 8589934592
theorem st_rng (s : Int) : 0 ≤ st s ∧ st s < 18446744073709551616 := by
  unfold st
  generalize IntKind.u64.wrap (s * 6364136223846793005) + 1442695040888963407 = x
  rw [IntKind.wrap_u64]
  omega
theorem hi_rng (s : Int) : 0 ≤ hi s ∧ hi s < 2147483648 := by
  have := st_rng s
  unfold hi
  omega
theorem w_hi (s : Int) : wrap64 (hi s) = hi s := by
  have := hi_rng s
  unfold wrap64
  omega
theorem low_lot (s : Int) {n : Int} (hn : 1 ≤ n) : lot_Lot_Below.f s n = some (hi s % n, st s) := by
  have h : lot_Lot_Next.f s = some (hi s, st s) := by
    show some (wrap64 (st s / 8589934592), st s) = _
    rw [show st s / 8589934592 = hi s from rfl, w_hi]
  unfold lot_Lot_Below.f
  rw [if_neg (by omega), h, Option.bind_some, if_neg (by omega), Int.tmod_eq_emod_of_nonneg (hi_rng s).1]
theorem ws {n : Nat} (h : n ≤ 1000000) : wrap64 ((n : Int) + 1) = ((n + 1 : Nat) : Int) := by unfold wrap64; omega
theorem w_small {x : Int} (h : -1000000 ≤ x) (h' : x ≤ 1000000) : wrap64 x = x := by unfold wrap64; omega
/-- so many bytes -/
def bytesL : Nat → Int → List Int → List Int × Int
  | 0, s, out => (out, s)
  | n + 1, s, out => bytesL n (st s) (out ++ [(hi s % 256) % 256])
theorem bytesL_len : ∀ (n : Nat) (s : Int) (out : List Int), (bytesL n s out).1.length = out.length + n
  | 0, _, _ => rfl
  | n + 1, s, out => by
    simp only [bytesL]
    rw [bytesL_len n, List.length_append]
    simp only [List.length_cons, List.length_nil]
    omega
def kd (a3 a4 a5 b : Int) : Int := if b < a3 then 2 else (if b < a3 + a4 then 3 else (if b < a3 + a4 + a5 then 4 else 1))
def room (a1 a6 b : Int) : Int := if b < a6 then (a1 + 9) / 10 else a1
/-- an op -/
def drawF (a1 a2 a3 a4 a5 a6 s : Int) : Int × Int × List Int × Int :=
  if kd a3 a4 a5 (hi s % 100) = 4 then (4, 0, [], st s)
  else (if kd a3 a4 a5 (hi s % 100) = 1 then (1, hi (st (st s)) % room a1 a6 (hi (st s) % 100), (bytesL a2.toNat (st (st (st s))) []).1, (bytesL a2.toNat (st (st (st s))) []).2)
    else (kd a3 a4 a5 (hi s % 100), hi (st (st s)) % room a1 a6 (hi (st s) % 100), [], st (st (st s))))
theorem drawF_kind (a1 a2 a3 a4 a5 a6 s : Int) : (drawF a1 a2 a3 a4 a5 a6 s).1 = kd a3 a4 a5 (hi s % 100) := by
  unfold drawF
  split
  · rename_i h; exact h.symm
  · split
    · rename_i h; exact h.symm
    · rfl
theorem draw_l0 (N : Nat) (hN : N ≤ 8192) (a b : Int) : ∀ (d i k : Nat) (s : Int) (out : List Int), i + d = N → d < k → out.length + d ≤ 100000 → lot_draw.l0 k (N : Int) (i : Int) s a b out = some (a, b, (bytesL d s out).1, (bytesL d s out).2) := by
  intro d
  induction d with
  | zero =>
    intro i k s out hi hk ho
    obtain ⟨k, rfl⟩ : ∃ j, k = j + 1 := ⟨k - 1, by omega⟩
    simp only [lot_draw.l0]
    rw [if_neg (by omega)]
    rfl
  | succ d ih =>
    intro i k s out hi hk ho
    obtain ⟨k, rfl⟩ : ∃ j, k = j + 1 := ⟨k - 1, by omega⟩
    simp only [lot_draw.l0]
    rw [if_pos (by omega), low_lot s (by omega), Option.bind_some, if_pos (by omega), ws (by omega), ih (i + 1) k _ _ (by omega) (by omega) (by rw [List.length_append]; simp only [List.length_cons, List.length_nil]; omega)]
    rfl
theorem draw_j0 {a0 a1 a2 a3 a4 a5 a6 r s c : Int} (hr : 1 ≤ r) (h2 : 1 ≤ a2 ∧ a2 ≤ 8192) {k : Nat} (hk : 9000 ≤ k) : lot_draw.j0 k r s a0 a1 a2 a3 a4 a5 a6 c 0 = some (if c = 1 then (1, hi s % r, (bytesL a2.toNat (st s) []).1, (bytesL a2.toNat (st s) []).2) else (c, hi s % r, [], st s)) := by
  obtain ⟨k, rfl⟩ : ∃ j, k = j + 1 := ⟨k - 1, by omega⟩
  simp only [lot_draw.j0]
  rw [low_lot s hr, Option.bind_some]
  by_cases c1 : c = 1
  · obtain ⟨n, rfl⟩ : ∃ n : Nat, a2 = (n : Int) := ⟨a2.toNat, by omega⟩
    have h := draw_l0 n (by omega) c (hi s % r) n 0 k (st s) [] (by omega) (by omega) (by simp only [List.length_nil]; omega)
    rw [if_pos c1, if_pos c1, Int.toNat_natCast]
    rw [c1] at h ⊢
    exact h
  · rw [if_neg c1, if_neg c1]
theorem kind_f {a0 a1 a2 a3 a4 a5 a6 b : Int} (h3 : 0 ≤ a3 ∧ a3 ≤ 100) (h4 : 0 ≤ a4 ∧ a4 ≤ 100) (h5 : 0 ≤ a5 ∧ a5 ≤ 100) : lot_kind.f a0 a1 a2 a3 a4 a5 a6 b = some (kd a3 a4 a5 b) := by
  unfold lot_kind.f kd
  rw [w_small (x := a3 + a4) (by omega) (by omega), w_small (x := a3 + a4 + a5) (by omega) (by omega)]
  split
  · rfl
  · split
    · rfl
    · split <;> rfl
theorem draw_f {a0 a1 a2 a3 a4 a5 a6 : Int} (h : loadOk a0 a1 a2 a3 a4 a5 a6) (s : Int) {k : Nat} (hk : 9000 ≤ k) : lot_draw.f k a0 a1 a2 a3 a4 a5 a6 s = some (drawF a1 a2 a3 a4 a5 a6 s) := by
  obtain ⟨h3, h4, h5, h6, h0, h1, h2, hs⟩ := h
  unfold lot_draw.f drawF
  rw [low_lot s (by omega), Option.bind_some, kind_f h3 h4 h5, Option.bind_some]
  by_cases c4 : kd a3 a4 a5 (hi s % 100) = 4
  · rw [if_pos c4, if_pos c4, c4]
  · rw [if_neg c4, if_neg c4, low_lot (st s) (by omega), Option.bind_some]
    have hroom : 1 ≤ room a1 a6 (hi (st s) % 100) := by unfold room; split <;> omega
    have key : (if hi (st s) % 100 < a6 then lot_draw.j0 k (wrap64 (Int.tdiv (wrap64 (a1 + 9)) 10)) (st (st s)) a0 a1 a2 a3 a4 a5 a6 (kd a3 a4 a5 (hi s % 100)) 0 else lot_draw.j0 k a1 (st (st s)) a0 a1 a2 a3 a4 a5 a6 (kd a3 a4 a5 (hi s % 100)) 0) = lot_draw.j0 k (room a1 a6 (hi (st s) % 100)) (st (st s)) a0 a1 a2 a3 a4 a5 a6 (kd a3 a4 a5 (hi s % 100)) 0 := by
      unfold room
      by_cases c : hi (st s) % 100 < a6
      · rw [if_pos c, if_pos c, w_small (x := a1 + 9) (by omega) (by omega), Int.tdiv_eq_ediv_of_nonneg (by omega), w_small (by omega) (by omega)]
      · rw [if_neg c, if_neg c]
    rw [key, draw_j0 hroom h2 hk]
theorem drawF_len {a1 a2 a3 a4 a5 a6 s : Int} (h2 : 1 ≤ a2 ∧ a2 ≤ 8192) : (drawF a1 a2 a3 a4 a5 a6 s).2.2.1.length ≤ 8192 := by
  unfold drawF
  split
  · exact Nat.zero_le _
  · split
    · rw [bytesL_len]; simp only [List.length_nil]; omega
    · exact Nat.zero_le _
/-- so many ops -/
def opsL (F : Int → Int × Int × List Int × Int) : Nat → Int → List S43
  | 0, _ => []
  | n + 1, s => ⟨(F s).1, (F s).2.1, (F s).2.2.1⟩ :: opsL F n (F s).2.2.2
theorem opsL_len (F : Int → Int × Int × List Int × Int) : ∀ (n : Nat) (s : Int), (opsL F n s).length = n
  | 0, _ => rfl
  | n + 1, s => by simp only [opsL, List.length_cons]; rw [opsL_len F n]
theorem ops_l0 {a0 a1 a2 a3 a4 a5 a6 : Int} (h : loadOk a0 a1 a2 a3 a4 a5 a6) (N : Nat) (hN : N ≤ 4096) : ∀ (d i k : Nat) (s : Int) (out : List S43), i + d = N → d + 9000 < k → out.length + d ≤ 100000 → lot_Ops.l0 k out (N : Int) (i : Int) a0 a1 a2 a3 a4 a5 a6 s = some (out ++ opsL (drawF a1 a2 a3 a4 a5 a6) d s, 0) := by
  intro d
  induction d with
  | zero =>
    intro i k s out hi hk ho
    obtain ⟨k, rfl⟩ : ∃ j, k = j + 1 := ⟨k - 1, by omega⟩
    simp only [lot_Ops.l0, opsL]
    rw [if_neg (by omega), List.append_nil]
  | succ d ih =>
    intro i k s out hi hk ho
    obtain ⟨k, rfl⟩ : ∃ j, k = j + 1 := ⟨k - 1, by omega⟩
    simp only [lot_Ops.l0, opsL]
    rw [if_pos (by omega), draw_f h s (by omega), Option.bind_some, if_pos (by omega), ws (by omega), ih (i + 1) k _ _ (by omega) (by omega) (by rw [List.length_append]; simp only [List.length_cons, List.length_nil]; omega), List.append_assoc]
    rfl
theorem check_ok {a0 a1 a2 a3 a4 a5 a6 : Int} (h : loadOk a0 a1 a2 a3 a4 a5 a6) : lot_Check.f a0 a1 a2 a3 a4 a5 a6 = some 0 := by unfold lot_Check.f; rw [if_pos h]
theorem check_no {a0 a1 a2 a3 a4 a5 a6 : Int} (h : ¬ loadOk a0 a1 a2 a3 a4 a5 a6) : lot_Check.f a0 a1 a2 a3 a4 a5 a6 = some 2 := by unfold lot_Check.f; rw [if_neg h]
theorem ops_f {a0 a1 a2 a3 a4 a5 a6 : Int} (h : loadOk a0 a1 a2 a3 a4 a5 a6) (s : Int) {k : Nat} (hk : 20000 ≤ k) : lot_Ops.f k s a0 a1 a2 a3 a4 a5 a6 = some (opsL (drawF a1 a2 a3 a4 a5 a6) a0.toNat s, 0) := by
  have h0 := h.2.2.2.2.1
  obtain ⟨n, rfl⟩ : ∃ n : Nat, a0 = (n : Int) := ⟨a0.toNat, by omega⟩
  have hl := ops_l0 h n (by omega) n 0 k s [] (by omega) (by omega) (by simp only [List.length_nil]; omega)
  unfold lot_Ops.f lot_New.f
  rw [check_ok h, Option.bind_some, if_pos rfl, Option.bind_some, Int.toNat_natCast]
  exact hl
theorem op_f {a0 a1 a2 a3 a4 a5 a6 : Int} (h : loadOk a0 a1 a2 a3 a4 a5 a6) (s : Int) {k : Nat} (hk : 20000 ≤ k) : lot_Lot_Op.f k s a0 a1 a2 a3 a4 a5 a6 = some ((drawF a1 a2 a3 a4 a5 a6 s).1, (drawF a1 a2 a3 a4 a5 a6 s).2.1, (drawF a1 a2 a3 a4 a5 a6 s).2.2.1, 0, (drawF a1 a2 a3 a4 a5 a6 s).2.2.2) := by
  unfold lot_Lot_Op.f
  rw [check_ok h, Option.bind_some, if_pos rfl, draw_f h s (by omega), Option.bind_some]
theorem same_l (l : List Int) (hl : l.length ≤ 100000) (r : Nat) : ∀ k i : Nat, i + r = l.length → r < k → incunableref01_Same.l0 k l l (i : Int) = some true := by
  induction r with
  | zero =>
    intro k i hi hk
    obtain ⟨k, rfl⟩ : ∃ j, k = j + 1 := ⟨k - 1, by omega⟩
    simp only [incunableref01_Same.l0]
    rw [if_neg (by omega)]
  | succ r ih =>
    intro k i hi hk
    obtain ⟨k, rfl⟩ : ∃ j, k = j + 1 := ⟨k - 1, by omega⟩
    simp only [incunableref01_Same.l0]
    rw [if_pos (by omega), if_pos (by omega), if_pos (by omega), if_pos trivial, ws (by omega)]
    exact ih k (i + 1) (by omega) (by omega)
theorem same_eq (l : List Int) (hl : l.length ≤ 100000) {k : Nat} (hk : l.length < k) : incunableref01_Same.f k l l = some true := by
  unfold incunableref01_Same.f
  rw [if_pos rfl]
  exact same_l l hl l.length k 0 (by omega) hk
theorem rd_drop {l : List S43} {i : Nat} {x : S43} {r : List S43} (h : l.drop i = x :: r) : rd_T43 l (i : Int) = x ∧ i < l.length ∧ l.drop (i + 1) = r := by
  have hlt : i < l.length := by
    by_cases c : i < l.length
    · exact c
    · rw [List.drop_eq_nil_of_le (by omega)] at h; cases h
  rw [List.drop_eq_getElem_cons hlt] at h
  injection h with h1 h2
  refine ⟨?_, hlt, h2⟩
  rw [← h1]
  simp [rd_T43, hlt]
theorem parts_l1 {a0 a1 a2 a3 a4 a5 a6 want e1 e2 : Int} (F : Int → Int × Int × List Int × Int) (hF : ∀ s, (F s).1 = want) (x7 xs : List S43) (he1 : e1 = 0) (he2 : e2 = 0) (h7 : (x7.length : Int) = a0) (hx : (xs.length : Int) = a0) (hx2 : xs.length ≤ 100000) : ∀ (d i k : Nat) (s : Int), xs.drop i = opsL F d s → i + d = xs.length → d < k → incunablelaw42_LotParts.l1 k x7 e1 want xs e2 xs (xs.length : Int) (i : Int) a0 a1 a2 a3 a4 a5 a6 = some true := by
  intro d
  induction d with
  | zero =>
    intro i k s hd hi hk
    obtain ⟨k, rfl⟩ : ∃ j, k = j + 1 := ⟨k - 1, by omega⟩
    simp only [incunablelaw42_LotParts.l1]
    rw [if_neg (by omega), if_pos he1, if_pos he2, if_pos hx]
    congr 1
    exact beq_iff_eq.mpr h7
  | succ d ih =>
    intro i k s hd hi hk
    obtain ⟨k, rfl⟩ : ∃ j, k = j + 1 := ⟨k - 1, by omega⟩
    simp only [opsL] at hd
    obtain ⟨r1, r2, r3⟩ := rd_drop hd
    simp only [incunablelaw42_LotParts.l1]
    rw [if_pos (by omega), if_pos (by omega), if_pos (by omega), r1, if_pos (hF s), ws (by omega)]
    exact ih (i + 1) k _ r3 (by omega) (by omega)
theorem kd_two {s : Int} : kd 100 0 0 (hi s % 100) = 2 := by
  have := Int.emod_lt_of_pos (hi s) (show (0 : Int) < 100 by decide)
  unfold kd
  rw [if_pos this]
theorem kd_three {s : Int} : kd 0 100 0 (hi s % 100) = 3 := by
  have := Int.emod_lt_of_pos (hi s) (show (0 : Int) < 100 by decide)
  have := Int.emod_nonneg (hi s) (show (100 : Int) ≠ 0 by decide)
  unfold kd
  rw [if_neg (by omega), if_pos (by omega)]
theorem kd_four {s : Int} : kd 0 0 100 (hi s % 100) = 4 := by
  have := Int.emod_lt_of_pos (hi s) (show (0 : Int) < 100 by decide)
  have := Int.emod_nonneg (hi s) (show (100 : Int) ≠ 0 by decide)
  unfold kd
  rw [if_neg (by omega), if_neg (by omega), if_pos (by omega)]
theorem kd_one {s : Int} : kd 0 0 0 (hi s % 100) = 1 := by
  have := Int.emod_nonneg (hi s) (show (100 : Int) ≠ 0 by decide)
  unfold kd
  rw [if_neg (by omega), if_neg (by omega), if_neg (by omega)]
theorem parts_j2 {a0 a1 a2 b3 b4 b5 a6 want e1 : Int} (h : loadOk a0 a1 a2 b3 b4 b5 a6) (seed : Int) (x7 : List S43) (he1 : e1 = 0) (h7 : (x7.length : Int) = a0) (hk0 : ∀ s, kd b3 b4 b5 (hi s % 100) = want) {k : Nat} (hk : 30000 ≤ k) : incunablelaw42_LotParts.j2 k seed x7 e1 want a0 a1 a2 b3 b4 b5 a6 = some true := by
  have h0 := h.2.2.2.2.1
  obtain ⟨k, rfl⟩ : ∃ j, k = j + 1 := ⟨k - 1, by omega⟩
  have hl := opsL_len (drawF a1 a2 b3 b4 b5 a6) a0.toNat seed
  simp only [incunablelaw42_LotParts.j2]
  rw [ops_f h seed (by omega), Option.bind_some]
  exact parts_l1 (drawF a1 a2 b3 b4 b5 a6) (fun s => (drawF_kind ..).trans (hk0 s)) x7 _ he1 rfl h7 (by rw [hl]; omega) (by rw [hl]; omega) a0.toNat 0 k seed rfl (by rw [hl]; omega) (by omega)
theorem parts_l0 {a0 a1 a2 a3 a4 a5 a6 e1 x2 : Int} (h : loadOk a0 a1 a2 a3 a4 a5 a6) (seed : Int) (xs : List S43) (he1 : e1 = 0) (hx : (xs.length : Int) = a0) (h2 : 0 ≤ x2) : ∀ (d i k : Nat) (s : Int), xs.drop i = opsL (drawF a1 a2 a3 a4 a5 a6) d s → i + d = xs.length → d + 40000 < k → incunablelaw42_LotParts.l0 k seed x2 xs e1 xs (xs.length : Int) (i : Int) a0 a1 a2 a3 a4 a5 a6 s = some true := by
  have h0 := h.2.2.2.2.1
  intro d
  induction d with
  | zero =>
    intro i k s hd hi hk
    obtain ⟨k, rfl⟩ : ∃ j, k = j + 1 := ⟨k - 1, by omega⟩
    obtain ⟨h3, h4, h5, h6, h0', h1, h2', hs⟩ := h
    simp only [incunablelaw42_LotParts.l0]
    rw [if_neg (by omega), Int.tmod_eq_emod_of_nonneg h2]
    by_cases c0 : x2 % 4 = 0
    · rw [if_pos c0]
      exact parts_j2 ⟨by omega, by omega, by omega, h6, h0', h1, h2', by omega⟩ seed xs he1 hx (fun s => kd_two) (by omega)
    · rw [if_neg c0]
      by_cases c1 : x2 % 4 = 1
      · rw [if_pos c1]
        exact parts_j2 ⟨by omega, by omega, by omega, h6, h0', h1, h2', by omega⟩ seed xs he1 hx (fun s => kd_three) (by omega)
      · rw [if_neg c1]
        by_cases c2 : x2 % 4 = 2
        · rw [if_pos c2]
          exact parts_j2 ⟨by omega, by omega, by omega, h6, h0', h1, h2', by omega⟩ seed xs he1 hx (fun s => kd_four) (by omega)
        · rw [if_neg c2]
          exact parts_j2 ⟨by omega, by omega, by omega, h6, h0', h1, h2', by omega⟩ seed xs he1 hx (fun s => kd_one) (by omega)
  | succ d ih =>
    intro i k s hd hi hk
    obtain ⟨k, rfl⟩ : ∃ j, k = j + 1 := ⟨k - 1, by omega⟩
    have hlen := drawF_len (a1 := a1) (a3 := a3) (a4 := a4) (a5 := a5) (a6 := a6) (s := s) h.2.2.2.2.2.2.1
    simp only [opsL] at hd
    obtain ⟨r1, r2, r3⟩ := rd_drop hd
    have hsame : incunableref34_Same.f k (drawF a1 a2 a3 a4 a5 a6 s).1 (drawF a1 a2 a3 a4 a5 a6 s).2.1 (drawF a1 a2 a3 a4 a5 a6 s).2.2.1 (drawF a1 a2 a3 a4 a5 a6 s).1 (drawF a1 a2 a3 a4 a5 a6 s).2.1 (drawF a1 a2 a3 a4 a5 a6 s).2.2.1 = some true := by
      unfold incunableref34_Same.f
      rw [if_pos rfl, if_pos rfl, same_eq _ (by omega) (by omega), Option.bind_some]
    simp only [incunablelaw42_LotParts.l0]
    rw [if_pos (by omega), if_pos (by omega), if_pos (by omega), op_f h s (by omega), Option.bind_some, if_pos rfl, r1, hsame, Option.bind_some, if_pos rfl, ws (by omega)]
    exact ih (i + 1) k _ r3 (by omega) (by omega)
theorem parts (seed a0 a1 a2 a3 a4 a5 a6 x2 : Int) (h2 : 0 ≤ x2) : ∃ k, incunablelaw42_LotParts.f k seed a0 a1 a2 a3 a4 a5 a6 x2 = some true := by
  obtain ⟨k, hk⟩ : ∃ k : Nat, 100000 ≤ k := ⟨100000, Nat.le_refl _⟩
  refine ⟨k + 1, ?_⟩
  have ht : incunablelaw42_LotParts.j0 (k + 1) seed x2 true a0 a1 a2 a3 a4 a5 a6 = some true := by
    simp only [incunablelaw42_LotParts.j0]
    rw [if_pos trivial]
  unfold incunablelaw42_LotParts.f incunablelaw42_awake.f
  rw [Option.bind_some, if_pos rfl]
  by_cases c0 : a0 > 40
  · rw [if_pos c0]; exact ht
  · rw [if_neg c0]
    by_cases c2 : a2 > 40
    · rw [if_pos c2]; exact ht
    · rw [if_neg c2]
      by_cases h : loadOk a0 a1 a2 a3 a4 a5 a6
      · rw [check_ok h, Option.bind_some]
        have e : ((0 : Int) != 0) = false := rfl
        have h0 := h.2.2.2.2.1
        have hl := opsL_len (drawF a1 a2 a3 a4 a5 a6) a0.toNat seed
        rw [e]
        simp only [incunablelaw42_LotParts.j0]
        rw [if_neg (by simp), ops_f h seed (by omega), Option.bind_some]
        unfold lot_New.f
        rw [Option.bind_some]
        exact parts_l0 h seed _ rfl (by rw [hl]; omega) h2 a0.toNat 0 k seed rfl (by rw [hl]; omega) (by omega)
      · rw [check_no h, Option.bind_some]
        exact ht
end Go.Proofs.Ytgdkikclniamlaa.Lp
