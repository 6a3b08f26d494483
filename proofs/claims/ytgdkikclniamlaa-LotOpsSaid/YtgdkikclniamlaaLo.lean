/-
  LotOps in plain Lean: the ops of the package and of the reference are the same, right, of sectors that there are.
-/
import Derived.Test.YtgdkikclniamlaaMx7
namespace Go.Proofs.Ytgdkikclniamlaa.Lo
open Go.RowKit Go.Proofs.Ytgdkikclniamlaa.M Go.Proofs.YtgdkikclniamlaaW.PrintWords Go.Proofs.YtgdkikclniamlaaW.PrintLast
def st (s : Int) : Int := IntKind.u64.wrap (IntKind.u64.wrap (s * 6364136223846793005) + 1442695040888963407)
def hi (s : Int) : Int := st s / 8589934592
theorem st_rng (s : Int) : 0 ≤ st s ∧ st s < 18446744073709551616 := by
  unfold st
  generalize IntKind.u64.wrap (s * 6364136223846793005) + 1442695040888963407 = x
  rw [IntKind.wrap_u64]
  omega
theorem hi_rng (s : Int) : 0 ≤ hi s ∧ hi s < 2147483648 := by
  have := st_rng s
  unfold hi
  omega
theorem w_hi (s : Int) : wrap64 (hi s) = hi s := by
  have := hi_rng s
  unfold wrap64
  omega
theorem low_lot (s : Int) {n : Int} (hn : 1 ≤ n) : lot_Lot_Below.f s n = some (hi s % n, st s) := by
  have h : lot_Lot_Next.f s = some (hi s, st s) := by
    show some (wrap64 (st s / 8589934592), st s) = _
    rw [show st s / 8589934592 = hi s from rfl, w_hi]
  unfold lot_Lot_Below.f
  rw [if_neg (by omega), h, Option.bind_some, if_neg (by omega), Int.tmod_eq_emod_of_nonneg (hi_rng s).1]
theorem ws {n : Nat} (h : n ≤ 1000000) : wrap64 ((n : Int) + 1) = ((n + 1 : Nat) : Int) := by unfold wrap64; omega
theorem w_small {x : Int} (h : -1000000 ≤ x) (h' : x ≤ 1000000) : wrap64 x = x := by unfold wrap64; omega
/-- so many bytes -/
def bytesL : Nat → Int → List Int → List Int × Int
  | 0, s, out => (out, s)
  | n + 1, s, out => bytesL n (st s) (out ++ [(hi s % 256) % 256])
theorem bytesL_len : ∀ (n : Nat) (s : Int) (out : List Int), (bytesL n s out).1.length = out.length + n
  | 0, _, _ => rfl
  | n + 1, s, out => by
    simp only [bytesL]
    rw [bytesL_len n, List.length_append]
    simp only [List.length_cons, List.length_nil]
    omega
def kd (a3 a4 a5 b : Int) : Int := if b < a3 then 2 else (if b < a3 + a4 then 3 else (if b < a3 + a4 + a5 then 4 else 1))
def room (a1 a6 b : Int) : Int := if b < a6 then (a1 + 9) / 10 else a1
/-- an op -/
def drawF (a1 a2 a3 a4 a5 a6 s : Int) : Int × Int × List Int × Int :=
  if kd a3 a4 a5 (hi s % 100) = 4 then (4, 0, [], st s)
  else (if kd a3 a4 a5 (hi s % 100) = 1 then (1, hi (st (st s)) % room a1 a6 (hi (st s) % 100), (bytesL a2.toNat (st (st (st s))) []).1, (bytesL a2.toNat (st (st (st s))) []).2)
    else (kd a3 a4 a5 (hi s % 100), hi (st (st s)) % room a1 a6 (hi (st s) % 100), [], st (st (st s))))
theorem drawF_kind (a1 a2 a3 a4 a5 a6 s : Int) : (drawF a1 a2 a3 a4 a5 a6 s).1 = kd a3 a4 a5 (hi s % 100) := by
  unfold drawF
  split
  · rename_i h; exact h.symm
  · split
    · rename_i h; exact h.symm
    · rfl
theorem draw_l0 (N : Nat) (hN : N ≤ 8192) (a b : Int) : ∀ (d i k : Nat) (s : Int) (out : List Int), i + d = N → d < k → out.length + d ≤ 100000 → lot_draw.l0 k (N : Int) (i : Int) s a b out = some (a, b, (bytesL d s out).1, (bytesL d s out).2) := by
  intro d
  induction d with
  | zero =>
    intro i k s out hi hk ho
    obtain ⟨k, rfl⟩ : ∃ j, k = j + 1 := ⟨k - 1, by omega⟩
    simp only [lot_draw.l0]
    rw [if_neg (by omega)]
    rfl
  | succ d ih =>
    intro i k s out hi hk ho
    obtain ⟨k, rfl⟩ : ∃ j, k = j + 1 := ⟨k - 1, by omega⟩
    simp only [lot_draw.l0]
    rw [if_pos (by omega), low_lot s (by omega), Option.bind_some, if_pos (by omega), ws (by omega), ih (i + 1) k _ _ (by omega) (by omega) (by rw [List.length_append]; simp only [List.length_cons, List.length_nil]; omega)]
    rfl
theorem draw_j0 {a0 a1 a2 a3 a4 a5 a6 r s c : Int} (hr : 1 ≤ r) (h2 : 1 ≤ a2 ∧ a2 ≤ 8192) {k : Nat} (hk : 9000 ≤ k) : lot_draw.j0 k r s a0 a1 a2 a3 a4 a5 a6 c 0 = some (if c = 1 then (1, hi s % r, (bytesL a2.toNat (st s) []).1, (bytesL a2.toNat (st s) []).2) else (c, hi s % r, [], st s)) := by
  obtain ⟨k, rfl⟩ : ∃ j, k = j + 1 := ⟨k - 1, by omega⟩
  simp only [lot_draw.j0]
  rw [low_lot s hr, Option.bind_some]
  by_cases c1 : c = 1
  · obtain ⟨n, rfl⟩ : ∃ n : Nat, a2 = (n : Int) := ⟨a2.toNat, by omega⟩
    have h := draw_l0 n (by omega) c (hi s % r) n 0 k (st s) [] (by omega) (by omega) (by simp only [List.length_nil]; omega)
    rw [if_pos c1, if_pos c1, Int.toNat_natCast]
    rw [c1] at h ⊢
    exact h
  · rw [if_neg c1, if_neg c1]
theorem kind_f {a0 a1 a2 a3 a4 a5 a6 b : Int} (h3 : 0 ≤ a3 ∧ a3 ≤ 100) (h4 : 0 ≤ a4 ∧ a4 ≤ 100) (h5 : 0 ≤ a5 ∧ a5 ≤ 100) : lot_kind.f a0 a1 a2 a3 a4 a5 a6 b = some (kd a3 a4 a5 b) := by
  unfold lot_kind.f kd
  rw [w_small (x := a3 + a4) (by omega) (by omega), w_small (x := a3 + a4 + a5) (by omega) (by omega)]
  split
  · rfl
  · split
    · rfl
    · split <;> rfl
theorem draw_f {a0 a1 a2 a3 a4 a5 a6 : Int} (h : loadOk a0 a1 a2 a3 a4 a5 a6) (s : Int) {k : Nat} (hk : 9000 ≤ k) : lot_draw.f k a0 a1 a2 a3 a4 a5 a6 s = some (drawF a1 a2 a3 a4 a5 a6 s) := by
  obtain ⟨h3, h4, h5, h6, h0, h1, h2, hs⟩ := h
  unfold lot_draw.f drawF
  rw [low_lot s (by omega), Option.bind_some, kind_f h3 h4 h5, Option.bind_some]
  by_cases c4 : kd a3 a4 a5 (hi s % 100) = 4
  · rw [if_pos c4, if_pos c4, c4]
  · rw [if_neg c4, if_neg c4, low_lot (st s) (by omega), Option.bind_some]
    have hroom : 1 ≤ room a1 a6 (hi (st s) % 100) := by unfold room; split <;> omega
    have key : (if hi (st s) % 100 < a6 then lot_draw.j0 k (wrap64 (Int.tdiv (wrap64 (a1 + 9)) 10)) (st (st s)) a0 a1 a2 a3 a4 a5 a6 (kd a3 a4 a5 (hi s % 100)) 0 else lot_draw.j0 k a1 (st (st s)) a0 a1 a2 a3 a4 a5 a6 (kd a3 a4 a5 (hi s % 100)) 0) = lot_draw.j0 k (room a1 a6 (hi (st s) % 100)) (st (st s)) a0 a1 a2 a3 a4 a5 a6 (kd a3 a4 a5 (hi s % 100)) 0 := by
      unfold room
      by_cases c : hi (st s) % 100 < a6
      · rw [if_pos c, if_pos c, w_small (x := a1 + 9) (by omega) (by omega), Int.tdiv_eq_ediv_of_nonneg (by omega), w_small (by omega) (by omega)]
      · rw [if_neg c, if_neg c]
    rw [key, draw_j0 hroom h2 hk]
theorem drawF_len {a1 a2 a3 a4 a5 a6 s : Int} (h2 : 1 ≤ a2 ∧ a2 ≤ 8192) : (drawF a1 a2 a3 a4 a5 a6 s).2.2.1.length ≤ 8192 := by
  unfold drawF
  split
  · exact Nat.zero_le _
  · split
    · rw [bytesL_len]; simp only [List.length_nil]; omega
    · exact Nat.zero_le _
/-- so many ops -/
def opsL (F : Int → Int × Int × List Int × Int) : Nat → Int → List S43
  | 0, _ => []
  | n + 1, s => ⟨(F s).1, (F s).2.1, (F s).2.2.1⟩ :: opsL F n (F s).2.2.2
theorem opsL_len (F : Int → Int × Int × List Int × Int) : ∀ (n : Nat) (s : Int), (opsL F n s).length = n
  | 0, _ => rfl
  | n + 1, s => by simp only [opsL, List.length_cons]; rw [opsL_len F n]
theorem ops_l0 {a0 a1 a2 a3 a4 a5 a6 : Int} (h : loadOk a0 a1 a2 a3 a4 a5 a6) (N : Nat) (hN : N ≤ 4096) : ∀ (d i k : Nat) (s : Int) (out : List S43), i + d = N → d + 9000 < k → out.length + d ≤ 100000 → lot_Ops.l0 k out (N : Int) (i : Int) a0 a1 a2 a3 a4 a5 a6 s = some (out ++ opsL (drawF a1 a2 a3 a4 a5 a6) d s, 0) := by
  intro d
  induction d with
  | zero =>
    intro i k s out hi hk ho
    obtain ⟨k, rfl⟩ : ∃ j, k = j + 1 := ⟨k - 1, by omega⟩
    simp only [lot_Ops.l0, opsL]
    rw [if_neg (by omega), List.append_nil]
  | succ d ih =>
    intro i k s out hi hk ho
    obtain ⟨k, rfl⟩ : ∃ j, k = j + 1 := ⟨k - 1, by omega⟩
    simp only [lot_Ops.l0, opsL]
    rw [if_pos (by omega), draw_f h s (by omega), Option.bind_some, if_pos (by omega), ws (by omega), ih (i + 1) k _ _ (by omega) (by omega) (by rw [List.length_append]; simp only [List.length_cons, List.length_nil]; omega), List.append_assoc]
    rfl
theorem check_ok {a0 a1 a2 a3 a4 a5 a6 : Int} (h : loadOk a0 a1 a2 a3 a4 a5 a6) : lot_Check.f a0 a1 a2 a3 a4 a5 a6 = some 0 := by unfold lot_Check.f; rw [if_pos h]
theorem check_no {a0 a1 a2 a3 a4 a5 a6 : Int} (h : ¬ loadOk a0 a1 a2 a3 a4 a5 a6) : lot_Check.f a0 a1 a2 a3 a4 a5 a6 = some 2 := by unfold lot_Check.f; rw [if_neg h]
theorem ops_f {a0 a1 a2 a3 a4 a5 a6 : Int} (h : loadOk a0 a1 a2 a3 a4 a5 a6) (s : Int) {k : Nat} (hk : 20000 ≤ k) : lot_Ops.f k s a0 a1 a2 a3 a4 a5 a6 = some (opsL (drawF a1 a2 a3 a4 a5 a6) a0.toNat s, 0) := by
  have h0 := h.2.2.2.2.1
  obtain ⟨n, rfl⟩ : ∃ n : Nat, a0 = (n : Int) := ⟨a0.toNat, by omega⟩
  have hl := ops_l0 h n (by omega) n 0 k s [] (by omega) (by omega) (by simp only [List.length_nil]; omega)
  unfold lot_Ops.f lot_New.f
  rw [check_ok h, Option.bind_some, if_pos rfl, Option.bind_some, Int.toNat_natCast]
  exact hl
theorem op_f {a0 a1 a2 a3 a4 a5 a6 : Int} (h : loadOk a0 a1 a2 a3 a4 a5 a6) (s : Int) {k : Nat} (hk : 20000 ≤ k) : lot_Lot_Op.f k s a0 a1 a2 a3 a4 a5 a6 = some ((drawF a1 a2 a3 a4 a5 a6 s).1, (drawF a1 a2 a3 a4 a5 a6 s).2.1, (drawF a1 a2 a3 a4 a5 a6 s).2.2.1, 0, (drawF a1 a2 a3 a4 a5 a6 s).2.2.2) := by
  unfold lot_Lot_Op.f
  rw [check_ok h, Option.bind_some, if_pos rfl, draw_f h s (by omega), Option.bind_some]
theorem same_l (l : List Int) (hl : l.length ≤ 100000) (r : Nat) : ∀ k i : Nat, i + r = l.length → r < k → incunableref01_Same.l0 k l l (i : Int) = some true := by
  induction r with
  | zero =>
    intro k i hi hk
    obtain ⟨k, rfl⟩ : ∃ j, k = j + 1 := ⟨k - 1, by omega⟩
    simp only [incunableref01_Same.l0]
    rw [if_neg (by omega)]
  | succ r ih =>
    intro k i hi hk
    obtain ⟨k, rfl⟩ : ∃ j, k = j + 1 := ⟨k - 1, by omega⟩
    simp only [incunableref01_Same.l0]
    rw [if_pos (by omega), if_pos (by omega), if_pos (by omega), if_pos trivial, ws (by omega)]
    exact ih k (i + 1) (by omega) (by omega)
theorem same_eq (l : List Int) (hl : l.length ≤ 100000) {k : Nat} (hk : l.length < k) : incunableref01_Same.f k l l = some true := by
  unfold incunableref01_Same.f
  rw [if_pos rfl]
  exact same_l l hl l.length k 0 (by omega) hk
theorem rd_drop {l : List S43} {i : Nat} {x : S43} {r : List S43} (h : l.drop i = x :: r) : rd_T43 l (i : Int) = x ∧ i < l.length ∧ l.drop (i + 1) = r := by
  have hlt : i < l.length := by
    by_cases c : i < l.length
    · exact c
    · rw [List.drop_eq_nil_of_le (by omega)] at h; cases h
  rw [List.drop_eq_getElem_cons hlt] at h
  injection h with h1 h2
  refine ⟨?_, hlt, h2⟩
  rw [← h1]
  simp [rd_T43, hlt]
theorem low_ref (s : Int) {n : Int} (hn : 1 ≤ n) : incunableref42_Lot_Below.f s n = some (hi s % n, st s) := by
  have e : IntKind.u64.wrap (IntKind.u64.wrap (6364136223846793005 * s) + 1442695040888963407) = st s := by rw [Int.mul_comm]; rfl
  have hr := hi_rng s
  have ht : Int.tdiv (st s) 8589934592 = hi s := Int.tdiv_eq_ediv_of_nonneg (st_rng s).1
  have hw : IntKind.u64.wrap (hi s) = hi s := by rw [IntKind.wrap_u64]; omega
  unfold incunableref42_Lot_Below.f
  rw [if_neg (by omega), e, ht, hw, w_hi, Int.tmod_eq_emod_of_nonneg hr.1]
theorem from_f (a b c : Int) : incunableref42_from.f a b c = some (decide (b ≤ a ∧ a ≤ c)) := by
  unfold incunableref42_from.f
  by_cases h : a ≥ b
  · rw [if_pos h]
    by_cases h' : a ≤ c
    · rw [decide_eq_true h', decide_eq_true ⟨h, h'⟩]
    · rw [decide_eq_false h', decide_eq_false (fun x => h' x.2)]
  · rw [if_neg h, decide_eq_false (fun x => h x.1)]
theorem may_true (k : Nat) (a0 a1 a2 a3 a4 a5 a6 : Int) : incunableref42_May.j0 (k + 1) true a0 a1 a2 a3 a4 a5 a6 = some false := by
  simp only [incunableref42_May.j0]
  rw [if_pos trivial]
theorem may_false {k : Nat} {a0 a1 a2 a3 a4 a5 a6 : Int} (h0 : 0 ≤ a0 ∧ a0 ≤ 4096) (h1 : 1 ≤ a1 ∧ a1 ≤ 65536) (h2 : 1 ≤ a2 ∧ a2 ≤ 8192) : incunableref42_May.j0 (k + 1) false a0 a1 a2 a3 a4 a5 a6 = some (decide (loadOk a0 a1 a2 a3 a4 a5 a6)) := by
  simp only [incunableref42_May.j0]
  rw [if_neg (by simp), from_f, Option.bind_some]
  by_cases h3 : 0 ≤ a3 ∧ a3 ≤ 100
  · rw [if_pos (decide_eq_true h3), from_f, Option.bind_some]
    by_cases h4 : 0 ≤ a4 ∧ a4 ≤ 100
    · rw [if_pos (decide_eq_true h4), from_f, Option.bind_some]
      by_cases h5 : 0 ≤ a5 ∧ a5 ≤ 100
      · rw [if_pos (decide_eq_true h5), from_f, Option.bind_some]
        by_cases h6 : 0 ≤ a6 ∧ a6 ≤ 100
        · rw [if_pos (decide_eq_true h6), w_small (x := a3 + a4) (by omega) (by omega), w_small (x := a3 + a4 + a5) (by omega) (by omega)]
          by_cases hs : a3 + a4 + a5 ≤ 100
          · rw [decide_eq_true hs, decide_eq_true (show loadOk a0 a1 a2 a3 a4 a5 a6 from ⟨h3, h4, h5, h6, h0, h1, h2, hs⟩)]
          · rw [decide_eq_false hs, decide_eq_false (fun h : loadOk a0 a1 a2 a3 a4 a5 a6 => hs h.2.2.2.2.2.2.2)]
        · rw [if_neg (by simpa using h6), decide_eq_false (fun h : loadOk a0 a1 a2 a3 a4 a5 a6 => h6 h.2.2.2.1)]
      · rw [if_neg (by simpa using h5), decide_eq_false (fun h : loadOk a0 a1 a2 a3 a4 a5 a6 => h5 h.2.2.1)]
    · rw [if_neg (by simpa using h4), decide_eq_false (fun h : loadOk a0 a1 a2 a3 a4 a5 a6 => h4 h.2.1)]
  · rw [if_neg (by simpa using h3), decide_eq_false (fun h : loadOk a0 a1 a2 a3 a4 a5 a6 => h3 h.1)]
theorem may_f (a0 a1 a2 a3 a4 a5 a6 : Int) {k : Nat} (hk : 1 ≤ k) : incunableref42_May.f k a0 a1 a2 a3 a4 a5 a6 = some (decide (loadOk a0 a1 a2 a3 a4 a5 a6)) := by
  obtain ⟨k, rfl⟩ : ∃ j, k = j + 1 := ⟨k - 1, by omega⟩
  unfold incunableref42_May.f
  rw [from_f, Option.bind_some]
  by_cases h0 : 0 ≤ a0 ∧ a0 ≤ 4096
  · rw [if_pos (decide_eq_true h0), from_f, Option.bind_some]
    by_cases h1 : 1 ≤ a1 ∧ a1 ≤ 65536
    · rw [if_pos (decide_eq_true h1), from_f, Option.bind_some]
      by_cases h2 : 1 ≤ a2 ∧ a2 ≤ 8192
      · rw [decide_eq_true h2]
        exact may_false h0 h1 h2
      · rw [decide_eq_false h2, decide_eq_false (fun h : loadOk a0 a1 a2 a3 a4 a5 a6 => h2 h.2.2.2.2.2.2.1)]
        exact may_true ..
    · rw [if_neg (by simpa using h1), decide_eq_false (fun h : loadOk a0 a1 a2 a3 a4 a5 a6 => h1 h.2.2.2.2.2.1)]
      exact may_true ..
  · rw [if_neg (by simpa using h0), decide_eq_false (fun h : loadOk a0 a1 a2 a3 a4 a5 a6 => h0 h.2.2.2.2.1)]
    exact may_true ..
theorem ref_l0 (N : Nat) (hN : N ≤ 8192) (a0 a1 a3 a4 a5 a6 a b : Int) : ∀ (d i k : Nat) (s : Int) (out : List Int), i + d = N → d < k → out.length + d ≤ 100000 → incunableref42_Lot_Op.l0 k (i : Int) s a0 a1 (N : Int) a3 a4 a5 a6 a b out = some (a, b, (bytesL d s out).1, (bytesL d s out).2) := by
  intro d
  induction d with
  | zero =>
    intro i k s out hi hk ho
    obtain ⟨k, rfl⟩ : ∃ j, k = j + 1 := ⟨k - 1, by omega⟩
    simp only [incunableref42_Lot_Op.l0]
    rw [if_neg (by omega)]
    rfl
  | succ d ih =>
    intro i k s out hi hk ho
    obtain ⟨k, rfl⟩ : ∃ j, k = j + 1 := ⟨k - 1, by omega⟩
    simp only [incunableref42_Lot_Op.l0]
    rw [if_pos (by omega), low_ref s (by omega), Option.bind_some, if_pos (by omega), ws (by omega), ih (i + 1) k _ _ (by omega) (by omega) (by rw [List.length_append]; simp only [List.length_cons, List.length_nil]; omega)]
    rfl
theorem ref_j2 {a0 a1 a2 a3 a4 a5 a6 c b s : Int} (h2 : 1 ≤ a2 ∧ a2 ≤ 8192) {k : Nat} (hk : 9000 ≤ k) : incunableref42_Lot_Op.j2 k s a0 a1 a2 a3 a4 a5 a6 c b = some (if c = 1 then (1, b, (bytesL a2.toNat s []).1, (bytesL a2.toNat s []).2) else (c, b, [], s)) := by
  obtain ⟨k, rfl⟩ : ∃ j, k = j + 1 := ⟨k - 1, by omega⟩
  simp only [incunableref42_Lot_Op.j2]
  by_cases c1 : c = 1
  · obtain ⟨n, rfl⟩ : ∃ n : Nat, a2 = (n : Int) := ⟨a2.toNat, by omega⟩
    have h := ref_l0 n (by omega) a0 a1 a3 a4 a5 a6 c b n 0 k s [] (by omega) (by omega) (by simp only [List.length_nil]; omega)
    rw [if_pos c1, if_pos c1, Int.toNat_natCast]
    rw [c1] at h ⊢
    exact h
  · rw [if_neg c1, if_neg c1]
theorem ref_j1 {a0 a1 a2 a3 a4 a5 a6 c s : Int} (h1 : 1 ≤ a1 ∧ a1 ≤ 65536) (h2 : 1 ≤ a2 ∧ a2 ≤ 8192) {k : Nat} (hk : 9001 ≤ k) : incunableref42_Lot_Op.j1 k s a0 a1 a2 a3 a4 a5 a6 c 0 = some (if c = 1 then (1, hi (st s) % room a1 a6 (hi s % 100), (bytesL a2.toNat (st (st s)) []).1, (bytesL a2.toNat (st (st s)) []).2) else (c, hi (st s) % room a1 a6 (hi s % 100), [], st (st s))) := by
  obtain ⟨k, rfl⟩ : ∃ j, k = j + 1 := ⟨k - 1, by omega⟩
  simp only [incunableref42_Lot_Op.j1]
  rw [low_ref s (by omega), Option.bind_some]
  have ht : wrap64 (Int.tdiv a1 10) = a1 / 10 := by rw [Int.tdiv_eq_ediv_of_nonneg (by omega), w_small (by omega) (by omega)]
  by_cases c6 : hi s % 100 < a6
  · rw [if_pos c6, ht, w_small (x := a1 / 10 * 10) (by omega) (by omega)]
    by_cases c7 : a1 / 10 * 10 < a1
    · rw [if_pos c7, w_small (x := a1 / 10 + 1) (by omega) (by omega), low_ref (st s) (by omega), Option.bind_some, ref_j2 h2 (by omega)]
      have : a1 / 10 + 1 = room a1 a6 (hi s % 100) := by unfold room; rw [if_pos c6]; omega
      rw [this]
    · rw [if_neg c7, low_ref (st s) (by omega), Option.bind_some, ref_j2 h2 (by omega)]
      have : a1 / 10 = room a1 a6 (hi s % 100) := by unfold room; rw [if_pos c6]; omega
      rw [this]
  · rw [if_neg c6, low_ref (st s) (by omega), Option.bind_some, ref_j2 h2 (by omega)]
    have : a1 = room a1 a6 (hi s % 100) := by unfold room; rw [if_neg c6]
    rw [← this]
theorem ref_f {a0 a1 a2 a3 a4 a5 a6 : Int} (h : loadOk a0 a1 a2 a3 a4 a5 a6) (s : Int) {k : Nat} (hk : 20000 ≤ k) : incunableref42_Lot_Op.f k s a0 a1 a2 a3 a4 a5 a6 = some (drawF a1 a2 a3 a4 a5 a6 s) := by
  obtain ⟨k, rfl⟩ : ∃ j, k = j + 1 := ⟨k - 1, by omega⟩
  obtain ⟨h3, h4, h5, h6, h0, h1, h2, hs⟩ := h
  unfold incunableref42_Lot_Op.f
  rw [low_ref s (by omega), Option.bind_some, w_small (x := a3 + a4) (by omega) (by omega), w_small (x := a3 + a4 + a5) (by omega) (by omega)]
  by_cases c3 : hi s % 100 < a3
  · have hc : kd a3 a4 a5 (hi s % 100) = 2 := by unfold kd; rw [if_pos c3]
    rw [if_neg (show ¬ (hi s % 100 ≥ a3 + a4) by omega)]
    simp only [incunableref42_Lot_Op.j0]
    rw [if_neg (by simp), if_pos c3, ref_j1 h1 h2 (by omega), if_neg (by decide)]
    unfold drawF
    rw [hc, if_neg (by decide), if_neg (by decide)]
  · by_cases c4 : hi s % 100 < a3 + a4
    · have hc : kd a3 a4 a5 (hi s % 100) = 3 := by unfold kd; rw [if_neg c3, if_pos c4]
      rw [if_neg (show ¬ (hi s % 100 ≥ a3 + a4) by omega)]
      simp only [incunableref42_Lot_Op.j0]
      rw [if_neg (by simp), if_neg c3, w_small (x := a3 + a4) (by omega) (by omega), if_pos c4, ref_j1 h1 h2 (by omega), if_neg (by decide)]
      unfold drawF
      rw [hc, if_neg (by decide), if_neg (by decide)]
    · rw [if_pos (show hi s % 100 ≥ a3 + a4 by omega)]
      by_cases c5 : hi s % 100 < a3 + a4 + a5
      · have hc : kd a3 a4 a5 (hi s % 100) = 4 := by unfold kd; rw [if_neg c3, if_neg c4, if_pos c5]
        rw [decide_eq_true c5]
        simp only [incunableref42_Lot_Op.j0]
        rw [if_pos trivial]
        unfold drawF
        rw [hc, if_pos rfl]
      · have hc : kd a3 a4 a5 (hi s % 100) = 1 := by unfold kd; rw [if_neg c3, if_neg c4, if_neg c5]
        rw [decide_eq_false c5]
        simp only [incunableref42_Lot_Op.j0]
        rw [if_neg (by simp), if_neg c3, w_small (x := a3 + a4) (by omega) (by omega), if_neg c4, ref_j1 h1 h2 (by omega), if_pos rfl]
        unfold drawF
        rw [hc, if_neg (by decide), if_pos rfl]
theorem kd_cases (a3 a4 a5 b : Int) : kd a3 a4 a5 b = 1 ∨ kd a3 a4 a5 b = 2 ∨ kd a3 a4 a5 b = 3 ∨ kd a3 a4 a5 b = 4 := by
  unfold kd
  split
  · exact .inr (.inl rfl)
  · split
    · exact .inr (.inr (.inl rfl))
    · split
      · exact .inr (.inr (.inr rfl))
      · exact .inl rfl
theorem sec_rng {a1 a6 b s : Int} (h1 : 1 ≤ a1 ∧ a1 ≤ 65536) : 0 ≤ hi s % room a1 a6 b ∧ hi s % room a1 a6 b < a1 := by
  have hr : 1 ≤ room a1 a6 b ∧ room a1 a6 b ≤ a1 := by unfold room; split <;> omega
  have := Int.emod_nonneg (hi s) (show room a1 a6 b ≠ 0 by omega)
  have := Int.emod_lt_of_pos (hi s) (show 0 < room a1 a6 b by omega)
  omega
theorem right_f {a0 a1 a2 a3 a4 a5 a6 : Int} (h : loadOk a0 a1 a2 a3 a4 a5 a6) (s : Int) {k : Nat} (hk : 10 ≤ k) : op_Right.f k (drawF a1 a2 a3 a4 a5 a6 s).1 (drawF a1 a2 a3 a4 a5 a6 s).2.1 (drawF a1 a2 a3 a4 a5 a6 s).2.2.1 = some true := by
  obtain ⟨k, rfl⟩ : ∃ j, k = j + 2 := ⟨k - 2, by omega⟩
  obtain ⟨h3, h4, h5, h6, h0, h1, h2, hs⟩ := h
  have sr := sec_rng (a6 := a6) (b := hi (st s) % 100) (s := st (st s)) h1
  have run : ∀ (c b : Int) (l : List Int), 0 ≤ b → b ≤ 65536 → (c = 1 ∧ 1 ≤ l.length ∧ l.length ≤ 8192 ∨ (c = 2 ∨ c = 3) ∧ l = [] ∨ c = 4 ∧ b = 0 ∧ l = []) → op_Right.f (k + 2) c b l = some true := by
    intro c b l hb hb' hc
    unfold op_Right.f
    rw [if_pos hb, decide_eq_true (show b ≤ 2147483648 by omega)]
    simp only [op_Right.j0, op_Right.j1]
    rcases hc with ⟨rfl, hl, hl'⟩ | ⟨rfl | rfl, rfl⟩ | ⟨rfl, rfl, rfl⟩
    · rw [if_pos rfl, if_pos trivial, if_pos (by omega), decide_eq_true (by omega)]
    · rfl
    · rfl
    · rfl
  have hk' := kd_cases a3 a4 a5 (hi s % 100)
  unfold drawF
  by_cases c4 : kd a3 a4 a5 (hi s % 100) = 4
  · rw [if_pos c4]
    exact run 4 0 [] (by omega) (by omega) (.inr (.inr ⟨rfl, rfl, rfl⟩))
  · rw [if_neg c4]
    by_cases c1 : kd a3 a4 a5 (hi s % 100) = 1
    · rw [if_pos c1]
      exact run 1 _ _ sr.1 (Int.le_of_lt (Int.lt_of_lt_of_le sr.2 h1.2)) (.inl ⟨rfl, by rw [bytesL_len]; simp only [List.length_nil]; omega, by rw [bytesL_len]; simp only [List.length_nil]; omega⟩)
    · rw [if_neg c1]
      exact run _ _ [] sr.1 (Int.le_of_lt (Int.lt_of_lt_of_le sr.2 h1.2)) (.inr (.inl ⟨by rcases hk' with e | e | e | e <;> first | exact absurd e c1 | exact absurd e c4 | exact .inl e | exact .inr e, rfl⟩))
theorem draw_sec {a0 a1 a2 a3 a4 a5 a6 : Int} (h : loadOk a0 a1 a2 a3 a4 a5 a6) (s : Int) : (drawF a1 a2 a3 a4 a5 a6 s).2.1 < a1 := by
  obtain ⟨h3, h4, h5, h6, h0, h1, h2, hs⟩ := h
  have sr := sec_rng (a6 := a6) (b := hi (st s) % 100) (s := st (st s)) h1
  unfold drawF
  split
  · show (0 : Int) < a1
    omega
  · split
    · exact sr.2
    · exact sr.2
theorem ops_loop {a0 a1 a2 a3 a4 a5 a6 : Int} (h : loadOk a0 a1 a2 a3 a4 a5 a6) (xs : List S43) (hx : xs.length ≤ 4096) : ∀ (d i k : Nat) (s : Int), xs.drop i = opsL (drawF a1 a2 a3 a4 a5 a6) d s → i + d = xs.length → d + 40000 < k → incunablelaw42_LotOps.l0 k xs xs (xs.length : Int) (i : Int) a0 a1 a2 a3 a4 a5 a6 s = some true := by
  intro d
  induction d with
  | zero =>
    intro i k s hd hi hk
    obtain ⟨k, rfl⟩ : ∃ j, k = j + 1 := ⟨k - 1, by omega⟩
    simp only [incunablelaw42_LotOps.l0]
    rw [if_neg (by omega)]
  | succ d ih =>
    intro i k s hd hi hk
    obtain ⟨k, rfl⟩ : ∃ j, k = j + 1 := ⟨k - 1, by omega⟩
    have hlen := drawF_len (a1 := a1) (a3 := a3) (a4 := a4) (a5 := a5) (a6 := a6) (s := s) h.2.2.2.2.2.2.1
    simp only [opsL] at hd
    obtain ⟨r1, r2, r3⟩ := rd_drop hd
    have hsame : incunableref34_Same.f k (drawF a1 a2 a3 a4 a5 a6 s).1 (drawF a1 a2 a3 a4 a5 a6 s).2.1 (drawF a1 a2 a3 a4 a5 a6 s).2.2.1 (drawF a1 a2 a3 a4 a5 a6 s).1 (drawF a1 a2 a3 a4 a5 a6 s).2.1 (drawF a1 a2 a3 a4 a5 a6 s).2.2.1 = some true := by
      unfold incunableref34_Same.f
      rw [if_pos rfl, if_pos rfl, same_eq _ (by omega) (by omega), Option.bind_some]
    have hsec := draw_sec h s
    simp only [incunablelaw42_LotOps.l0]
    rw [if_pos (by omega), if_pos (by omega), if_pos (by omega), if_pos (by omega), r1, hsame, Option.bind_some, if_pos rfl, ref_f h s (by omega), Option.bind_some, hsame, Option.bind_some, if_pos rfl, right_f h s (by omega), Option.bind_some, if_pos rfl, if_neg (Int.not_le.mpr hsec), ws (by omega)]
    exact ih (i + 1) k _ r3 (by omega) (by omega)
theorem ops_no {a0 a1 a2 a3 a4 a5 a6 : Int} (h : ¬ loadOk a0 a1 a2 a3 a4 a5 a6) (s : Int) (k : Nat) : lot_Ops.f k s a0 a1 a2 a3 a4 a5 a6 = some ([], 2) := by
  unfold lot_Ops.f
  rw [check_no h, Option.bind_some, if_neg (by decide)]
theorem ops (seed a0 a1 a2 a3 a4 a5 a6 : Int) : ∃ k, incunablelaw42_LotOps.f k seed a0 a1 a2 a3 a4 a5 a6 = some true := by
  obtain ⟨k, hk⟩ : ∃ k : Nat, 100000 ≤ k := ⟨100000, Nat.le_refl _⟩
  refine ⟨k + 2, ?_⟩
  have ht : incunablelaw42_LotOps.j0 (k + 2) seed true a0 a1 a2 a3 a4 a5 a6 = some true := by
    simp only [incunablelaw42_LotOps.j0]
    rw [if_pos trivial]
  unfold incunablelaw42_LotOps.f incunablelaw42_awake.f
  rw [Option.bind_some, if_pos rfl, if_pos rfl]
  by_cases c0 : a0 > 60
  · rw [if_pos c0]; exact ht
  · rw [if_neg c0]
    by_cases c2 : a2 > 60
    · rw [decide_eq_true c2]; exact ht
    · rw [decide_eq_false c2]
      simp only [incunablelaw42_LotOps.j0]
      rw [if_neg (by simp)]
      by_cases h : loadOk a0 a1 a2 a3 a4 a5 a6
      · have h0 := h.2.2.2.2.1
        have hl := opsL_len (drawF a1 a2 a3 a4 a5 a6) a0.toNat seed
        have hL : ((opsL (drawF a1 a2 a3 a4 a5 a6) a0.toNat seed).length : Int) = a0 := by rw [hl]; omega
        rw [ops_f h seed (by omega), Option.bind_some, Option.bind_some, may_f _ _ _ _ _ _ _ (by omega), Option.bind_some, decide_eq_true h, if_pos rfl, if_pos rfl, if_pos rfl, if_pos hL]
        have e : (((opsL (drawF a1 a2 a3 a4 a5 a6) a0.toNat seed).length : Int) != a0) = false := by rw [hL]; simp
        rw [e]
        simp only [incunablelaw42_LotOps.j1]
        rw [if_neg (by simp)]
        exact ops_loop h _ (by rw [hl]; omega) a0.toNat 0 k seed rfl (by rw [hl]; omega) (by omega)
      · rw [ops_no h, Option.bind_some, Option.bind_some, may_f _ _ _ _ _ _ _ (by omega), Option.bind_some, decide_eq_false h, if_neg (by simp), if_pos rfl, if_pos rfl]
        simp [wrap64]
end Go.Proofs.Ytgdkikclniamlaa.Lo
