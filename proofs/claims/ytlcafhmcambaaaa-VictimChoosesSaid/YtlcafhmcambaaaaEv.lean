/-
  What the printed functions of the victim laws answer.
-/
import Derived.Test.YtlcafhmcambaaaaMx2
import Derived.Test.YtlcafhmcambaaaaMx3
import Derived.Test.YtlcafhmcambaaaaMx4
import Derived.Test.YtlcafhmcambaaaaMx5
import Derived.Test.YtlcafhmcambaaaaPl
namespace Go.Proofs.Ytlcafhmcambaaaa.Ev
open Go.RowKit Go.Proofs.Ytlcafhmcambaaaa.M Go.Proofs.Ytlcafhmcambaaaa.Pl Go.Proofs.YtlcafhmcambaaaaW.PrintWords
theorem ws {n : Nat} (h : n ≤ 9223372036854775806) : wrap64 ((n : Int) + 1) = ((n + 1 : Nat) : Int) := by unfold wrap64; omega
theorem rdT {l : List S25} {i : Nat} (h : i < l.length) : rd_T25 l (i : Int) = l[i] := by simp [rd_T25, h]
theorem rd3 (a b c : Int) : rd [a, b, c] 0 = a ∧ rd [a, b, c] 1 = b ∧ rd [a, b, c] 2 = c := ⟨rfl, rfl, rfl⟩
theorem or_f {a b c : Int} {k : Nat} (hk : 4 ≤ k) : cmp_Or_int.f k [a, b, c] = some (if a ≠ 0 then a else if b ≠ 0 then b else c) := by
  obtain ⟨k, rfl⟩ : ∃ m, k = m + 4 := ⟨k - 4, by omega⟩
  have w1 : wrap64 (0 + 1) = 1 := by unfold wrap64; omega
  have w2 : wrap64 (1 + 1) = 2 := by unfold wrap64; omega
  have w3 : wrap64 (2 + 1) = 3 := by unfold wrap64; omega
  unfold cmp_Or_int.f
  simp only [cmp_Or_int.l0, List.length_cons, List.length_nil, (rd3 a b c).1, w1, (rd3 a b c).2.1, w2, (rd3 a b c).2.2, w3]
  by_cases ha : a = 0
  · by_cases hb : b = 0
    · by_cases hc : c = 0
      · simp [ha, hb, hc]
      · simp [ha, hb, hc]
    · simp [ha, hb]
  · simp [ha]
def cmp3 (a b : Int) : Int := if a < b then -1 else if a > b then 1 else 0
theorem cmp_f (a b : Int) : cmp_Compare_int.f a b = some (cmp3 a b) := by
  unfold cmp_Compare_int.f cmp_isNaN_int.f cmp3
  simp only [Option.bind_some, bne_self_eq_false, Bool.false_eq_true, if_false]
  by_cases h : a < b
  · simp [h]
  · by_cases h' : a > b
    · simp [h, h']
    · simp [h, h']
def ord (p : Bool) (x y : S25) : Int := if cmp3 (ka p x) (ka p y) ≠ 0 then cmp3 (ka p x) (ka p y) else if cmp3 (kb p x) (kb p y) ≠ 0 then cmp3 (kb p x) (kb p y) else cmp3 x.f0 y.f0
theorem ord_neg (p : Bool) (x y : S25) : ord p x y < 0 ↔ lt p x y := by
  unfold ord lt cmp3
  generalize ka p x = a; generalize ka p y = a'; generalize kb p x = b; generalize kb p y = b'
  generalize x.f0 = c; generalize y.f0 = c'
  repeat' split
  all_goals omega
def okc (l : List S25) : Bool := rightL (fun _ => false) l && !l.isEmpty

theorem ch1_f {x y : S25} {k : Nat} (hk : 4 ≤ k) : Cheapest_1.f k x.f0 x.f1 x.f2 y.f0 y.f1 y.f2 = some (ord true x y) := by
  unfold Cheapest_1.f
  simp only [cmp_f, Option.bind_some, or_f hk]
  rfl
theorem ch_l {l : List S25} (hl : l.length ≤ 1000000) (r : Nat) : ∀ (k i : Nat) (b : S25), i + r = l.length → 1 ≤ i → r + 6 < k →
    least_by_14.l0 k l l (l.length : Int) (i : Int) b.f0 b.f1 b.f2 = some ((mn true b (l.drop i)).f0, (mn true b (l.drop i)).f1, (mn true b (l.drop i)).f2, decide ((l.length : Int) > 0)) := by
  induction r with
  | zero =>
    intro k i b hi h1 hk
    obtain ⟨k, rfl⟩ : ∃ m, k = m + 1 := ⟨k - 1, by omega⟩
    simp only [least_by_14.l0]
    rw [if_neg (by omega), List.drop_eq_nil_of_le (by omega)]; rfl
  | succ r ih =>
    intro k i b hi h1 hk
    obtain ⟨k, rfl⟩ : ∃ m, k = m + 1 := ⟨k - 1, by omega⟩
    have hlt : i < l.length := by omega
    have ed : l.drop i = l[i] :: l.drop (i + 1) := List.drop_eq_getElem_cons hlt
    simp only [least_by_14.l0]
    rw [if_pos (by omega), if_pos (by omega), if_pos (by omega), if_neg (by omega), rdT hlt, ch1_f (x := l[i]) (y := b) (by omega)]
    simp only [Option.bind_some]
    rw [ws (by omega), ed, mn_cons]
    by_cases c : lt true l[i] b
    · rw [if_pos ((ord_neg _ _ _).mpr c), if_pos c]
      exact ih k (i + 1) l[i] (by omega) (by omega) (by omega)
    · rw [if_neg (fun h => c ((ord_neg _ _ _).mp h)), if_neg c]
      exact ih k (i + 1) b (by omega) (by omega) (by omega)
theorem ch_f0 {l : List S25} {k : Nat} (hl : l.length ≤ 1000000) (hk : l.length + 8 ≤ k) : least_by_14.f k l = some ((best true l).f0, (best true l).f1, (best true l).f2, !l.isEmpty) := by
  obtain ⟨k, rfl⟩ : ∃ m, k = m + 1 := ⟨k - 1, by omega⟩
  cases l with
  | nil => rfl
  | cons c r =>
    unfold least_by_14.f
    have h := ch_l (l := c :: r) hl r.length k 1 c (by simp <;> omega) (Nat.le_refl _) (by simp at hk; omega)
    have e : decide (((c :: r).length : Int) > 0) = true := decide_eq_true (by simp <;> omega)
    rw [e] at h
    simp only [least_by_14.l0]
    have e0 : rd_T25 (c :: r) 0 = c := rfl
    rw [if_pos (by simp <;> omega), if_pos (by omega), if_pos (by simp <;> omega), if_true, e0, show wrap64 (0 + 1) = ((1 : Nat) : Int) from by unfold wrap64; omega]
    exact h
theorem cheapest0_f {l : List S25} {k : Nat} (hl : l.length ≤ 1000000) (hk : l.length + 8 ≤ k) : Cheapest.f k l = some (if rightL (fun _ => false) l && !l.isEmpty then ((best true l).f0, (best true l).f1, (best true l).f2, true) else (0, 0, 0, false)) := by
  unfold Cheapest.f of_by_14.f Right.f
  simp only [Option.bind_some]
  rw [ch_f0 hl hk]
  cases h : rightL (fun _ => false) l with
  | false => rfl
  | true => cases l <;> rfl

theorem fr1_f {x y : S25} {k : Nat} (hk : 4 ≤ k) : Freshest_1.f k x.f0 x.f1 x.f2 y.f0 y.f1 y.f2 = some (ord false x y) := by
  unfold Freshest_1.f
  simp only [cmp_f, Option.bind_some, or_f hk]
  rfl
theorem fr_l {l : List S25} (hl : l.length ≤ 1000000) (r : Nat) : ∀ (k i : Nat) (b : S25), i + r = l.length → 1 ≤ i → r + 6 < k →
    least_by_17.l0 k l l (l.length : Int) (i : Int) b.f0 b.f1 b.f2 = some ((mn false b (l.drop i)).f0, (mn false b (l.drop i)).f1, (mn false b (l.drop i)).f2, decide ((l.length : Int) > 0)) := by
  induction r with
  | zero =>
    intro k i b hi h1 hk
    obtain ⟨k, rfl⟩ : ∃ m, k = m + 1 := ⟨k - 1, by omega⟩
    simp only [least_by_17.l0]
    rw [if_neg (by omega), List.drop_eq_nil_of_le (by omega)]; rfl
  | succ r ih =>
    intro k i b hi h1 hk
    obtain ⟨k, rfl⟩ : ∃ m, k = m + 1 := ⟨k - 1, by omega⟩
    have hlt : i < l.length := by omega
    have ed : l.drop i = l[i] :: l.drop (i + 1) := List.drop_eq_getElem_cons hlt
    simp only [least_by_17.l0]
    rw [if_pos (by omega), if_pos (by omega), if_pos (by omega), if_neg (by omega), rdT hlt, fr1_f (x := l[i]) (y := b) (by omega)]
    simp only [Option.bind_some]
    rw [ws (by omega), ed, mn_cons]
    by_cases c : lt false l[i] b
    · rw [if_pos ((ord_neg _ _ _).mpr c), if_pos c]
      exact ih k (i + 1) l[i] (by omega) (by omega) (by omega)
    · rw [if_neg (fun h => c ((ord_neg _ _ _).mp h)), if_neg c]
      exact ih k (i + 1) b (by omega) (by omega) (by omega)
theorem fr_f0 {l : List S25} {k : Nat} (hl : l.length ≤ 1000000) (hk : l.length + 8 ≤ k) : least_by_17.f k l = some ((best false l).f0, (best false l).f1, (best false l).f2, !l.isEmpty) := by
  obtain ⟨k, rfl⟩ : ∃ m, k = m + 1 := ⟨k - 1, by omega⟩
  cases l with
  | nil => rfl
  | cons c r =>
    unfold least_by_17.f
    have h := fr_l (l := c :: r) hl r.length k 1 c (by simp <;> omega) (Nat.le_refl _) (by simp at hk; omega)
    have e : decide (((c :: r).length : Int) > 0) = true := decide_eq_true (by simp <;> omega)
    rw [e] at h
    simp only [least_by_17.l0]
    have e0 : rd_T25 (c :: r) 0 = c := rfl
    rw [if_pos (by simp <;> omega), if_pos (by omega), if_pos (by simp <;> omega), if_true, e0, show wrap64 (0 + 1) = ((1 : Nat) : Int) from by unfold wrap64; omega]
    exact h
theorem freshest0_f {l : List S25} {k : Nat} (hl : l.length ≤ 1000000) (hk : l.length + 8 ≤ k) : Freshest.f k l = some (if rightL (fun _ => false) l && !l.isEmpty then ((best false l).f0, (best false l).f1, (best false l).f2, true) else (0, 0, 0, false)) := by
  unfold Freshest.f of_by_17.f Right.f
  simp only [Option.bind_some]
  rw [fr_f0 hl hk]
  cases h : rightL (fun _ => false) l with
  | false => rfl
  | true => cases l <;> rfl

theorem cheapest_f {l : List S25} {k : Nat} (hl : l.length ≤ 1000000) (hk : l.length + 8 ≤ k) : Cheapest.f k l = some (if okc l = true then ((best true l).f0, (best true l).f1, (best true l).f2, true) else (0, 0, 0, false)) := cheapest0_f hl hk
theorem freshest_f {l : List S25} {k : Nat} (hl : l.length ≤ 1000000) (hk : l.length + 8 ≤ k) : Freshest.f k l = some (if okc l = true then ((best false l).f0, (best false l).f1, (best false l).f2, true) else (0, 0, 0, false)) := freshest0_f hl hk

theorem okc_iff (l : List S25) : okc l = true ↔ rightL (fun _ => false) l = true ∧ l ≠ [] := by
  unfold okc; cases l <;> simp
/-- what Choose answers -/
def chosen (l : List S25) (high thr : Int) : S25 × Bool :=
  if okc l = true ∧ 0 ≤ high ∧ high ≤ 2147483648 ∧ 0 ≤ thr then (if high - (best false l).f2 ≥ thr then (best false l, true) else (best true l, true)) else (⟨0, 0, 0⟩, false)
theorem best_inr {p : Bool} {l : List S25} (h : okc l = true) : inr (best p l) := by
  obtain ⟨h1, h2⟩ := (okc_iff l).mp h
  exact ((right_true l).mp h1).1 _ (best_spec h2).1
theorem choose_f {l : List S25} {high thr : Int} {k : Nat} (hl : l.length ≤ 1000000) (hk : l.length + 10 ≤ k) :
    Choose.f k l high thr = some ((chosen l high thr).1.f0, (chosen l high thr).1.f1, (chosen l high thr).1.f2, (chosen l high thr).2) := by
  obtain ⟨k, rfl⟩ : ∃ m, k = m + 1 := ⟨k - 1, by omega⟩
  unfold Choose.f chosen
  rw [freshest_f hl (by omega)]
  simp only [Option.bind_some]
  cases ho : okc l with
  | false =>
    rw [if_neg (by simp), if_neg (by simp)]
    simp [Choose.j0]
  | true =>
    rw [if_pos rfl]
    have hi := best_inr (p := false) ho
    simp only [if_true, within.f]
    by_cases h1 : high ≥ 0
    · by_cases h2 : high ≤ 2147483648
      · rw [if_pos h1, decide_eq_true h2]
        simp only [Option.bind_some, if_true, Choose.j0]
        by_cases h3 : thr < 0
        · rw [decide_eq_true h3, if_pos rfl, if_neg (fun z => by omega)]
        · rw [decide_eq_false h3, if_neg (by simp)]
          have hw : wrap64 (high - (best false l).f2) = high - (best false l).f2 := by unfold inr at hi; unfold wrap64; omega
          rw [hw, cheapest_f hl (by omega), if_pos (show (True ∧ 0 ≤ high ∧ high ≤ 2147483648 ∧ 0 ≤ thr) from ⟨trivial, h1, h2, by omega⟩), if_pos ho]
          by_cases h4 : high - (best false l).f2 ≥ thr
          · rw [if_pos h4, if_pos h4]
          · rw [if_neg h4, if_neg h4]; rfl
      · rw [if_pos h1, decide_eq_false h2]
        simp only [Option.bind_some, Bool.false_eq_true, if_false, Choose.j0, if_true]
        rw [if_neg (fun z => by omega)]
    · rw [if_neg h1]
      simp only [Option.bind_some, Bool.false_eq_true, if_false, Choose.j0, if_true]
      rw [if_neg (fun z => by omega)]
theorem awake_f {k : Nat} (hk : 20 ≤ k) : awake.f k = some true := by
  unfold awake.f
  simp only [Option.bind_some]
  rw [cheapest_f (by simp) (by simp <;> omega)]
  simp only [Option.bind_some]
  rw [freshest_f (by simp) (by simp <;> omega)]
  simp only [Option.bind_some]
  decide +kernel
end Go.Proofs.Ytlcafhmcambaaaa.Ev
