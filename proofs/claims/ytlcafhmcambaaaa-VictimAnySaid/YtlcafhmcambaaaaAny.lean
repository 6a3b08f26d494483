/-
  The law VictimAny, in plain Lean over what the printed functions answer.
-/
import Derived.Test.YtlcafhmcambaaaaMx7
import Derived.Test.YtlcafhmcambaaaaEv
namespace Go.Proofs.Ytlcafhmcambaaaa.Any
open Go.RowKit Go.Proofs.Ytlcafhmcambaaaa.M Go.Proofs.Ytlcafhmcambaaaa.Pl Go.Proofs.Ytlcafhmcambaaaa.Ev Go.Proofs.YtlcafhmcambaaaaW.PrintWords
theorem neb_iff (x y : S25) : (!(x.f0 == y.f0) || (!(x.f1 == y.f1) || (!(x.f2 == y.f2)))) = false ↔ x = y := by
  obtain ⟨x0, x1, x2⟩ := x
  obtain ⟨y0, y1, y2⟩ := y
  simp
theorem eqb_iff (x y : S25) : (x.f0 == y.f0 && (x.f1 == y.f1 && (x.f2 == y.f2))) = true ↔ x = y := by
  obtain ⟨x0, x1, x2⟩ := x
  obtain ⟨y0, y1, y2⟩ := y
  simp
/-- the list, begun at place k -/
def rot (l : List S25) (k n : Nat) : List S25 := (List.range n).map fun i => l.getD ((i + k) % l.length) ⟨0, 0, 0⟩
theorem rot_length (l : List S25) (k n : Nat) : (rot l k n).length = n := by simp [rot]
theorem rot_succ (l : List S25) (k n : Nat) : rot l k (n + 1) = rot l k n ++ [l.getD ((n + k) % l.length) ⟨0, 0, 0⟩] := by simp [rot, List.range_succ]
theorem rot_eq (l : List S25) (k : Nat) (hk : k < l.length) : rot l k l.length = l.drop k ++ l.take k := by
  apply List.ext_getElem
  · simp [rot]; omega
  · intro j h1 h2
    rw [rot_length] at h1
    simp only [rot, List.getElem_map, List.getElem_range, List.getElem_append, List.length_drop]
    by_cases c : j < l.length - k
    · rw [dif_pos c, List.getElem_drop]
      have e : (j + k) % l.length = k + j := by rw [Nat.mod_eq_of_lt (by omega)]; omega
      rw [e, List.getD_eq_getElem?_getD, List.getElem?_eq_getElem (by omega)]; rfl
    · rw [dif_neg c, List.getElem_take]
      have e : (j + k) % l.length = j - (l.length - k) := by
        rw [Nat.mod_eq_sub_mod (by omega), Nat.mod_eq_of_lt (by omega)]; omega
      rw [e, List.getD_eq_getElem?_getD, List.getElem?_eq_getElem (by omega)]; rfl
theorem rot_perm (l : List S25) (k : Nat) (hk : k < l.length) : (rot l k l.length).Perm l := by
  rw [rot_eq l k hk]
  exact List.perm_append_comm.trans (by rw [List.take_append_drop])
theorem okc_perm {l l' : List S25} (h : l.Perm l') : okc l = okc l' := by
  unfold okc
  rw [right_perm h]
  cases l with
  | nil => rw [List.nil_perm.mp h]
  | cons c r =>
    cases l' with
    | nil => exact absurd h.length_eq (by simp)
    | cons c' r' => rfl
theorem chosen_perm {l l' : List S25} (h : l.Perm l') (a b : Int) : chosen l a b = chosen l' a b := by
  unfold chosen
  rw [okc_perm h, best_perm (p := true) h, best_perm (p := false) h]
theorem tmod_nat (a n : Nat) : Int.tmod (a : Int) (n : Int) = ((a % n : Nat) : Int) := (Int.ofNat_tmod a n).symm
section
variable {l : List S25}
theorem l1_f (hl : l.length ≤ 60) (ho : okc l = true) (y z : Bool) (c : S25) (hy : y = true) (hz : z = true → c = best true l ∨ c = best false l) (r : Nat) :
    ∀ (k i : Nat) (f : Nat), i + r = l.length → f ≤ i → (best true l ∈ l.take i → 1 ≤ f) → r + r + 3 < k →
    VictimAny.l1 k y z (f : Int) l (l.length : Int) (i : Int) (best true l).f0 (best true l).f1 (best true l).f2 (best false l).f0 (best false l).f1 (best false l).f2 c.f0 c.f1 c.f2 = some true := by
  obtain ⟨hr, hne⟩ := (okc_iff l).mp ho
  obtain ⟨ma, na⟩ := best_spec (p := true) hne
  obtain ⟨_, nb⟩ := best_spec (p := false) hne
  induction r with
  | zero =>
    intro k i f hi hf hm hk
    obtain ⟨k, rfl⟩ : ∃ m, k = m + 1 := ⟨k - 1, by omega⟩
    have h1 := hm (by rw [List.take_of_length_le (by omega)]; exact ma)
    simp only [VictimAny.l1]
    rw [if_neg (by omega), if_pos (by omega), hy, if_pos rfl]
    cases z with
    | false => rfl
    | true =>
      rw [if_pos rfl]
      rcases hz rfl with e | e
      · rw [e, (eqb_iff (best true l) (best true l)).mpr rfl, if_pos rfl]
      · rw [e, (eqb_iff (best false l) (best false l)).mpr rfl]
        split <;> rfl
  | succ r ih =>
    intro k i f hi hf hm hk
    obtain ⟨k, rfl⟩ : ∃ m, k = m + 2 := ⟨k - 2, by omega⟩
    have hlt : i < l.length := by omega
    have hin : l[i] ∈ l := List.getElem_mem hlt
    have c1 := na _ hin
    have c2 := nb _ hin
    simp only [lt, ka, kb, if_true, Bool.false_eq_true, if_false] at c1 c2
    have et : l.take (i + 1) = l.take i ++ [l[i]] := by rw [List.take_succ_eq_append_getElem hlt]
    have wf : wrap64 ((f : Int) + 1) = ((f + 1 : Nat) : Int) := ws (by omega)
    simp only [VictimAny.l1]
    rw [if_pos (by omega), if_pos (by omega), if_pos (by omega), rdT hlt, if_neg (by omega), decide_eq_false (by omega)]
    simp only [VictimAny.j3, Bool.false_eq_true, if_false]
    rw [wf, ws (by omega)]
    by_cases e1 : l[i] = best true l
    · rw [if_pos ((eqb_iff _ _).mpr e1)]
      exact ih k (i + 1) (f + 1) (by omega) (by omega) (fun _ => by omega) (by omega)
    · rw [if_neg (fun h => e1 ((eqb_iff _ _).mp h))]
      have hm' : best true l ∈ l.take (i + 1) → 1 ≤ f := by
        intro h
        rw [et] at h
        rcases List.mem_append.mp h with h | h
        · exact hm h
        · exact absurd (List.mem_singleton.mp h).symm e1
      by_cases e2 : l[i] = best false l
      · rw [if_pos ((eqb_iff _ _).mpr e2)]
        exact ih k (i + 1) (f + 1) (by omega) (by omega) (fun h => by have := hm' h; omega) (by omega)
      · rw [if_neg (fun h => e2 ((eqb_iff _ _).mp h))]
        exact ih k (i + 1) f (by omega) (by omega) hm' (by omega)
theorem l0_f (hl : l.length ≤ 60) (ho : okc l = true) (n0 n1 n2 : Int) (s : Nat) (hs : s < l.length) (r : Nat) :
    ∀ (k i : Nat), i + r = l.length → r + 400 < k →
    VictimAny.l0 k l true (chosen l n0 n1).2 (rot l s i) (s : Int) (l.length : Int) (i : Int) n0 n1 n2 (best true l).f0 (best true l).f1 (best true l).f2 (best false l).f0 (best false l).f1 (best false l).f2 (chosen l n0 n1).1.f0 (chosen l n0 n1).1.f1 (chosen l n0 n1).1.f2 = some true := by
  induction r with
  | zero =>
    intro k i hi hk
    obtain ⟨k, rfl⟩ : ∃ m, k = m + 2 := ⟨k - 2, by omega⟩
    obtain rfl : i = l.length := by omega
    have hp := rot_perm l s hs
    have hlr : (rot l s l.length).length = l.length := rot_length _ _ _
    simp only [VictimAny.l0]
    rw [if_neg (by omega), cheapest_f (by omega) (by omega)]
    simp only [Option.bind_some]
    rw [freshest_f (by omega) (by omega)]
    simp only [Option.bind_some]
    rw [choose_f (by omega) (by omega)]
    simp only [Option.bind_some]
    rw [okc_perm hp, best_perm (p := true) hp, best_perm (p := false) hp, chosen_perm hp, ho, if_pos rfl, if_pos rfl]
    rw [(neb_iff (best true l) (best true l)).mpr rfl, if_neg (by simp), (neb_iff (best false l) (best false l)).mpr rfl, if_neg (by simp), (neb_iff (chosen l n0 n1).1 (chosen l n0 n1).1).mpr rfl, if_neg (by simp)]
    simp only [bne_self_eq_false, VictimAny.j1, Bool.false_eq_true, if_false]
    refine l1_f hl ho true _ _ rfl ?_ l.length k 0 0 (by omega) (Nat.le_refl _) (fun h => by simp at h) (by omega)
    intro hz
    unfold chosen at hz ⊢
    by_cases c : okc l = true ∧ 0 ≤ n0 ∧ n0 ≤ 2147483648 ∧ 0 ≤ n1
    · rw [if_pos c]
      split
      · exact .inr rfl
      · exact .inl rfl
    · rw [if_neg c] at hz; cases hz
  | succ r ih =>
    intro k i hi hk
    obtain ⟨k, rfl⟩ : ∃ m, k = m + 1 := ⟨k - 1, by omega⟩
    have hm : (i + s) % l.length < l.length := Nat.mod_lt _ (by omega)
    have w1 : wrap64 ((i : Int) + (s : Int)) = ((i + s : Nat) : Int) := by unfold wrap64; omega
    have eg : l.getD ((i + s) % l.length) ⟨0, 0, 0⟩ = l[(i + s) % l.length] := by rw [List.getD_eq_getElem?_getD, List.getElem?_eq_getElem hm]; rfl
    simp only [VictimAny.l0]
    rw [if_pos (by omega), if_neg (by omega), w1, tmod_nat, if_pos (by omega), if_pos (by omega), rot_length, if_pos (by omega), rdT hm, ws (by omega), ← eg, ← rot_succ]
    exact ih k (i + 1) (by omega) (by omega)
end
theorem main (l : List S25) (n0 n1 n2 : Int) : ∃ k, VictimAny.f k l n0 n1 n2 = some true := by
  refine ⟨1000, ?_⟩
  unfold VictimAny.f
  rw [awake_f (by omega)]
  simp only [Option.bind_some, if_true]
  by_cases h1 : (l.length : Int) > 60
  · rw [if_pos h1]
  · rw [if_neg h1, cheapest_f (by omega) (by omega)]
    simp only [Option.bind_some]
    rw [freshest_f (by omega) (by omega)]
    simp only [Option.bind_some]
    rw [choose_f (by omega) (by omega)]
    simp only [Option.bind_some]
    cases ho : okc l with
    | false =>
      have e1 : chosen l n0 n1 = (⟨0, 0, 0⟩, false) := by unfold chosen; rw [ho]; simp
      rw [e1]; simp
    | true =>
      have hne := ((okc_iff l).mp ho).2
      have hpos : 0 < l.length := List.length_pos_iff.mpr hne
      simp only [if_true]
      rw [if_neg (by omega)]
      have ht : -(l.length : Int) < Int.tmod n2 (l.length : Int) ∧ Int.tmod n2 (l.length : Int) < (l.length : Int) := by
        have := Int.natAbs_tmod n2 (l.length : Int)
        have hlt : (n2.natAbs % (l.length : Int).natAbs) < (l.length : Int).natAbs := Nat.mod_lt _ (by omega)
        omega
      obtain ⟨m, hm⟩ : ∃ m : Nat, Int.tmod n2 (l.length : Int) + (l.length : Int) = (m : Int) := ⟨(Int.tmod n2 (l.length : Int) + (l.length : Int)).toNat, by omega⟩
      have hw : wrap64 (Int.tmod n2 (l.length : Int) + (l.length : Int)) = (m : Int) := by rw [hm]; unfold wrap64; omega
      rw [hw, tmod_nat]
      exact l0_f (by omega) ho n0 n1 n2 (m % l.length) (Nat.mod_lt _ hpos) l.length 1000 0 (by omega) (by omega)
end Go.Proofs.Ytlcafhmcambaaaa.Any
