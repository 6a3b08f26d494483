/-
  The law VictimChooses, in plain Lean over what the printed functions answer.
-/
import Derived.Test.YtlcafhmcambaaaaMx6
import Derived.Test.YtlcafhmcambaaaaEv
namespace Go.Proofs.Ytlcafhmcambaaaa.Choo
open Go.RowKit Go.Proofs.Ytlcafhmcambaaaa.M Go.Proofs.Ytlcafhmcambaaaa.Pl Go.Proofs.Ytlcafhmcambaaaa.Ev Go.Proofs.YtlcafhmcambaaaaW.PrintWords
section
variable {l : List S25}
theorem r1_f (hl : l.length ≤ 100) {K : Nat} {b0 : Bool} (i : Nat) (hi : i < l.length) (H : ∀ k, K ≤ k → ref28_Right.l0 k l ((i + 1 : Nat) : Int) = some b0) (y y1 y2 : Int) (r : Nat) :
    ∀ x : Nat, x + r = i → ∃ b, (∀ k, K + r + 1 ≤ k → ref28_Right.l1 k l (i : Int) (x : Int) y y1 y2 = some b) ∧ (b = true ↔ (∀ m (h : m < l.length), x ≤ m → m < i → l[m].f0 ≠ y) ∧ b0 = true) := by
  induction r with
  | zero =>
    intro x hx
    refine ⟨b0, fun k hk => ?_, ?_⟩
    · obtain ⟨k, rfl⟩ : ∃ m, k = m + 1 := ⟨k - 1, by omega⟩
      simp only [ref28_Right.l1]
      rw [if_neg (by omega), ws (by omega)]
      exact H k (by omega)
    · constructor
      · intro h; exact ⟨fun m _ h1 h2 => by omega, h⟩
      · intro h; exact h.2
  | succ r ih =>
    intro x hx
    obtain ⟨b, h1, h2⟩ := ih (x + 1) (by omega)
    have hxl : x < l.length := by omega
    by_cases c : l[x].f0 = y
    · refine ⟨false, fun k hk => ?_, ?_⟩
      · obtain ⟨k, rfl⟩ : ∃ m, k = m + 1 := ⟨k - 1, by omega⟩
        simp only [ref28_Right.l1]
        rw [if_pos (by omega), if_pos (by omega), if_pos (by omega), rdT hxl, if_pos c]
      · constructor
        · intro h; cases h
        · intro h; exact absurd c (h.1 x hxl (Nat.le_refl _) (by omega))
    · refine ⟨b, fun k hk => ?_, ?_⟩
      · obtain ⟨k, rfl⟩ : ∃ m, k = m + 1 := ⟨k - 1, by omega⟩
        simp only [ref28_Right.l1]
        rw [if_pos (by omega), if_pos (by omega), if_pos (by omega), rdT hxl, if_neg c, ws (by omega)]
        exact h1 k (by omega)
      · rw [h2]
        constructor
        · rintro ⟨g1, g2⟩
          refine ⟨fun m h3 h4 h5 => ?_, g2⟩
          by_cases e : m = x
          · subst e; exact c
          · exact g1 m h3 (by omega) h5
        · rintro ⟨g1, g2⟩
          exact ⟨fun m h3 h4 h5 => g1 m h3 (by omega) h5, g2⟩
theorem r0_f (hl : l.length ≤ 100) (r : Nat) :
    ∀ i : Nat, i + r = l.length → ∃ b, (∀ k, r * 110 + 1 ≤ k → ref28_Right.l0 k l (i : Int) = some b) ∧ (b = true ↔ ∀ j (h : j < l.length), i ≤ j → inr l[j] ∧ ∀ m (h' : m < l.length), m < j → l[m].f0 ≠ l[j].f0) := by
  induction r with
  | zero =>
    intro i hi
    refine ⟨true, fun k hk => ?_, ?_⟩
    · obtain ⟨k, rfl⟩ : ∃ m, k = m + 1 := ⟨k - 1, by omega⟩
      simp only [ref28_Right.l0]
      rw [if_neg (by omega)]
    · exact ⟨fun _ j h h' => by omega, fun _ => rfl⟩
  | succ r ih =>
    intro i hi
    obtain ⟨b0, h1, h2⟩ := ih (i + 1) (by omega)
    have hil : i < l.length := by omega
    obtain ⟨b, g1, g2⟩ := r1_f hl i hil h1 l[i].f0 l[i].f1 l[i].f2 i 0 (by omega)
    by_cases c : inr l[i]
    · refine ⟨b, fun k hk => ?_, ?_⟩
      · obtain ⟨k, rfl⟩ : ∃ m, k = m + 2 := ⟨k - 2, by omega⟩
        have hg := g1 k (by omega)
        unfold inr at c
        simp only [ref28_Right.l0]
        rw [if_pos (by omega), if_pos (by omega), rdT hil, if_neg (by omega), if_neg (by omega), if_neg (by omega), if_neg (by omega), if_neg (by omega), decide_eq_false (by omega)]
        simp only [ref28_Right.j1, Bool.false_eq_true, if_false]
        exact hg
      · rw [g2, h2]
        constructor
        · rintro ⟨f1, f2⟩ j hj hj'
          by_cases e : j = i
          · subst e; exact ⟨c, fun m hm hm' => f1 m hm (Nat.zero_le _) hm'⟩
          · exact f2 j hj (by omega)
        · intro h
          exact ⟨fun m hm _ hm' => (h i hil (Nat.le_refl _)).2 m hm hm', fun j hj hj' => h j hj (by omega)⟩
    · refine ⟨false, fun k hk => ?_, ?_⟩
      · obtain ⟨k, rfl⟩ : ∃ m, k = m + 2 := ⟨k - 2, by omega⟩
        unfold inr at c
        simp only [ref28_Right.l0]
        rw [if_pos (by omega), if_pos (by omega), rdT hil]
        simp only [ref28_Right.j1, if_true]
        repeat' split
        all_goals first | rfl | (exfalso; simp_all <;> omega)
      · constructor
        · intro h; cases h
        · intro h; exact absurd (h i hil (Nat.le_refl _)).1 c
theorem rr_f (hl : l.length ≤ 100) {k : Nat} (hk : 11001 ≤ k) : ref28_Right.f k l = some (rightL (fun _ => false) l) := by
  obtain ⟨b, h1, h2⟩ := r0_f hl l.length 0 (by omega)
  have e := h1 k (by omega)
  unfold ref28_Right.f
  have hb : b = rightL (fun _ => false) l := by
    have : b = true ↔ rightL (fun _ => false) l = true := by
      rw [h2, right_true]
      unfold RightP
      constructor
      · intro h
        refine ⟨fun c hc => ?_, ?_⟩
        · obtain ⟨j, hj, rfl⟩ := List.getElem_of_mem hc
          exact (h j hj (Nat.zero_le _)).1
        · unfold List.Nodup
          rw [List.pairwise_map, List.pairwise_iff_getElem]
          intro i j hi hj hij
          exact (h j hj (Nat.zero_le _)).2 i hi hij
      · rintro ⟨f1, f2⟩ j hj _
        refine ⟨f1 _ (List.getElem_mem hj), fun m hm hm' => ?_⟩
        unfold List.Nodup at f2
        rw [List.pairwise_map, List.pairwise_iff_getElem] at f2
        exact f2 m j hm hj hm'
    cases b <;> cases h : rightL (fun _ => false) l <;> simp_all
  rw [← hb]
  exact e
theorem b0_f (hl : l.length ≤ 100) (p : Bool) (r : Nat) : ∀ (k i : Nat) (b : S25), i + r = l.length → r < k →
    ref28_Best.l0 k l (if p then 1 else 2) (i : Int) b.f0 b.f1 b.f2 = some ((mn p b (l.drop i)).f0, (mn p b (l.drop i)).f1, (mn p b (l.drop i)).f2) := by
  induction r with
  | zero =>
    intro k i b hi hk
    obtain ⟨k, rfl⟩ : ∃ m, k = m + 1 := ⟨k - 1, by omega⟩
    simp only [ref28_Best.l0]
    rw [if_neg (by omega), List.drop_eq_nil_of_le (by omega)]; rfl
  | succ r ih =>
    intro k i b hi hk
    obtain ⟨k, rfl⟩ : ∃ m, k = m + 1 := ⟨k - 1, by omega⟩
    have hlt : i < l.length := by omega
    have ed : l.drop i = l[i] :: l.drop (i + 1) := List.drop_eq_getElem_cons hlt
    have ha := ih k (i + 1) l[i] (by omega) (by omega)
    have hb := ih k (i + 1) b (by omega) (by omega)
    simp only [ref28_Best.l0]
    rw [if_pos (by omega), if_pos (by omega), rdT hlt, ws (by omega), ed, mn_cons]
    by_cases c : lt p l[i] b
    · rw [if_pos c]
      cases p with
      | true =>
        simp only [lt, ka, kb, if_true] at c ha hb ⊢
        repeat' split
        all_goals first | exact ha | (exfalso; omega)
      | false =>
        simp only [lt, ka, kb, Bool.false_eq_true, if_false] at c ha hb ⊢
        rw [if_neg (by decide)]
        repeat' split
        all_goals first | exact ha | (exfalso; omega)
    · rw [if_neg c]
      cases p with
      | true =>
        simp only [lt, ka, kb, if_true] at c ha hb ⊢
        repeat' split
        all_goals first | exact hb | (exfalso; omega)
      | false =>
        simp only [lt, ka, kb, Bool.false_eq_true, if_false] at c ha hb ⊢
        rw [if_neg (by decide)]
        repeat' split
        all_goals first | exact hb | (exfalso; omega)
theorem bb_f (hl : l.length ≤ 100) (hne : l ≠ []) (p : Bool) {k : Nat} (hk : 101 ≤ k) : ref28_Best.f k l (if p then 1 else 2) = some ((best p l).f0, (best p l).f1, (best p l).f2) := by
  cases l with
  | nil => exact absurd rfl hne
  | cons c r =>
    unfold ref28_Best.f
    have h := b0_f (l := c :: r) hl p r.length k 1 c (by simp; omega) (by simp at hl; omega)
    have e0 : rd_T25 (c :: r) 0 = c := rfl
    rw [if_pos (by simp <;> omega), e0]
    exact h
theorem neb_iff (x y : S25) : (!(x.f0 == y.f0) || (!(x.f1 == y.f1) || (!(x.f2 == y.f2)))) = false ↔ x = y := by
  obtain ⟨x0, x1, x2⟩ := x
  obtain ⟨y0, y1, y2⟩ := y
  simp
theorem eqb_iff (x y : S25) : (x.f0 == y.f0 && (x.f1 == y.f1 && (x.f2 == y.f2))) = true ↔ x = y := by
  obtain ⟨x0, x1, x2⟩ := x
  obtain ⟨y0, y1, y2⟩ := y
  simp
end
theorem main (l : List S25) (n0 n1 : Int) : ∃ k, VictimChooses.f k l n0 n1 = some true := by
  refine ⟨20000, ?_⟩
  unfold VictimChooses.f
  rw [awake_f (by omega)]
  simp only [Option.bind_some, if_true]
  by_cases h1 : (l.length : Int) > 100
  · rw [if_pos h1]
  · rw [if_neg h1, cheapest_f (by omega) (by omega)]
    simp only [Option.bind_some]
    rw [freshest_f (by omega) (by omega)]
    simp only [Option.bind_some]
    rw [choose_f (by omega) (by omega)]
    simp only [Option.bind_some, Right.f]
    rw [rr_f (by omega) (by omega)]
    simp only [Option.bind_some, bne_self_eq_false, Bool.false_eq_true, if_false]
    cases ho : okc l with
    | false =>
      have e1 : chosen l n0 n1 = (⟨0, 0, 0⟩, false) := by unfold chosen; rw [ho]; simp
      rw [e1]
      have e2 : rightL (fun _ => false) l = true → ((l.length : Int) == 0) = true := by
        intro h
        unfold okc at ho
        rw [h] at ho
        cases l with
        | nil => rfl
        | cons c r => simp at ho
      have ej : VictimChooses.j0 20000 l n0 n1 false false false true 0 0 0 0 0 0 0 0 0 0 0 0 = some true := by
        rw [show 20000 = 19999 + 1 from rfl]
        simp only [VictimChooses.j0]
        rfl
      simp only [Bool.false_eq_true, if_false]
      cases hr : rightL (fun _ => false) l with
      | false => simp only [Bool.false_eq_true, if_false]; exact ej
      | true => rw [e2 hr]; simp only [if_true]; exact ej
    | true =>
      obtain ⟨hr, hne⟩ := (okc_iff l).mp ho
      have hlen : ((l.length : Int) == 0) = false := by
        cases l with
        | nil => exact absurd rfl hne
        | cons c r => simp; omega
      simp only [if_true]
      rw [hr, hlen]
      simp only [if_true]
      have hi := best_inr (p := false) ho
      unfold inr at hi
      have b1 := bb_f (l := l) (by omega) hne true (k := 19999) (by omega)
      have b2 := bb_f (l := l) (by omega) hne false (k := 19999) (by omega)
      simp only [if_true, Bool.false_eq_true, if_false] at b1 b2
      rw [show 20000 = 19999 + 1 from rfl]
      simp only [VictimChooses.j0, Bool.false_eq_true, if_false, if_true]
      rw [b1]
      simp only [Option.bind_some]
      rw [b2]
      simp only [Option.bind_some]
      rw [(neb_iff (best true l) (best true l)).mpr rfl, (neb_iff (best false l) (best false l)).mpr rfl, if_neg (by simp)]
      rw [show 19999 = 19998 + 1 from rfl]
      simp only [VictimChooses.j1, Bool.false_eq_true, if_false]
      have hw (g : 0 ≤ n0 ∧ n0 ≤ 2147483648) : wrap64 (n0 - (best false l).f2) = n0 - (best false l).f2 := by unfold wrap64; omega
      have ec (g : ¬ (0 ≤ n0 ∧ n0 ≤ 2147483648 ∧ 0 ≤ n1)) : chosen l n0 n1 = (⟨0, 0, 0⟩, false) := by
        unfold chosen; rw [if_neg (fun z => g z.2)]
      have ej (g : ¬ (0 ≤ n0 ∧ n0 ≤ 2147483648 ∧ 0 ≤ n1)) : VictimChooses.j2 19998 n0 n1 (chosen l n0 n1).2 true (best true l).f0 (best true l).f1 (best true l).f2 (best false l).f0 (best false l).f1 (best false l).f2 (chosen l n0 n1).1.f0 (chosen l n0 n1).1.f1 (chosen l n0 n1).1.f2 0 0 0 = some true := by
        rw [ec g, show 19998 = 19997 + 1 from rfl]
        simp only [VictimChooses.j2, if_true]
        rfl
      by_cases c1 : n0 < 0
      · rw [if_pos c1]; exact ej (by omega)
      · rw [if_neg c1]
        by_cases c2 : n0 > 2147483648
        · rw [if_pos c2]; exact ej (by omega)
        · rw [if_neg c2]
          by_cases c3 : n1 < 0
          · rw [decide_eq_true c3]; exact ej (by omega)
          · rw [decide_eq_false c3, show 19998 = 19997 + 1 from rfl]
            simp only [VictimChooses.j2, Bool.false_eq_true, if_false]
            rw [hw (by omega)]
            have e3 : chosen l n0 n1 = if n0 - (best false l).f2 ≥ n1 then (best false l, true) else (best true l, true) := by
              unfold chosen; rw [if_pos ⟨ho, by omega, by omega, by omega⟩]
            by_cases c4 : n0 - (best false l).f2 ≥ n1
            · rw [if_pos c4] at e3
              rw [if_pos c4, e3, if_pos rfl, (eqb_iff (best false l) (best false l)).mpr rfl]
            · rw [if_neg c4] at e3
              rw [if_neg c4, e3, if_pos rfl, (eqb_iff (best true l) (best true l)).mpr rfl]
end Go.Proofs.Ytlcafhmcambaaaa.Choo
