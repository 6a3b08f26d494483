/-
  L2pFits in plain Lean.
-/
import Derived.Test.YtjcmpfiklmpoaaaFw
import Derived.Test.YtjcmpfiklmpoaaaPv
import Derived.KernelRfl
namespace Go.Proofs.Ytjcmpfiklmpoaaa.Pf
open Go.RowKit Go.Proofs.Ytjcmpfiklmpoaaa.M Go.Proofs.Ytjcmpfiklmpoaaa.Pl Go.Proofs.YtjcmpfiklmpoaaaW.PrintWords Go.Proofs.YtjcmpfiklmpoaaaW.PrintLast
set_option linter.unusedVariables false
set_option linter.unusedSimpArgs false
theorem awake_ok : incunablelaw27_awake.f 10000 = some true := by kernel_rfl
theorem dim : Dim 12 4 6 := ⟨by decide, by decide, by decide⟩
abbrev I (s : St) : Prop := Inv2 12 4 6 s
theorem rd_mem {l : List Int} {i : Nat} (h : i < l.length) : rd l (i : Int) ∈ l := by
  have : rd l (i : Int) = l[i] := by simp [rd, h]
  rw [this]
  exact List.getElem_mem h
theorem ws {n : Nat} (h : n ≤ 1000) : wrap64 ((n : Int) + 1) = ((n + 1 : Nat) : Int) := by rw [w64_small (by omega) (by omega)]; omega
theorem l2_loop {s : St} (h : I s) {l : List S32} {ln x67 acc : Int} {b K : Nat} (hb : b < 4) (hcont : ∀ k, K ≤ k → incunablelaw27_L2pFits.l1 k acc l ln x67 ((b + 1 : Nat) : Int) s = some true) :
    ∀ (d i k : Nat), i + d = (rowsL s (b : Int) 6 6 0).length → K + d < k → incunablelaw27_L2pFits.l2 k acc (b : Int) l ln x67 (b : Int) (rowsL s (b : Int) 6 6 0) ((rowsL s (b : Int) 6 6 0).length : Int) (i : Int) s = some true := by
  have hlen : (rowsL s (b : Int) 6 6 0).length ≤ 6 := by rw [rowsL_len]; exact cnt_le _ _
  intro d
  induction d with
  | zero =>
    intro i k hi hk
    obtain ⟨k, rfl⟩ : ∃ j, k = j + 1 := ⟨k - 1, by omega⟩
    simp only [incunablelaw27_L2pFits.l2]
    rw [if_neg (by omega), ws (by omega)]
    exact hcont k (by omega)
  | succ d ih =>
    intro i k hi hk
    obtain ⟨k, rfl⟩ : ∃ j, k = j + 1 := ⟨k - 1, by omega⟩
    obtain ⟨j, ej, j0, j1, hs⟩ := rowsL_mem 6 0 _ (rd_mem (l := rowsL s (b : Int) 6 6 0) (i := i) (by omega))
    simp only [incunablelaw27_L2pFits.l2]
    rw [if_pos (by omega), if_pos (by omega), if_pos (by omega), ws (by omega)]
    obtain ⟨row, hrow⟩ : ∃ row, row = rd (rowsL s (b : Int) 6 6 0) (i : Int) := ⟨_, rfl⟩
    rw [← hrow] at ej hs ⊢
    cases hg : s.g row with
    | none => rw [hg] at hs; cases hs
    | some sec =>
      have hf := (h.base.fg sec row).mpr hg
      have hr := h.base.rng sec row hf
      rw [sector_f s (show wfI row from ⟨by omega, by omega⟩), Option.bind_some, hg]
      show ((l2p_Map_Row.f s sec).bind _) = _
      rw [row_f s (show wfI sec from ⟨by omega, by omega⟩), Option.bind_some, hf]
      have ed : wrap64 (Int.tdiv row 6) = (b : Int) := by
        rw [Int.tdiv_eq_ediv_of_nonneg hr.2.1, w64_small (by omega) (by omega)]
        omega
      show (if true = true then (if true = true then (if row = row then (if wrap64 (Int.tdiv row 6) = (b : Int) then _ else _) else _) else _) else _) = _
      rw [if_pos rfl, if_pos rfl, if_pos rfl, if_pos ed]
      exact ih (i + 1) k (by omega) (by omega)
theorem l1_loop {s : St} (h : I s) {l : List S32} {ln x67 : Int} {K : Nat} (hcont : ∀ k, K ≤ k → incunablelaw27_L2pFits.l0 k l ln (wrap64 (x67 + 1)) s = some true) :
    ∀ (d b k : Nat), b + d = 4 → K + 20 * d + 20 < k → incunablelaw27_L2pFits.l1 k (cnt s.g (b * 6) : Int) l ln x67 (b : Int) s = some true := by
  intro d
  induction d with
  | zero =>
    intro b k hb hk
    obtain rfl : b = 4 := by omega
    obtain ⟨k, rfl⟩ : ∃ j, k = j + 1 := ⟨k - 1, by omega⟩
    simp only [incunablelaw27_L2pFits.l1]
    rw [if_neg (by omega)]
    show (if (cnt s.g (4 * 6) : Int) = (s.n : Int) then incunablelaw27_L2pFits.l0 k l ln (wrap64 (x67 + 1)) s else some false) = _
    rw [if_pos (by rw [h.ng]; rfl)]
    exact hcont k (by omega)
  | succ d ih =>
    intro b k hb hk
    obtain ⟨k, rfl⟩ : ∃ j, k = j + 1 := ⟨k - 1, by omega⟩
    have hv := h.v (b : Int) (by omega) (by omega)
    have hle := cntB_le s.g (b : Int) 6
    have hcl := cnt_le s.g (b * 6)
    simp only [incunablelaw27_L2pFits.l1]
    rw [if_pos (by omega), valid_f, Option.bind_some, if_neg (by omega), if_neg (by rw [h.base.len]; omega), hv]
    show ((l2p_Map_Rows.f k s (b : Int)).bind _) = _
    rw [rows_f dim h (by omega) (by omega) (show (6 : Int).toNat < k by have : (6 : Int).toNat = 6 := rfl; omega), Option.bind_some]
    have ea : wrap64 ((cnt s.g (b * 6) : Int) + (cntB s.g (b : Int) 6 : Int)) = (cnt s.g ((b + 1) * 6) : Int) := by
      have e := cnt_add s.g (b * 6) 6
      rw [show b * 6 + 6 = (b + 1) * 6 by omega] at e
      have ec : cntB s.g (b : Int) 6 = cnt (fun i => s.g (((b * 6 : Nat) : Int) + i)) 6 := cnt_congr _ fun x _ _ => by
        show (s.g ((b : Int) * 6 + x)).isSome = (s.g (((b * 6 : Nat) : Int) + x)).isSome
        rw [show ((b * 6 : Nat) : Int) = (b : Int) * 6 by omega]
      have e6 : (6 : Int).toNat = 6 := rfl
      rw [w64_small (by omega) (by omega), e, ec]
      omega
    show incunablelaw27_L2pFits.l2 k (wrap64 ((cnt s.g (b * 6) : Int) + (cntB s.g (b : Int) 6 : Int))) (b : Int) l ln x67 (b : Int) (rowsL s (b : Int) 6 6 0) ((rowsL s (b : Int) 6 6 0).length : Int) 0 s = some true
    rw [ea]
    have hlen : (rowsL s (b : Int) 6 6 0).length ≤ 6 := by rw [rowsL_len]; exact cnt_le _ _
    exact l2_loop h (K := K + 20 * d + 21) (by omega) (fun k' hk' => ih (b + 1) k' (by omega) (by omega)) (rowsL s (b : Int) 6 6 0).length 0 k (by omega) (by omega)
theorem j2_ok {s : St} (h : I s) {l : List S32} {ln x67 : Int} {K : Nat} (hcont : ∀ k, K ≤ k → incunablelaw27_L2pFits.l0 k l ln (wrap64 (x67 + 1)) s = some true) {k : Nat} (hk : K + 110 < k) : incunablelaw27_L2pFits.j2 k l ln x67 s = some true := by
  obtain ⟨k, rfl⟩ : ∃ j, k = j + 1 := ⟨k - 1, by omega⟩
  simp only [incunablelaw27_L2pFits.j2]
  exact l1_loop h hcont 4 0 k rfl (by omega)
def WF (l : List S32) : Prop := ∀ d ∈ l, wfI d.f1 ∧ wfI d.f2
theorem rd_wf {l : List S32} (hl : WF l) {i : Nat} (h : i < l.length) : wfI (rd_T32 l (i : Int)).f1 ∧ wfI (rd_T32 l (i : Int)).f2 := by
  have : rd_T32 l (i : Int) = l[i] := by simp [rd_T32, h]
  rw [this]
  exact hl _ (List.getElem_mem h)
theorem loop {l : List S32} (hl : WF l) (hlen : l.length ≤ 60) : ∀ (d i k : Nat) (s : St), I s → s.c ≤ i → i + d = l.length → 150 * d + 10 < k → incunablelaw27_L2pFits.l0 k l (l.length : Int) (i : Int) s = some true := by
  intro d
  induction d with
  | zero =>
    intro i k s h hcc hi hk
    obtain ⟨k, rfl⟩ : ∃ j, k = j + 1 := ⟨k - 1, by omega⟩
    simp only [incunablelaw27_L2pFits.l0]
    rw [if_neg (by omega)]
  | succ d ih =>
    intro i k s h hcc hi hk
    obtain ⟨k, rfl⟩ : ∃ j, k = j + 2 := ⟨k - 2, by omega⟩
    have hw := rd_wf hl (i := i) (by omega)
    have next : ∀ s', I s' → s'.c ≤ i + 1 → ∀ k', 150 * d + 11 ≤ k' → incunablelaw27_L2pFits.l0 k' l (l.length : Int) (wrap64 ((i : Int) + 1)) s' = some true := by
      intro s' h' hc' k' hk'
      rw [ws (by omega)]
      exact ih (i + 1) k' s' h' hc' (by omega) (by omega)
    simp only [incunablelaw27_L2pFits.l0]
    rw [if_pos (by omega), if_pos (by omega), if_pos (by omega)]
    obtain ⟨A, hA⟩ : ∃ A, A = (rd_T32 l (i : Int)).f1 := ⟨_, rfl⟩
    obtain ⟨Bv, hB⟩ : ∃ B, B = (rd_T32 l (i : Int)).f2 := ⟨_, rfl⟩
    rw [← hA, ← hB] at hw ⊢
    rw [row_f s hw.1, Option.bind_some]
    by_cases k1 : (rd_T32 l (i : Int)).f0 = 1
    · rw [if_pos k1]
      have j1ok : ∀ (e : Int) (s' : St), I s' → s'.c ≤ i + 1 → (e = 0 → ∀ was, s.f A = some was → was ≠ Bv → (s'.g was).isSome = false) → incunablelaw27_L2pFits.j1 (k + 1) ((s.f A).getD 0) (s.f A).isSome e l (l.length : Int) (i : Int) false s' (rd_T32 l (i : Int)).f0 A Bv = some true := by
        intro e s' h' hc' hwas
        have hwf : wfI ((s.f A).getD 0) := by
          cases hf : s.f A with
          | none => exact ⟨by decide, by decide⟩
          | some x =>
            have := h.base.rng A x hf
            show wfI x
            exact ⟨by omega, by omega⟩
        simp only [incunablelaw27_L2pFits.j1]
        rw [if_neg (by simp), sector_f s' hwf, Option.bind_some]
        have go2 := j2_ok h' (K := 150 * d + 11) (next s' h' hc') (k := k) (by omega)
        by_cases e0 : e = 0
        · rw [if_pos e0]
          by_cases st : (s.f A).isSome = true
          · rw [if_pos st]
            by_cases ew : (s.f A).getD 0 = Bv
            · rw [if_pos ew]
              exact go2
            · rw [if_neg ew]
              cases hf : s.f A with
              | none => rw [hf] at st; cases st
              | some x =>
                rw [hf] at ew
                have := hwas e0 x hf ew
                show (if (s'.g x).isSome = true then _ else _) = _
                rw [if_neg (by rw [this]; simp)]
                exact go2
          · rw [if_neg st]
            exact go2
        · rw [if_neg e0]
          exact go2
      by_cases hg : setGood 12 4 6 s A Bv
      · have h1 := set_inv2 dim h hg
        show ((l2p_Map_Set.f s A Bv).bind _) = _
        rw [set_good dim h.base (by omega) hg, Option.bind_some]
        show ((l2p_Map_Row.f (setTo s A Bv) A).bind _) = _
        rw [row_f _ hw.1, Option.bind_some]
        have e1 : (setTo s A Bv).f A = some Bv := by rw [setTo_f, if_pos rfl]
        rw [if_pos rfl, e1, if_pos (show (some Bv).isSome = true from rfl), if_pos (show (some Bv).getD 0 = Bv from rfl)]
        refine j1ok 0 _ h1 (by rw [setTo_c]; omega) (fun _ was hf hne => ?_)
        rw [setTo_g, if_neg hne, if_pos hf]
        rfl
      · show ((l2p_Map_Set.f s A Bv).bind _) = _
        rw [set_bad dim h.base hg, Option.bind_some]
        show ((l2p_Map_Row.f s A).bind _) = _
        rw [row_f _ hw.1, Option.bind_some]
        rw [if_neg (show ¬ ((2 : Int) = 0) by decide)]
        have e1 : ((s.f A).isSome != (s.f A).isSome) = false := by simp
        have e2 : ((s.f A).getD 0 != (s.f A).getD 0) = false := by simp
        show (if ((s.f A).isSome != (s.f A).isSome) = true then _ else incunablelaw27_L2pFits.j1 (k + 1) ((s.f A).getD 0) (s.f A).isSome 2 l (l.length : Int) (i : Int) ((s.f A).getD 0 != (s.f A).getD 0) s (rd_T32 l (i : Int)).f0 A Bv) = _
        rw [if_neg (by rw [e1]; simp), e2]
        exact j1ok 2 s h (by omega) (fun e => by cases e)
    · rw [if_neg k1]
      by_cases k2 : (rd_T32 l (i : Int)).f0 = 2
      · rw [if_pos k2]
        have h1 := gone_inv2 dim h A
        show ((l2p_Map_Drop.f s A).bind _) = _
        rw [drop_f dim h.base hw.1, Option.bind_some]
        have e1 : ((s.f A).isSome != (s.f A).isSome) = false := by simp
        show (if ((s.f A).isSome != (s.f A).isSome) = true then _ else ((l2p_Map_Row.f (dropped s A) A).bind _)) = _
        rw [if_neg (by rw [e1]; simp), row_f _ hw.1, Option.bind_some]
        have e2 : (dropped s A).f A = none := by rw [dropped_f, del_eq]
        rw [e2, if_neg (show ¬ (none : Option Int).isSome = true by simp)]
        exact j2_ok h1 (K := 150 * d + 11) (next _ h1 (by rw [dropped_c]; omega)) (by omega)
      · rw [if_neg k2]
        exact j2_ok h (K := 150 * d + 11) (next s h (by omega)) (by omega)
theorem fits {l : List S32} (hl : WF l) : ∃ k, incunablelaw27_L2pFits.f k l = some true := by
  refine ⟨10000, ?_⟩
  unfold incunablelaw27_L2pFits.f
  rw [awake_ok, Option.bind_some, if_pos rfl]
  by_cases h60 : (l.length : Int) > 60
  · rw [if_pos h60]
  · rw [if_neg h60, new_f dim, Option.bind_some, if_pos rfl]
    exact loop hl (by omega) l.length 0 10000 _ (new_inv2 dim) (Nat.le_refl _) (by omega) (by omega)
end Go.Proofs.Ytjcmpfiklmpoaaa.Pf
