/-
  ParityRestores' closure: all parts, those at some places lost.
-/
import Derived.Test.YtibkckcpclkclaaMx0
import Derived.Deep.RegionHeld3
namespace Go.Proofs.Ytibkckcpclkclaa.M
open Go.RowKit Go.Proofs.YtibkckcpclkclaaW.PrintWords Go.Proofs.YtibkckcpclkclaaW.PrintLast Go.Proofs.YtibkckcpclkclaaW.PrintMore
set_option linter.unusedVariables false
set_option linter.unusedSimpArgs false
abbrev Pt := Kd.slice 5 (Kd.int .u8)
/-- the parts at the first n places are lost -/
def ers (all : List (List Int)) (ps : List Int) : Nat → List (List Int)
  | 0 => all
  | n + 1 => (ers all ps n).set (rd ps (n : Int)).toNat []
theorem ers_len (all : List (List Int)) (ps : List Int) : ∀ n, (ers all ps n).length = all.length
  | 0 => rfl
  | n + 1 => by show ((ers all ps n).set _ _).length = _; rw [List.length_set, ers_len all ps n]
theorem w64s {x : Int} (h : -9223372036854775808 ≤ x) (h' : x ≤ 9223372036854775807) : wrap64 x = x := by unfold wrap64; omega
set_option maxHeartbeats 8000000 in
set_option maxRecDepth 100000 in
theorem without_calls {w : World} {b1 b2 : Nat} {Pk : Nat → Prop} (all : List (List Int)) (m : Nat) (A A2 Ap : Option Addr) (c c2 cp : Nat) (ps : List Int) (hV : Kd.V Pt 30 w w.heap.size Pk (.slice A all.length c) all)
    (hb1 : w.heap[b1]? = some (.cells #[.slice A all.length c] 28 (0, 0))) (hb2 : w.heap[b2]? = some (.cells #[.slice A2 m c2] 28 (0, 0))) (hm : all.length = m + 2) (hm1 : m ≤ 1000)
    (hp : Kd.C (Kd.int .i64) w Ap ps.length ps) (hpl : ps.length ≤ 1000) (hpr : ∀ i : Int, 0 ≤ i → i < (ps.length : Int) → 0 ≤ rd ps i ∧ rd ps i < (m : Int) + 2) :
    Calls Try.prog 17 #[.slice Ap ps.length cp, .pointer (some ⟨b1, 0, none⟩), .pointer (some ⟨b2, 0, none⟩)] w fun e w' => ∃ (g cap : Nat) (v1 v2 : Value), e = .returned (.tuple #[.slice (some ⟨g, 0, none⟩) m cap, v1, v2]) ∧ m ≤ cap ∧ Kd.N Pt 30 w' w.heap.size (fun _ => True) (.slice (some ⟨g, 0, none⟩) (m + 2) cap) (ers all ps ps.length) ∧
      Kd.V (Kd.int .u8) 5 w' w.heap.size (fun _ => True) v1 ((ers all ps ps.length).getD m []) ∧ Kd.V (Kd.int .u8) 5 w' w.heap.size (fun _ => True) v2 ((ers all ps ps.length).getD (m + 1) []) ∧ Below w.heap.size w w' := by
  have HV := Aside0.mk hV
  have HB1 := Aside0.mk hb1
  have HB2 := Aside0.mk hb2
  have HM := Aside0.mk (And.intro hm hm1)
  have HP := Aside0.mk hp
  have HPL := Aside0.mk hpl
  have HPR := Aside0.mk hpr
  clear hV hb1 hb2 hm hm1 hp hpl hpr
  go_enter Try.func17, Try.ntmps17
  go_wp2_with (first
    | ((with_reducible refine gate_dst (N := 10) rfl ?_); refine Kd.N_lit Pt _ 30 ?hg (N' := 10) ?hd (xs := ([] : List (List Int))) (inner := []) (ok := fun _ => True) (okp := fun _ => True) ?hr ?hp (fun _ hk => hk) trivial (Below.refl _ _) (Nat.le_refl _) (by simp) ?_; (case hd => rfl); (case hg => rfl); (case hr => first | (go_simp; done) | (go_simp; rfl)); (case hp => exact (Reps.none _ _)); intro v1 w1 ho hb hg_ hnew_; have HN := Aside0.mk ho; have HB := Aside0.mk hb; have HNE := Aside0.mk (show ∀ k, v1.ownBlock = some k → w.heap.size ≤ k from fun k hk => by obtain ⟨b, e1, e2⟩ := hnew_; rw [e1] at hk; injection hk with hk; omega); have k1_ : w1.cell? ⟨b1, 0, none⟩ = some (.slice A all.length c) := (blk_cell (blk_below HB1.out hb) 0).trans rfl; clear ho hb hg_ hnew_)
    | ((with_reducible refine gate_builtin (b := .append) (xs := #[.tmp 10, .tmp 11]) rfl ?_); at_builtin; refine Kd.N_append_rows Pt (w0 := w) w.heap.size rfl (.tmp 10) (.tmp 11) 28 30 (.slice none 0 0) 24 rfl Try.underlying28 info30 rfl (by decide) (by omega) v1 [] all A all.length c (fun _ => True) (fun k => k < w.heap.size) rfl rfl HN.out (Kd.F_mono (Kd.F_old (Kd.V_at HV.out).2.2 HB.out) (fun k hk => hk.2)) (fun k hk => ⟨trivial, fun e => by have := HNE.out k e.symm; omega⟩) (fun _ _ => trivial) HB.out HB.out.size (by have := HM.out; simp only [List.length_nil]; omega) ?_; intro v2 w2 ho hb hg hat; have HN2 := Aside0.mk ho; have HB2_ := Aside0.mk hb; clear ho hb hg hat k1_ HN HB HNE))
  have hl2 : ([] ++ all : List (List Int)).length = m + 2 := by simpa using HM.out.1
  obtain ⟨g, cap, hv2, hg1, hg2, _⟩ := Kd.N_form HN2.out (by rw [hl2]; omega)
  rw [hl2] at hv2
  subst hv2
  have HG := Aside0.mk hg1
  have HN := Aside0.mk (show Kd.N Pt 30 w2 w.heap.size (fun _ => True) (.slice (some ⟨g, 0, none⟩) (m + 2) cap) (ers all ps 0) from by simpa [ers] using HN2.out)
  clear hl2 hg1 hg2 HN2
  go_wp2
  go_loopg [15] (ps.length + 1) (fun kq v15 w' => ∃ (x : Int) (n d : Nat), v15 = .int .i64 x ∧ Aside0 (x = n ∧ n + d = ps.length) ∧ Aside0 (kq = d + 1) ∧ Aside0 (Kd.N Pt 30 w' w.heap.size (fun _ => True) (.slice (some ⟨g, 0, none⟩) (m + 2) cap) (ers all ps n)) ∧ Aside0 (Below w.heap.size w w'))
  case atStart => exact ⟨0, 0, ps.length, rfl, ⟨rfl, Nat.zero_add _⟩, ⟨rfl⟩, HN, HB2_⟩
  case round =>
    clear HN HB2_
    obtain ⟨x, n, d, rfl, Hn, HK, HN, HB⟩ := hrel
    cases d with
    | zero =>
      have hb : decide (x < (ps.length : Int)) = false := decide_eq_false (by have := Hn.out; omega)
      have hnn : n = ps.length := by have := Hn.out; omega
      subst hnn
      have k2_ : wr.cell? ⟨b2, 0, none⟩ = some (.slice A2 m c2) := (blk_cell (blk_below HB2.out HB.out) 0).trans rfl
      obtain ⟨e1, hl1, hM1, hc1, _⟩ := Kd.N_elem HN.out [] (m : Int) (by omega) (by omega)
      obtain ⟨e2, hl2, hM2, hc2, _⟩ := Kd.N_elem HN.out [] ((m : Int) + 1) (by omega) (by omega)
      obtain ⟨B1, d1, rfl, hd1, hf1⟩ := Kd.FK_slice_open hM1
      obtain ⟨B2, d2, rfl, hd2, hf2⟩ := Kd.FK_slice_open hM2
      have hx1 := hc1 0 _ rfl
      have hx2 := hc2 0 _ rfl
      simp only [show (Kd.slice 5 (Kd.int .u8)).sz = 1 from rfl, Nat.mul_one, Nat.add_zero] at hx1 hx2
      have e1 : ((m : Int) + 1).toNat = m + 1 := by omega
      rw [e1] at hx2 hf2 hd2
      rw [Int.toNat_natCast] at hx1 hf1 hd1
      obtain ⟨L1, hL1⟩ : ∃ L1, L1 = (ers all ps ps.length).getD m [] := ⟨_, rfl⟩
      obtain ⟨L2, hL2⟩ : ∃ L2, L2 = (ers all ps ps.length).getD (m + 1) [] := ⟨_, rfl⟩
      rw [← hL1] at hx1 hf1 hd1
      rw [← hL2] at hx2 hf2 hd2
      have hwm : wrap64 ((m : Int) + 1) = ((m + 1 : Nat) : Int) := by rw [w64s (by omega) (by have := HM.out; omega)]; omega
      have hwm2 : IntKind.i64.wrap ((m : Int) + 1) = ((m + 1 : Nat) : Int) := by rw [IntKind.wrap_i64]; have := HM.out; omega
      have hcap := (Kd.N_reads' HN.out).2.1
      have q1 := eq_true (show m ≤ cap by omega)
      have q2 := eq_true (show m < m + 2 by omega)
      have q3 := eq_true (show m + 1 < m + 2 by omega)
      have HC := Aside0.mk hcap
      have HF1 := Aside0.mk (And.intro hd1 hf1)
      have HF2 := Aside0.mk (And.intro hd2 hf2)
      have HL1 := Aside0.mk hL1
      have HL2 := Aside0.mk hL2
      clear hc1 hc2 hM1 hM2 hl1 hl2 e1 hcap hd1 hd2 hf1 hf2 hL1 hL2
      go_wp2
      repeat (go_quiet (fail); try go_wp2)
      go_ret3
      refine ⟨g, cap, _, _, rfl, by have := HC.out; omega, Kd.N_drewN HN.out _, ?_, ?_, pw_below_drewN HB.out _⟩
      · rw [← HL1.out]
        exact Kd.V_mk HF1.out.1 (Kd.F_drewN (Kd.F_mono HF1.out.2 (fun _ _ => trivial)) _)
      · rw [← HL2.out]
        exact Kd.V_mk HF2.out.1 (Kd.F_drewN (Kd.F_mono HF2.out.2 (fun _ _ => trivial)) _)
    | succ d =>
      obtain ⟨hx, hd⟩ := Hn.out
      subst hx
      have hb : decide ((n : Int) < (ps.length : Int)) = true := decide_eq_true (by omega)
      have hpr := HPR.out (n : Int) (by omega) (by omega)
      obtain ⟨ad, hA, hpc⟩ := Kd.at_int (Kd.C_below HP.out HB.out) (n : Int) (by omega) (by omega)
      subst hA
      rw [Int.toNat_natCast] at hpc
      obtain ⟨p, hpd⟩ : ∃ p, p = rd ps (n : Int) := ⟨_, rfl⟩
      rw [← hpd] at hpr hpc
      obtain ⟨c0, hl0, hM0, hc0, _⟩ := Kd.N_elem HN.out [] p hpr.1 (by omega)
      have HPD := Aside0.mk hpd
      have HC0 := Aside0.mk (And.intro hl0 hc0)
      have HPP := Aside0.mk hpr
      have q1 := eq_true (show n < ps.length by omega)
      have q2 := eq_true hpr.1
      have q3 := eq_true hpr.2
      have q4 := eq_true (show p.toNat < m + 2 by omega)
      clear hl0 hM0 hc0 hpd hpr
      have hdrop : c0.drop 1 = [] := List.drop_eq_nil_of_le (by rw [HC0.out.1]; exact Nat.le_refl 1)
      go_wp2_with (first
        | ((with_reducible refine gate_store (t := 30) (p := 21) rfl ?_); go_loud (refine Kd.N_store Pt (w0 := w) w.heap.size rfl rfl 30 (.tmp 21) (.const (.slice none 0 0)) rfl 30 (n := m + 2) (cap := cap) p 0 (ers all ps n) [] (.slice none 0 0) [.slice none 0 0] c0 (fun _ => True) (fun _ => False) rfl (by show _ = _ * 1 + 0; rw [Nat.mul_one, Nat.add_zero]) rfl rfl (by have h := congrArg (Option.map (fun t : _ × _ × _ => t.2.1)) info30; rw [Option.map_map] at h; exact h) (by simp [Value.oneCell']) HN.out HPP.out.1 (by have := HPP.out.2; omega) HC0.out.1 HC0.out.2 (Nat.le_refl _) (by show Kd.FK Pt _ _ [] ([] ++ [.slice none 0 0] ++ c0.drop 1); rw [hdrop]; exact Kd.FK_slice_mk (Nat.le_refl 0) (Kd.F_nil _ _ _)) (fun _ hk => hk.elim) HB.out ?_); intro w3 ho hb hg; have HN3 := Aside0.mk ho; have HB3 := Aside0.mk hb; clear ho hb hg HN HB))
      go_roundg (d + 1)
      case measure => have := HK.out; omega
      case rel => exact ⟨_, n + 1, d, rfl, ⟨by rw [w64s (by omega) (by have := HPL.out; omega)]; omega, by omega⟩, ⟨rfl⟩, ⟨by have h := HN3.out; rw [HPD.out] at h; exact h⟩, HB3⟩
end Go.Proofs.Ytibkckcpclkclaa.M
