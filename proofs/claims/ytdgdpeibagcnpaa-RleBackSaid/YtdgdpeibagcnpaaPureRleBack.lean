/- For every list of at most 1000 bytes, what the layer packs it unpacks again, the packed text is plain and has at most Most bytes; and so many of one byte are packed into two for each 130 begun: on these the statement RleBack answers true, and on longer lists as well. -/
import Derived.Test.YtdgdpeibagcnpaaMx5
import Derived.Test.YtdgdpeibagcnpaaBc
namespace Go.Proofs.Ytdgdpeibagcnpaa.Pure
open Go.RowKit Go.Proofs.Ytdgdpeibagcnpaa.M Go.Proofs.YtdgdpeibagcnpaaW.PrintWords Go.Proofs.YtdgdpeibagcnpaaW.PrintLast
open Go.Proofs.Ytdgdpeibagcnpaa.Er
theorem word_wf {x : Int} (h : (Lit.int .u16 x).wf = true) : 0 ≤ x ∧ x ≤ 65535 := by
  have e1 : IntKind.u16.min = 0 := by decide
  have e2 : IntKind.u16.max = 65535 := by decide
  simp only [Lit.wf, Bool.and_eq_true, decide_eq_true_eq] at h
  rw [e1, e2] at h
  exact h
theorem Most_at {n : Int} (c0 : 0 ≤ n) (c1 : n ≤ 65536) : Most.f n = some (n + (n + 127) / 128) := by
  have e1 : wrap64 ((wrap64 (n + 128)) - 1) = n + 127 := by unfold wrap64; omega
  have e2 : wrap64 (n + wrap64 ((n + 127) / 128)) = n + (n + 127) / 128 := by unfold wrap64; omega
  unfold Most.f
  rw [if_neg (by omega), if_neg (by omega), e1, Int.tdiv_eq_ediv_of_nonneg (by omega), e2]
theorem back_end (n : Nat) (hn : n ≤ 3000) (c : Int) (k : Nat) : RleBack.l0 (k + 1) c (n : Int) (List.replicate n c) (n : Int) (n : Int) = some true := by
  have hl := rep_len c n n (Nat.le_refl _)
  simp only [RleBack.l0]
  rw [if_neg (by omega), Pack_at _ (by rw [List.length_replicate]; omega), Option.bind_some, Int.tmod_eq_emod_of_nonneg (by omega), Int.tdiv_eq_ediv_of_nonneg (by omega)]
  have e1 : wrap64 ((n : Int) / 130) = (n : Int) / 130 := w64 (by omega) (by omega)
  have e2 : wrap64 ((n : Int) / 130 * 2) = (n : Int) / 130 * 2 := w64 (by omega) (by omega)
  have hq : (packL (List.replicate n c), (0 : Int)).1 = packL (List.replicate n c) := rfl
  rw [e1, e2, hq]
  by_cases c3 : (n : Int) % 130 ≥ 3
  · rw [if_pos (show 3 ≤ n % 130 by omega)] at hl
    have e3 : wrap64 ((n : Int) / 130 * 2 + 2) = (n : Int) / 130 * 2 + 2 := w64 (by omega) (by omega)
    rw [if_pos c3, if_pos rfl, e3]
    congr 1
    exact beq_iff_eq.mpr (by omega)
  · rw [if_neg (show ¬ 3 ≤ n % 130 by omega)] at hl
    rw [if_neg c3]
    by_cases c4 : (n : Int) % 130 > 0
    · rw [if_pos (show 0 < n % 130 by omega)] at hl
      have e3 : wrap64 ((n : Int) % 130 + 1) = (n : Int) % 130 + 1 := w64 (by omega) (by omega)
      have e4 : wrap64 ((n : Int) / 130 * 2 + ((n : Int) % 130 + 1)) = (n : Int) / 130 * 2 + ((n : Int) % 130 + 1) := w64 (by omega) (by omega)
      rw [if_pos c4, if_pos rfl, e3, e4]
      congr 1
      exact beq_iff_eq.mpr (by omega)
    · rw [if_neg (show ¬ 0 < n % 130 by omega)] at hl
      rw [if_neg c4, if_pos rfl]
      congr 1
      exact beq_iff_eq.mpr (by omega)
theorem fill_set (c : Int) (i d : Nat) : (List.replicate i c ++ List.replicate (d + 1) 0).set i c = List.replicate (i + 1) c ++ List.replicate d 0 := by
  rw [List.set_append_right _ _ (by rw [List.length_replicate]; exact Nat.le_refl _), List.length_replicate, Nat.sub_self, List.replicate_succ, List.set_cons_zero, List.replicate_succ', List.append_assoc]
  rfl
theorem back_l0 (n : Nat) (hn : n ≤ 3000) (c : Int) : ∀ (d i k : Nat), i + d = n → d + 1 < k → RleBack.l0 k c (n : Int) (List.replicate i c ++ List.replicate d 0) (n : Int) (i : Int) = some true := by
  intro d
  induction d with
  | zero =>
    intro i k hi hk
    obtain rfl : i = n := by omega
    obtain ⟨k, rfl⟩ : ∃ j, k = j + 1 := ⟨k - 1, by omega⟩
    rw [List.replicate_zero, List.append_nil]
    exact back_end i hn c k
  | succ d ih =>
    intro i k hi hk
    obtain ⟨k, rfl⟩ : ∃ j, k = j + 1 := ⟨k - 1, by omega⟩
    simp only [RleBack.l0]
    rw [if_pos (by omega), if_pos (by omega), if_pos (by rw [List.length_append, List.length_replicate, List.length_replicate]; omega), Int.toNat_natCast, fill_set, wrap_succ (by omega)]
    exact ih (i + 1) k (by omega) (by omega)
theorem RleBack : RleBack.Pure := by
  intro l c n hm hl0 hx hc hn
  have hb : Byt l := fun x h => byte_wf (hx x h)
  obtain ⟨hn0, hn1⟩ := word_wf hn
  obtain ⟨k, hk⟩ : ∃ k : Nat, 30000000 ≤ k := ⟨30000000, Nat.le_refl _⟩
  refine ⟨k + 1, ?_⟩
  unfold RleBack.f
  rw [awake_at (by omega), Option.bind_some, if_pos rfl]
  by_cases c0 : (l.length : Int) > 1000
  · rw [if_pos c0]
  · have h1 := packL_len l.length l (Nat.le_refl _)
    have h2 := Byt_packL l.length l (Nat.le_refl _) hb
    have h3 := un_pack l.length l [] (packL l).length (Nat.le_refl _) (Nat.le_refl _) (by rw [List.length_nil]; omega)
    have h4 := most_len l.length l (Nat.le_refl _)
    rw [List.nil_append] at h3
    have h5 : plainL (packL l) = true := by
      unfold plainL
      rw [h3, if_pos rfl]
      exact decide_eq_true rfl
    rw [if_neg c0, Pack_at l (by omega), Option.bind_some, Unpack_at _ h2 (by omega) (by omega), h3, Option.bind_some, if_pos rfl, if_pos rfl, same_eq l (by omega) (by omega), Option.bind_some, if_pos rfl, Plain_at _ h2 (by omega) (by omega), h5, Option.bind_some, if_pos rfl, Most_at (by omega) (by omega), Option.bind_some]
    have h6 : decide (((packL l).length : Int) > (l.length : Int) + ((l.length : Int) + 127) / 128) = false := decide_eq_false (by omega)
    rw [h6]
    clear h1 h2 h3 h4 h5 h6
    obtain ⟨m, rfl⟩ : ∃ m : Nat, n = (m : Int) := ⟨n.toNat, by omega⟩
    have e1 : wrap64 ((m : Int)) = m := w64 (by omega) (by omega)
    have e2 : wrap64 (Int.tmod (m : Int) 2000 + 3) = ((m % 2000 + 3 : Nat) : Int) := by
      rw [Int.tmod_eq_emod_of_nonneg (by omega), w64 (by omega) (by omega)]
      omega
    simp only [RleBack.j0]
    rw [e1, e2, if_neg (by simp), if_pos (by omega), Int.toNat_natCast, if_pos (by omega), Option.bind_some, List.length_replicate]
    have hb := back_l0 (m % 2000 + 3) (by omega) c (m % 2000 + 3) 0 k (by omega) (by omega)
    rw [List.replicate_zero, List.nil_append] at hb
    exact hb
end Go.Proofs.Ytdgdpeibagcnpaa.Pure
