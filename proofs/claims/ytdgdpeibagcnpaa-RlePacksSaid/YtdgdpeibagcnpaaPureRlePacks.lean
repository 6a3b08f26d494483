/- For every list of at most 1000 bytes the layer's Pack answers what the document's Pack answers, and Most answers the document's bound: on these the statement RlePacks answers true, and on longer lists as well. -/
import Derived.Test.YtdgdpeibagcnpaaMx3
import Derived.Test.YtdgdpeibagcnpaaEr
namespace Go.Proofs.Ytdgdpeibagcnpaa.Pure
open Go.RowKit Go.Proofs.Ytdgdpeibagcnpaa.M Go.Proofs.YtdgdpeibagcnpaaW.PrintWords Go.Proofs.YtdgdpeibagcnpaaW.PrintLast
open Go.Proofs.Ytdgdpeibagcnpaa.Er
theorem Pack_le (l : List Int) (hl : l.length ≤ 65536) : Pack.f l = some (packL l, 0) := by
  unfold Pack.f
  rw [if_neg (by omega)]
theorem awake_t {k : Nat} (hk : 3 ≤ k) : awake.f k = some true := by
  unfold awake.f
  have hp : packL (List.replicate 7 0) = [132, 0] := by decide
  rw [if_pos (by decide), Pack_le _ (by decide), Option.bind_some, hp]
  rw [if_pos rfl, same_eq _ (by decide) (show ([132, 0] : List Int).length < k from Nat.lt_of_lt_of_le (by decide) hk)]
  rfl
theorem refPack (l : List Int) (hl : l.length ≤ 1000) {k : Nat} (hk : 400000 ≤ k) : ref46_Pack.f k l = some (packL l) := by
  have h := pack_l0 l (by omega) l.length 0 k [] (by omega) (by omega) (by omega) (by simp only [List.length_nil]; omega)
  unfold ref46_Pack.f
  simpa using h
theorem tdivn {n : Int} (h : 0 ≤ n) : Int.tdiv n 128 = n / 128 := Int.tdiv_eq_ediv_of_nonneg h
theorem tmodn {n : Int} (h : 0 ≤ n) : Int.tmod n 128 = n % 128 := Int.tmod_eq_emod_of_nonneg h
theorem Most_in {n : Int} (c0 : 0 ≤ n) (c1 : n ≤ 65536) : Most.f n = some (n + (n + 127) / 128) := by
  have e1 : wrap64 ((wrap64 (n + 128)) - 1) = n + 127 := by unfold wrap64; omega
  have e2 : wrap64 (n + wrap64 ((n + 127) / 128)) = n + (n + 127) / 128 := by unfold wrap64; omega
  unfold Most.f
  rw [if_neg (by omega), if_neg (by omega), e1, tdivn (by omega), e2]
theorem Most_out {n : Int} (c : n < 0 ∨ 65536 < n) : Most.f n = some 0 := by
  unfold Most.f
  split
  · rfl
  · rw [if_pos (by omega)]
theorem RlePacks : RlePacks.Pure := by
  intro l n hm hb hx hn
  refine ⟨400001, ?_⟩
  obtain ⟨k, hk, hk'⟩ : ∃ k, 400001 = k + 1 ∧ 400000 ≤ k := ⟨400000, rfl, Nat.le_refl _⟩
  unfold RlePacks.f
  rw [awake_t (by decide), Option.bind_some, if_pos rfl]
  by_cases c : (l.length : Int) > 1000
  · rw [if_pos c]
  · rw [if_neg c, Pack_le l (by omega), Option.bind_some]
    have hP := refPack l (by omega) hk'
    have hlen := packL_len l.length l (Nat.le_refl _)
    have hS := same_eq (packL l) (by omega) (k := k) (by omega)
    rw [hk]
    clear hk
    by_cases c0 : n ≥ 0
    · rw [if_pos c0]
      by_cases c1 : n ≤ 65536
      · rw [decide_eq_true c1]
        simp only [RlePacks.j0]
        rw [if_pos trivial, tmodn c0, tdivn c0]
        have e3 : wrap64 (n + wrap64 (n / 128)) = n + n / 128 := by unfold wrap64; omega
        rw [e3]
        by_cases c2 : n % 128 > 0
        · rw [if_pos c2, if_pos trivial, hP, Option.bind_some, hS, Option.bind_some, if_pos rfl, Most_in c0 c1, Option.bind_some]
          have e4 : wrap64 (n + n / 128 + 1) = n + n / 128 + 1 := by unfold wrap64; omega
          rw [e4]
          congr 1
          exact beq_iff_eq.mpr (by omega)
        · rw [if_neg c2, if_pos trivial, hP, Option.bind_some, hS, Option.bind_some, if_pos rfl, Most_in c0 c1, Option.bind_some]
          congr 1
          exact beq_iff_eq.mpr (by omega)
      · rw [decide_eq_false c1]
        simp only [RlePacks.j0]
        rw [if_neg (by simp), if_pos trivial, hP, Option.bind_some, hS, Option.bind_some, if_pos rfl, Most_out (by omega)]
        rfl
    · rw [if_neg c0]
      simp only [RlePacks.j0]
      rw [if_neg (by simp), if_pos trivial, hP, Option.bind_some, hS, Option.bind_some, if_pos rfl, Most_out (by omega)]
      rfl
end Go.Proofs.Ytdgdpeibagcnpaa.Pure
