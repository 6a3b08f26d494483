/-
  The layer's Plain and the document's Plain answer the same; awake; the document's Pack.
-/
import Derived.Test.YtdgdpeibagcnpaaMx5
import Derived.Test.YtdgdpeibagcnpaaUb
namespace Go.Proofs.Ytdgdpeibagcnpaa.Er
open Go.RowKit Go.Proofs.Ytdgdpeibagcnpaa.M Go.Proofs.YtdgdpeibagcnpaaW.PrintWords
theorem Pack_at (l : List Int) (hl : l.length ≤ 65536) : Pack.f l = some (packL l, 0) := by
  unfold Pack.f
  rw [if_neg (by omega)]
theorem awake_at {k : Nat} (hk : 3 ≤ k) : awake.f k = some true := by
  unfold awake.f
  have hp : packL (List.replicate 7 0) = [132, 0] := by decide
  rw [if_pos (by decide), Pack_at _ (by decide), Option.bind_some, hp]
  rw [if_pos rfl, same_eq _ (by decide) (show ([132, 0] : List Int).length < k from Nat.lt_of_lt_of_le (by decide) hk)]
  rfl
theorem refPack_at (l : List Int) (hl : l.length ≤ 65536) {k : Nat} (hk : 30000000 ≤ k) : ref46_Pack.f k l = some (packL l) := by
  have h := pack_l0 l (by omega) l.length 0 k [] (by omega) (by omega) (by omega) (by simp only [List.length_nil]; omega)
  unfold ref46_Pack.f
  simpa using h
theorem Unpack_at (l : List Int) (hb : Byt l) (hl : l.length ≤ 131072) {k : Nat} (hk : 30000000 ≤ k) : Unpack.f k l = some (unp l.length l []) := by
  unfold Unpack.f
  rw [if_neg (by omega)]
  exact un_l0 l.length l [] k (Nat.le_refl _) (by omega) hb (by omega) (Nat.zero_le _)
theorem refUnpack_at (l : List Int) (hb : Byt l) (hl : l.length ≤ 131072) {k : Nat} (hk : 30000000 ≤ k) : ref46_Unpack.f k l = some (unp l.length l []) := by
  have h := ru_l0 l hb (by omega) l.length 0 k [] (by omega) (by omega) (by omega) (Nat.zero_le _)
  unfold ref46_Unpack.f
  simpa using h
def plainL (l : List Int) : Bool := if (unp l.length l []).2 = 0 then decide (packL (unp l.length l []).1 = l) else false
theorem Plain_at (l : List Int) (hb : Byt l) (hl : l.length ≤ 131072) {k : Nat} (hk : 30000000 ≤ k) : Plain.f k l = some (plainL l) := by
  obtain ⟨h1, h2⟩ := unp_ok l.length l [] hb Byt_nil (Nat.zero_le _)
  unfold Plain.f plainL
  rw [Unpack_at l hb hl hk, Option.bind_some]
  by_cases c : (unp l.length l []).2 = 0
  · rw [if_pos c, if_pos c, Pack_at _ h2, Option.bind_some, if_pos rfl, equal_dec _ _ (Byt_packL _ _ (Nat.le_refl _) h1) hb, Option.bind_some]
  · rw [if_neg c, if_neg c]
theorem refPlain_at (l : List Int) (hb : Byt l) (hl : l.length ≤ 131072) {k : Nat} (hk : 30000000 ≤ k) : ref46_Plain.f k l = some (plainL l) := by
  obtain ⟨h1, h2⟩ := unp_ok l.length l [] hb Byt_nil (Nat.zero_le _)
  have h3 := packL_len _ (unp l.length l []).1 (Nat.le_refl _)
  unfold ref46_Plain.f plainL
  rw [refUnpack_at l hb hl hk, Option.bind_some]
  by_cases c : (unp l.length l []).2 = 0
  · rw [if_pos c, if_pos c, refPack_at _ h2 hk, Option.bind_some, same_dec _ _ (by omega) (by omega), Option.bind_some]
  · rw [if_neg c, if_neg c]
end Go.Proofs.Ytdgdpeibagcnpaa.Er
