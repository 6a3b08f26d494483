/- For every list of at most 400 bytes the layer's Unpack answers what the document's Unpack answers, bytes and error, and the layer's Plain what the document's Plain answers: on these the statement RleUnpacks answers true, and on longer lists as well. -/
import Derived.Test.YtdgdpeibagcnpaaMx5
import Derived.Test.YtdgdpeibagcnpaaUp
namespace Go.Proofs.Ytdgdpeibagcnpaa.Pure
open Go.RowKit Go.Proofs.Ytdgdpeibagcnpaa.M Go.Proofs.YtdgdpeibagcnpaaW.PrintWords Go.Proofs.YtdgdpeibagcnpaaW.PrintLast
open Go.Proofs.Ytdgdpeibagcnpaa.Er
theorem RleUnpacks : RleUnpacks.Pure := by
  intro l hm hl0 hx
  have hb : Byt l := fun x h => byte_wf (hx x h)
  obtain ⟨k, hk⟩ : ∃ k : Nat, 30000000 ≤ k := ⟨30000000, Nat.le_refl _⟩
  refine ⟨k, ?_⟩
  unfold RleUnpacks.f
  rw [awake_at (by omega), Option.bind_some, if_pos rfl]
  by_cases c : (l.length : Int) > 400
  · rw [if_pos c]
  · obtain ⟨h1, h2⟩ := unp_ok l.length l [] hb Byt_nil (Nat.zero_le _)
    rw [if_neg c, Unpack_at l hb (by omega) hk, Option.bind_some, refUnpack_at l hb (by omega) hk, Option.bind_some, if_pos rfl, same_eq _ (by omega) (by omega), Option.bind_some, if_pos rfl, Plain_at l hb (by omega) hk, Option.bind_some, refPlain_at l hb (by omega) hk, Option.bind_some]
    congr 1
    exact beq_self_eq_true _
end Go.Proofs.Ytdgdpeibagcnpaa.Pure
