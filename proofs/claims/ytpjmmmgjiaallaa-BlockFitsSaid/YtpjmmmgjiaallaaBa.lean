/-
  The chapter's example; a list of what is done, in memory.
-/
import Derived.Test.YtpjmmmgjiaallaaBs
namespace Go.Proofs.Ytpjmmmgjiaallaa.M
open Go.RowKit Go.Proofs.Ytpjmmmgjiaallaa.Bl Go.Proofs.YtpjmmmgjiaallaaW.PrintWords Go.Proofs.YtpjmmmgjiaallaaW.PrintLast Go.Proofs.YtpjmmmgjiaallaaW.PrintMore
set_option linter.unusedVariables false
set_option linter.unusedSimpArgs false
structure S31 where
  f0 : Int
  f1 : Int
  f2 : Int
  f3 : Int
/-- The list of what is done lies in memory. -/
def Dos (W : World) (A : Option Addr) (l : List S31) : Prop := ∀ i : Nat, i < l.length → ∃ (ad : Addr) (x : S31), A = some ad ∧ W.cell? (ad.add (i * 4)) = some (.int .i64 x.f0) ∧ W.cell? (ad.add (i * 4 + 1)) = some (.int .i64 x.f1) ∧ W.cell? (ad.add (i * 4 + 2)) = some (.int .i64 x.f2) ∧ W.cell? (ad.add (i * 4 + 3)) = some (.int .i64 x.f3)
theorem Dos.at_ {w W : World} {A : Option Addr} {l : List S31} (h : Dos w A l) (hB : Below w.heap.size w W) (i : Int) (h0 : 0 ≤ i) (h1 : i < (l.length : Int)) : ∃ (ad : Addr) (x : S31), A = some ad ∧ W.cell? (ad.add (i.toNat * 4)) = some (.int .i64 x.f0) ∧ W.cell? ⟨(ad.add (i.toNat * 4)).block, (ad.add (i.toNat * 4)).off + 1, none⟩ = some (.int .i64 x.f1) ∧ W.cell? ⟨(ad.add (i.toNat * 4)).block, (ad.add (i.toNat * 4)).off + 2, none⟩ = some (.int .i64 x.f2) ∧ W.cell? ⟨(ad.add (i.toNat * 4)).block, (ad.add (i.toNat * 4)).off + 3, none⟩ = some (.int .i64 x.f3) := by
  obtain ⟨ad, x, e, c0, c1, c2, c3⟩ := h i.toNat (by omega)
  have mv : ∀ {a : Addr} {v : Value}, w.cell? a = some v → W.cell? a = some v := fun hc => (hB.cell (World.block_lt_of_cell? w _ hc)).trans hc
  exact ⟨ad, x, e, mv c0, by rw [← add_field _ _ 1 (by omega)]; exact mv c1, by rw [← add_field _ _ 2 (by omega)]; exact mv c2, by rw [← add_field _ _ 3 (by omega)]; exact mv c3⟩
theorem take34 : takeR (newL 3 4) = (0, true, ⟨[⟨1, 1⟩, ⟨0, 0⟩, ⟨0, 0⟩], 4, 1, 0⟩) := by kernel_rfl
set_option maxHeartbeats 8000000 in
theorem awake_calls (w : World) : Calls Try.prog 5 #[] w fun e w' => e = .returned (.bool true) ∧ Below w.heap.size w w' := by
  go_enter Try.func5, Try.ntmps5
  go_wp2_with (first
    | (go_at_call 6; (with_reducible refine (New_calls 3 4 _ (by decide)).mono ?_); rintro e w1 ⟨g, rfl, hI, hB⟩; have HI := Aside0.mk hI; have HB := Aside0.mk hB; clear hI hB)
    | (go_at_call 15; (with_reducible refine (Take_calls HI.out (by decide)).mono ?_); rintro e w2 ⟨he, hI, hB, hK⟩; rw [take34] at he hI; subst he; have HI2 := Aside0.mk hI; have HB2 := Aside0.mk hB; clear hI hB hK HI)
    | (go_at_call 12; (with_reducible refine (State_in HI2.out 0 (by decide) (by decide)).mono ?_); rintro e w3 ⟨he, hd⟩; subst he; have HD := Aside0.mk hd; clear hd))
  go_ret
  exact ⟨by first | rfl | (simp; done) | (simp [eS, eE, en]; done), below_trans HB.out (below_trans HB2.out (below_lower HD.out.below (Nat.le_trans HB.out.size HB2.out.size)))⟩
end Go.Proofs.Ytpjmmmgjiaallaa.M
