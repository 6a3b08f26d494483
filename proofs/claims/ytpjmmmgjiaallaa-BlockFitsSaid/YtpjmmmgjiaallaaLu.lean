/-
  block's Advance, Close, Fail, Set, Free: what they answer and leave; what a ledger that is none answers.
-/
import Derived.Test.YtpjmmmgjiaallaaLv
namespace Go.Proofs.Ytpjmmmgjiaallaa.M
open Go.RowKit Go.Proofs.YtpjmmmgjiaallaaW.PrintWords Go.Proofs.YtpjmmmgjiaallaaW.PrintLast Go.Proofs.YtpjmmmgjiaallaaW.PrintMore
set_option linter.unusedVariables false
set_option linter.unusedSimpArgs false
set_option maxHeartbeats 8000000 in
theorem with_none {lo : Nat} {w : World} {g ge : Nat} {s : Lg} (h : LAt lo w g ge s) (ho : s.opn = 0) (fv : Value) :
    Calls Try.prog 28 #[.pointer (some ⟨g, 0, none⟩), fv] w fun e w' => e = .returned (.int .i64 33) ∧ Drawn0 w w' := by
  have hI : IsL lo w g s := ⟨ge, h⟩
  have HI := Aside0.mk hI
  have c2_ := h.c2
  have d0 : (s.opn == 0) = true := beq_iff_eq.mpr ho
  clear hI h ho
  go_enter Try.func28, Try.ntmps28
  go_wp2_with (first | (go_at_call 26; (with_reducible refine (is_calls HI.out).mono ?_); rintro e w' ⟨rfl, ⟨nd, rfl⟩⟩))
  go_ret
  exact ⟨by first | rfl | (simp; done), by repeat (first | exact Drawn0.refl _ | apply Drawn0.step | exact ⟨_, rfl⟩)⟩
set_option maxHeartbeats 8000000 in
theorem with_nil (fv : Value) (w : World) : Calls Try.prog 28 #[.pointer none, fv] w fun e w' => e = .returned (.int .i64 1) ∧ Drawn0 w w' := by
  go_enter Try.func28, Try.ntmps28
  go_wp2_with (first | (go_at_call 26; (with_reducible refine (is_nil _).mono ?_); rintro e w' ⟨rfl, ⟨nd, rfl⟩⟩))
  go_ret
  exact ⟨by first | rfl | (simp; done), by repeat (first | exact Drawn0.refl _ | apply Drawn0.step | exact ⟨_, rfl⟩)⟩
def advR (s : Lg) (n : Int) : Int × Lg := if s.opn = 0 then (33, s) else advIn s n
def endR (s : Lg) (n : Int) : Int × Lg := if s.opn = 0 then (33, s) else (0, { s with E := setS s.E (s.opn - 1) n, opn := 0, cur := 0 })
set_option maxHeartbeats 8000000 in
set_option maxRecDepth 100000 in
theorem Advance_calls {lo : Nat} {w : World} {g : Nat} {s : Lg} (n : Int) (hI : IsL lo w g s) (ho : 0 ≤ s.opn ∧ s.opn ≤ (s.E.length : Int)) (hlen : s.E.length < 1000000) :
    Calls Try.prog 17 #[.pointer (some ⟨g, 0, none⟩), .int .i64 n] w fun e w' => e = .returned (.int .i64 (advR s n).1) ∧ IsL lo w' g (advR s n).2 ∧ Below lo w w' ∧ KeepL g w w' := by
  obtain ⟨ge, h⟩ := hI
  have HA := Aside0.mk h
  have hlo : lo ≤ w.heap.size := by have := h.lo; have := h.lt; have := blk_lt h.blk; omega
  have HLO := Aside0.mk hlo
  have HL := Aside0.mk hlen
  have HO := Aside0.mk ho
  clear h hlo hlen ho
  have HB := Aside0.mk (Below.refl w.heap.size w)
  by_cases k : s.opn = 0
  · have hr : advR s n = (33, s) := if_pos k
    rw [hr]
    have HK := Aside0.mk k
    clear hr k
    go_enter Try.func17, Try.ntmps17
    go_wp2_with (first | ((with_reducible refine gate_dst (N := 2) rfl ?_); refine box_event ?hg (N := 2) ?hd (cs := #[.pointer (some ⟨g, 0, none⟩)]) (t := 24) ?hr ?_; (case hd => rfl); (case hg => rfl); (case hr => first | (go_simp; done) | (go_simp; rfl)); intro b2 hg wa hbox hb; have HAa := Aside0.mk (HA.out.below hb); have HBa := Aside0.mk (below_step HB.out hb); have H2a := Aside0.mk hbox; have HGa := Aside0.mk (show g < b2 by rw [hg]; exact blk_lt HA.out.blk); clear hbox hb hg HA HB) | ((with_reducible refine gate_dst (N := 3) rfl ?_); refine box_event ?hg (N := 3) ?hd (cs := #[.int .i64 n]) (t := 3) ?hr ?_; (case hd => rfl); (case hg => rfl); (case hr => first | (go_simp; done) | (go_simp; rfl)); intro b3 hg wb hbox hb; have HAb := Aside0.mk (HAa.out.below hb); have HBb := Aside0.mk (below_step HBa.out hb); have H2b := Aside0.mk (blk_below H2a.out hb); have H3b := Aside0.mk hbox; have HGb := Aside0.mk (show g < b2 ∧ g < b3 from ⟨HGa.out, by rw [hg]; exact blk_lt HAa.out.blk⟩); have kk2 : wb.cell? ⟨b2, 0, none⟩ = some (.pointer (some ⟨g, 0, none⟩)) := (blk_cell H2b.out 0).trans rfl; clear hbox hb hg HAa HBa H2a HGa) | (go_at_call 28; (with_reducible refine (with_none (HAb.out) HK.out _).mono ?_); rintro e w' ⟨rfl, ⟨nd, rfl⟩⟩))
    go_ret
    exact ⟨by first | rfl | (simp; done), ⟨ge, HAb.out.below (pw_below_drewN (Below.refl _ _) nd)⟩, pw_below_drewN (below_lower HBb.out HLO.out) nd, KeepL.of_below (pw_below_drewN HBb.out nd)⟩
  · have hr : advR s n = advIn s n := if_neg k
    rw [hr]
    have HK := Aside0.mk (show 1 ≤ s.opn ∧ s.opn ≤ (s.E.length : Int) by have := HO.out; omega)
    clear hr k
    go_enter Try.func17, Try.ntmps17
    go_wp2_with (first | ((with_reducible refine gate_dst (N := 2) rfl ?_); refine box_event ?hg (N := 2) ?hd (cs := #[.pointer (some ⟨g, 0, none⟩)]) (t := 24) ?hr ?_; (case hd => rfl); (case hg => rfl); (case hr => first | (go_simp; done) | (go_simp; rfl)); intro b2 hg wa hbox hb; have HAa := Aside0.mk (HA.out.below hb); have HBa := Aside0.mk (below_step HB.out hb); have H2a := Aside0.mk hbox; have HGa := Aside0.mk (show g < b2 by rw [hg]; exact blk_lt HA.out.blk); clear hbox hb hg HA HB) | ((with_reducible refine gate_dst (N := 3) rfl ?_); refine box_event ?hg (N := 3) ?hd (cs := #[.int .i64 n]) (t := 3) ?hr ?_; (case hd => rfl); (case hg => rfl); (case hr => first | (go_simp; done) | (go_simp; rfl)); intro b3 hg wb hbox hb; have HAb := Aside0.mk (HAa.out.below hb); have HBb := Aside0.mk (below_step HBa.out hb); have H2b := Aside0.mk (blk_below H2a.out hb); have H3b := Aside0.mk hbox; have HGb := Aside0.mk (show g < b2 ∧ g < b3 from ⟨HGa.out, by rw [hg]; exact blk_lt HAa.out.blk⟩); have kk2 : wb.cell? ⟨b2, 0, none⟩ = some (.pointer (some ⟨g, 0, none⟩)) := (blk_cell H2b.out 0).trans rfl; clear hbox hb hg HAa HBa H2a HGa) | (go_at_call 28; (with_reducible refine (with_adv n HAb.out H2b.out H3b.out HGb.out HK.out HL.out).mono ?_); rintro e w5 ⟨rfl, hA5, hB5, hK5⟩))
    go_ret
    exact ⟨by first | rfl | (simp; done), ⟨ge, hA5⟩, below_trans (below_lower HBb.out HLO.out) hB5, (KeepL.of_below HBb.out).trans hK5⟩

set_option maxHeartbeats 8000000 in
set_option maxRecDepth 100000 in
theorem End_calls {lo : Nat} {w : World} {g : Nat} {s : Lg} (n : Int) (hI : IsL lo w g s) (ho : 0 ≤ s.opn ∧ s.opn ≤ (s.E.length : Int)) (hlen : s.E.length < 1000000) :
    Calls Try.prog 30 #[.pointer (some ⟨g, 0, none⟩), .int .i64 n] w fun e w' => e = .returned (.int .i64 (endR s n).1) ∧ IsL lo w' g (endR s n).2 ∧ Below lo w w' ∧ KeepL g w w' := by
  obtain ⟨ge, h⟩ := hI
  have HA := Aside0.mk h
  have hlo : lo ≤ w.heap.size := by have := h.lo; have := h.lt; have := blk_lt h.blk; omega
  have HLO := Aside0.mk hlo
  have HL := Aside0.mk hlen
  have HO := Aside0.mk ho
  clear h hlo hlen ho
  have HB := Aside0.mk (Below.refl w.heap.size w)
  by_cases k : s.opn = 0
  · have hr : endR s n = (33, s) := if_pos k
    rw [hr]
    have HK := Aside0.mk k
    clear hr k
    go_enter Try.func30, Try.ntmps30
    go_wp2_with (first | ((with_reducible refine gate_dst (N := 2) rfl ?_); refine box_event ?hg (N := 2) ?hd (cs := #[.pointer (some ⟨g, 0, none⟩)]) (t := 24) ?hr ?_; (case hd => rfl); (case hg => rfl); (case hr => first | (go_simp; done) | (go_simp; rfl)); intro b2 hg wa hbox hb; have HAa := Aside0.mk (HA.out.below hb); have HBa := Aside0.mk (below_step HB.out hb); have H2a := Aside0.mk hbox; have HGa := Aside0.mk (show g < b2 by rw [hg]; exact blk_lt HA.out.blk); clear hbox hb hg HA HB) | ((with_reducible refine gate_dst (N := 3) rfl ?_); refine box_event ?hg (N := 3) ?hd (cs := #[.int .i64 n]) (t := 3) ?hr ?_; (case hd => rfl); (case hg => rfl); (case hr => first | (go_simp; done) | (go_simp; rfl)); intro b3 hg wb hbox hb; have HAb := Aside0.mk (HAa.out.below hb); have HBb := Aside0.mk (below_step HBa.out hb); have H2b := Aside0.mk (blk_below H2a.out hb); have H3b := Aside0.mk hbox; have HGb := Aside0.mk (show g < b2 ∧ g < b3 from ⟨HGa.out, by rw [hg]; exact blk_lt HAa.out.blk⟩); have kk2 : wb.cell? ⟨b2, 0, none⟩ = some (.pointer (some ⟨g, 0, none⟩)) := (blk_cell H2b.out 0).trans rfl; clear hbox hb hg HAa HBa H2a HGa) | (go_at_call 28; (with_reducible refine (with_none (HAb.out) HK.out _).mono ?_); rintro e w' ⟨rfl, ⟨nd, rfl⟩⟩))
    go_ret
    exact ⟨by first | rfl | (simp; done), ⟨ge, HAb.out.below (pw_below_drewN (Below.refl _ _) nd)⟩, pw_below_drewN (below_lower HBb.out HLO.out) nd, KeepL.of_below (pw_below_drewN HBb.out nd)⟩
  · have hr : endR s n = (0, { s with E := setS s.E (s.opn - 1) n, opn := 0, cur := 0 }) := if_neg k
    rw [hr]
    have HK := Aside0.mk (show 1 ≤ s.opn ∧ s.opn ≤ (s.E.length : Int) by have := HO.out; omega)
    clear hr k
    go_enter Try.func30, Try.ntmps30
    go_wp2_with (first | ((with_reducible refine gate_dst (N := 2) rfl ?_); refine box_event ?hg (N := 2) ?hd (cs := #[.pointer (some ⟨g, 0, none⟩)]) (t := 24) ?hr ?_; (case hd => rfl); (case hg => rfl); (case hr => first | (go_simp; done) | (go_simp; rfl)); intro b2 hg wa hbox hb; have HAa := Aside0.mk (HA.out.below hb); have HBa := Aside0.mk (below_step HB.out hb); have H2a := Aside0.mk hbox; have HGa := Aside0.mk (show g < b2 by rw [hg]; exact blk_lt HA.out.blk); clear hbox hb hg HA HB) | ((with_reducible refine gate_dst (N := 3) rfl ?_); refine box_event ?hg (N := 3) ?hd (cs := #[.int .i64 n]) (t := 3) ?hr ?_; (case hd => rfl); (case hg => rfl); (case hr => first | (go_simp; done) | (go_simp; rfl)); intro b3 hg wb hbox hb; have HAb := Aside0.mk (HAa.out.below hb); have HBb := Aside0.mk (below_step HBa.out hb); have H2b := Aside0.mk (blk_below H2a.out hb); have H3b := Aside0.mk hbox; have HGb := Aside0.mk (show g < b2 ∧ g < b3 from ⟨HGa.out, by rw [hg]; exact blk_lt HAa.out.blk⟩); have kk2 : wb.cell? ⟨b2, 0, none⟩ = some (.pointer (some ⟨g, 0, none⟩)) := (blk_cell H2b.out 0).trans rfl; clear hbox hb hg HAa HBa H2a HGa) | (go_at_call 28; (with_reducible refine (with_fin n HAb.out H2b.out H3b.out HGb.out HK.out HL.out).mono ?_); rintro e w5 ⟨rfl, hA5, hB5, hK5⟩))
    go_ret
    exact ⟨by first | rfl | (simp; done), ⟨ge, hA5⟩, below_trans (below_lower HBb.out HLO.out) hB5, (KeepL.of_below HBb.out).trans hK5⟩

theorem Close_calls {lo : Nat} {w : World} {g : Nat} {s : Lg} (hI : IsL lo w g s) (ho : 0 ≤ s.opn ∧ s.opn ≤ (s.E.length : Int)) (hlen : s.E.length < 1000000) :
    Calls Try.prog 18 #[.pointer (some ⟨g, 0, none⟩)] w fun e w' => e = .returned (.int .i64 (endR s 2).1) ∧ IsL lo w' g (endR s 2).2 ∧ Below lo w w' ∧ KeepL g w w' := by
  have HC := Aside0.mk (End_calls 2 hI ho hlen)
  clear hI ho hlen
  go_enter Try.func18, Try.ntmps18
  go_wp2_with (first | (go_at_call 30; (with_reducible refine HC.out.mono ?_); rintro e w5 ⟨rfl, h1, h2, h3⟩))
  go_ret
  exact ⟨by first | rfl | (simp; done), h1, h2, h3⟩
theorem Fail_calls {lo : Nat} {w : World} {g : Nat} {s : Lg} (hI : IsL lo w g s) (ho : 0 ≤ s.opn ∧ s.opn ≤ (s.E.length : Int)) (hlen : s.E.length < 1000000) :
    Calls Try.prog 19 #[.pointer (some ⟨g, 0, none⟩)] w fun e w' => e = .returned (.int .i64 (endR s 3).1) ∧ IsL lo w' g (endR s 3).2 ∧ Below lo w w' ∧ KeepL g w w' := by
  have HC := Aside0.mk (End_calls 3 hI ho hlen)
  clear hI ho hlen
  go_enter Try.func19, Try.ntmps19
  go_wp2_with (first | (go_at_call 30; (with_reducible refine HC.out.mono ?_); rintro e w5 ⟨rfl, h1, h2, h3⟩))
  go_ret
  exact ⟨by first | rfl | (simp; done), h1, h2, h3⟩
end Go.Proofs.Ytpjmmmgjiaallaa.M
