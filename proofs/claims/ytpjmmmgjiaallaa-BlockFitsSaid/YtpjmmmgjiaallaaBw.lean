/-
  BlockPlays: the law's walk.
-/
import Derived.Test.YtpjmmmgjiaallaaBa
namespace Go.Proofs.Ytpjmmmgjiaallaa.M
open Go.RowKit Go.Proofs.Ytpjmmmgjiaallaa.Bl Go.Proofs.YtpjmmmgjiaallaaW.PrintWords Go.Proofs.YtpjmmmgjiaallaaW.PrintLast Go.Proofs.YtpjmmmgjiaallaaW.PrintMore
set_option linter.unusedVariables false
set_option linter.unusedSimpArgs false
theorem IsL.lower {lo lo' : Nat} {W : World} {g : Nat} {s : Lg} (H : IsL lo W g s) (hl : lo' ≤ lo) : IsL lo' W g s := by
  obtain ⟨ge, h⟩ := H
  exact ⟨ge, h.blk, h.row, Nat.le_trans hl h.lo, h.lt, h.pos⟩
theorem IsQ.lower {lo lo' : Nat} {W : World} {h : Nat} {r : Rg} (H : IsQ lo W h r) (hl : lo' ≤ lo) : IsQ lo' W h r := by
  obtain ⟨a1, k1, a2, k2, H⟩ := H
  exact ⟨a1, k1, a2, k2, H.blk, Kd.R_lower H.r1 hl, Kd.R_lower H.r2 hl, H.ne, Nat.le_trans hl H.lo⟩
theorem IsQ.far {lo : Nat} {W : World} {h : Nat} {r : Rg} (H : IsQ lo W h r) {a : Nat} {cs : Array Value} {t : TypeId} {fr : Nat × Nat} (hb : W.heap[a]? = some (.cells cs t fr)) (ht : t ≠ 37) (ht' : t ≠ 3) (j : Nat) (u : Value) : IsQ lo (W.setCell ⟨a, j, none⟩ u) h r := by
  obtain ⟨a1, k1, a2, k2, H⟩ := H
  exact ⟨a1, k1, a2, k2, H.far hb ht ht' j u⟩
theorem IsL.far {lo : Nat} {W : World} {g : Nat} {s : Lg} (H : IsL lo W g s) {a : Nat} (ha : g < a) (j : Nat) (u : Value) : IsL lo (W.setCell ⟨a, j, none⟩ u) g s :=
  H.kept fun i hi _ => Below.heap_setCell W ⟨a, j, none⟩ u i (show i ≠ a by omega)
theorem put39 {lo : Nat} {w wb ws : World} {g h gc j : Nat} {s : Lg} {r : Rg} {cs : Array Value} {u : Value} (hL : IsL lo wb g s) (hQ : IsQ (g + 1) wb h r) (hB : Below w.heap.size w wb) (h1 : g < gc) (h2 : w.heap.size ≤ gc) (hX : wb.heap[gc]? = some (.cells cs 39 (0, 0))) (hw : ws = wb.setCell ⟨gc, j, none⟩ u) :
    IsL lo ws g s ∧ IsQ (g + 1) ws h r ∧ Below w.heap.size w ws := by
  subst hw
  exact ⟨hL.far h1 _ _, hQ.far hX (by decide) (by decide) _ _, below_set hB h2⟩
theorem box4 {lo : Nat} {w wb ws : World} {g h gb : Nat} {s : Lg} {r : Rg} {u0 u1 u2 u3 : Value} (hL : IsL lo wb g s) (hQ : IsQ (g + 1) wb h r) (hB : Below w.heap.size w wb) (h1 : g < gb) (h2 : w.heap.size ≤ gb) (hX : wb.heap[gb]? = some (.cells #[.int .i64 0, .int .i64 0, .int .i64 0, .int .i64 0] 31 (0, 0))) (hw : ws = (((wb.setCell ⟨gb, 0, none⟩ u0).setCell ⟨gb, 1, none⟩ u1).setCell ⟨gb, 2, none⟩ u2).setCell ⟨gb, 3, none⟩ u3) :
    IsL lo ws g s ∧ IsQ (g + 1) ws h r ∧ Below w.heap.size w ws ∧ ws.heap[gb]? = some (.cells #[u0, u1, u2, u3] 31 (0, 0)) := by
  subst hw
  have x1 := blk_put hX 0 u0 rfl
  have x2 := blk_put x1 1 u1 rfl
  have x3 := blk_put x2 2 u2 rfl
  exact ⟨(((hL.far h1 _ _).far h1 _ _).far h1 _ _).far h1 _ _, (((hQ.far hX (by decide) (by decide) _ _).far x1 (by decide) (by decide) _ _).far x2 (by decide) (by decide) _ _).far x3 (by decide) (by decide) _ _, below_set (below_set (below_set (below_set hB h2) h2) h2) h2, blk_put x3 3 u3 rfl⟩
theorem Open_open {lo : Nat} {W : World} {g : Nat} {s : Lg} {B P t : Int} {r : Rg} (hW : IsL lo W g s) (h : Rel B P t s r) (ho : 0 ≤ r.opn) (hB : B ≤ 1000) : Calls Try.prog 9 #[.pointer (some ⟨g, 0, none⟩)] W fun e w' => e = .returned (.tuple #[.int .i64 r.opn, .int .i64 r.cur, .bool true]) ∧ Drawn0 W w' := by
  have := Open_calls hW
  have hop := h.op
  have hopr := h.opr
  have hne : ¬ s.opn = 0 := by omega
  rw [if_neg hne, if_neg hne, decide_eq_false hne, show s.opn - 1 = r.opn by omega, w64s (by omega) (by omega), h.cu] at this
  exact this
theorem Open_none {lo : Nat} {W : World} {g : Nat} {s : Lg} {B P t : Int} {r : Rg} (hW : IsL lo W g s) (h : Rel B P t s r) (ho : r.opn < 0) : Calls Try.prog 9 #[.pointer (some ⟨g, 0, none⟩)] W fun e w' => e = .returned (.tuple #[.int .i64 0, .int .i64 0, .bool false]) ∧ Drawn0 W w' := by
  have := Open_calls hW
  have hop := h.op
  have hopr := h.opr
  have he : s.opn = 0 := by omega
  rw [if_pos he, if_pos he, decide_eq_true he] at this
  exact this
set_option maxHeartbeats 16000000 in
set_option maxRecDepth 100000 in
theorem plays_good (a0 a1 : Int) (A : Option Addr) (n1 c1 : Nat) (l : List S31) (w : World) (hn : n1 = l.length) (hd : Dos w A l) (hok : newOk a0 a1) :
    Calls Try.prog 3 #[.int .i64 a0, .int .i64 a1, .slice A n1 c1] w fun e w' => e = .returned (.bool true) ∧ Below w.heap.size w w' := by
  subst hn
  have HOK := Aside0.mk hok
  have HDS := Aside0.mk hd
  obtain ⟨⟨k0, k1⟩, ⟨k2, k3⟩⟩ := hok
  have HD := Aside0.mk (show Dim a0 a1 from ⟨⟨k0, k1⟩, ⟨k2, k3⟩⟩)
  have HD1 := Aside0.mk (show 1 ≤ a0 ∧ a0 < 1000000 by omega)
  have d0 : decide (a0 < 1) = false := decide_eq_false (by omega)
  have d1 : decide (256 < a0) = false := decide_eq_false (by omega)
  have d2 : decide (a1 < 1) = false := decide_eq_false (by omega)
  have d3 : decide (64 < a1) = false := decide_eq_false (by omega)
  clear k0 k1 k2 k3 hd
  by_cases e0 : 30 < a0
  · have f0 : decide (30 < a0) = true := decide_eq_true e0
    clear e0
    go_enter Try.func3, Try.ntmps3
    go_wp2_with (first | (go_at_call 5; (with_reducible refine (awake_calls _).mono ?_); rintro e wa ⟨rfl, hb⟩; have HBA := Aside0.mk hb; clear hb) | (go_at_call 6; (with_reducible refine (New_calls a0 a1 _ HOK.out).mono ?_); rintro e wn ⟨g, rfl, hI, hb⟩; have HI0 := Aside0.mk (hI.lower HBA.out.size); have HBN := Aside0.mk (below_step HBA.out hb); clear hI hb))
    go_ret
    exact ⟨by first | rfl | (simp; done), HBN.out⟩
  have f0 : decide (30 < a0) = false := decide_eq_false e0
  by_cases e1 : (80 : Int) < (l.length : Int)
  · have f1 : decide ((80 : Int) < (l.length : Int)) = true := decide_eq_true e1
    have f1' := eq_true (show 80 < l.length by omega)
    clear e0 e1
    go_enter Try.func3, Try.ntmps3
    go_wp2_with (first | (go_at_call 5; (with_reducible refine (awake_calls _).mono ?_); rintro e wa ⟨rfl, hb⟩; have HBA := Aside0.mk hb; clear hb) | (go_at_call 6; (with_reducible refine (New_calls a0 a1 _ HOK.out).mono ?_); rintro e wn ⟨g, rfl, hI, hb⟩; have HI0 := Aside0.mk (hI.lower HBA.out.size); have HBN := Aside0.mk (below_step HBA.out hb); clear hI hb))
    go_ret
    exact ⟨by first | rfl | (simp; done) | (simp [f1']; done), HBN.out⟩
  have f1 : decide ((80 : Int) < (l.length : Int)) = false := decide_eq_false e1
  have HLEN := Aside0.mk (show (l.length : Int) ≤ 80 by omega)
  clear e0 e1
  go_enter Try.func3, Try.ntmps3
  go_wp2_with (first | (go_at_call 5; (with_reducible refine (awake_calls _).mono ?_); rintro e wa ⟨rfl, hb⟩; have HBA := Aside0.mk hb; clear hb) | (go_at_call 6; (with_reducible refine (New_calls a0 a1 _ HOK.out).mono ?_); rintro e wn ⟨g, rfl, hI, hb⟩; have HI0 := Aside0.mk (hI.lower HBA.out.size); have HBN := Aside0.mk (below_step HBA.out hb); clear hI hb) | (go_at_call 7; (with_reducible refine (qNew_calls a0 a1 HD1.out.1 HD1.out.2).mono ?_); rintro e wq ⟨h, rfl, hq, hb⟩; have HQ0 := Aside0.mk (hq.lower HI0.out.lt); have HL0 := Aside0.mk (HI0.out.below hb); have HBQ := Aside0.mk (below_step HBN.out hb); clear hq hb HI0 HBN))
  clear f1
  go_loopg [64] (l.length + 1) (fun kq v64 w' => ∃ (i : Int) (d : Nat) (s : Lg) (r : Rg), v64 = .int .i64 i ∧ Aside0 (0 ≤ i ∧ i + d = l.length) ∧ Aside0 (kq = d + 1) ∧ Aside0 (IsL w.heap.size w' g s) ∧ Aside0 (IsQ (g + 1) w' h r) ∧ Aside0 (Rel a0 a1 i s r) ∧ Aside0 (Below w.heap.size w w'))
  case atStart => exact ⟨0, l.length, _, _, rfl, ⟨Int.le_refl _, Int.zero_add _⟩, ⟨rfl⟩, HL0, HQ0, ⟨new_rel HD.out⟩, HBQ⟩
  case round =>
    obtain ⟨i, d, s, r, rfl, Hn, HK, HL, HQ, HR, HB⟩ := hrel
    cases d with
    | zero =>
      have hb : decide (i < (l.length : Int)) = false := decide_eq_false (by have := Hn.out; omega)
      go_wp2
      go_ret
      exact ⟨by first | rfl | (simp; done), HB.out⟩
    | succ d =>
      have hb : decide (i < (l.length : Int)) = true := decide_eq_true (by have := Hn.out; omega)
      have p1 := eq_true Hn.out.1
      have p2 := eq_true (show i < (l.length : Int) by have := Hn.out; omega)
      obtain ⟨ad, x, e1, x0, x1, x2, x3⟩ := HDS.out.at_ HB.out i Hn.out.1 (by have := Hn.out; omega)
      cases e1
      have hw : wrap64 (i + 1) = i + 1 := w64s (by have := Hn.out; omega) (by have := Hn.out; have := HLEN.out; omega)
      have HW := Aside0.mk hw
      have ht : 0 ≤ i ∧ i ≤ 1000 := by have := Hn.out; have := HLEN.out; omega
      have hdo : ∀ W, IsL w.heap.size W g s → IsQ (g + 1) W h r → Calls Try.prog 8 #[.pointer (some ⟨g, 0, none⟩), .pointer (some ⟨h, 0, none⟩), .agg #[.int .i64 x.f0, .int .i64 x.f1, .int .i64 x.f2, .int .i64 x.f3]] W fun e w' => e = .returned (.bool true) ∧ IsL w.heap.size w' g (doStep s r x.f0 x.f1 x.f2 x.f3).1 ∧ IsQ (g + 1) w' h (doStep s r x.f0 x.f1 x.f2 x.f3).2 ∧ Below w.heap.size W w' := fun W h1 h2 => do_calls x.f0 x.f1 x.f2 x.f3 h1 h2 (by have := HR.out.op; have := HR.out.opr; have := HR.out.lenE; have := HD.out.b; omega) (by have := HR.out.opr; have := HR.out.lenS; have := HD.out.b; omega) (step_same HD.out HR.out ht x.f0 x.f1 x.f2 x.f3)
      have hrl := step_rel HD.out HR.out ht x.f0 x.f1 x.f2 x.f3
      obtain ⟨⟨s2, r2⟩, hs2⟩ : ∃ z, z = doStep s r x.f0 x.f1 x.f2 x.f3 := ⟨_, rfl⟩
      rw [← hs2] at hdo hrl
      dsimp only at hdo hrl
      have HDO := Aside0.mk hdo
      have HRL := Aside0.mk hrl
      have hlen2 : s2.E.length < 1000000 := by have := hrl.lenE; have := HD.out.b; omega
      obtain ⟨q, hq⟩ : ∃ q, q = qSpread r2 := ⟨_, rfl⟩
      have hsp : ∀ W, IsL w.heap.size W g s2 → Calls Try.prog 10 #[.pointer (some ⟨g, 0, none⟩)] W fun e w' => e = .returned (.int .i64 q) ∧ Below W.heap.size W w' := fun W h1 => by
        have := Spread_calls h1 hlen2
        rw [spread_same HD.out hrl (by have := Hn.out; have := HLEN.out; omega), ← hq] at this
        exact this
      have hqp : ∀ W, IsQ (g + 1) W h r2 → Calls Try.prog 11 #[.pointer (some ⟨h, 0, none⟩)] W fun e w' => e = .returned (.int .i64 q) ∧ Drawn0 W w' := fun W h1 => by
        have := qSpread_calls h1 (by have := hrl.lenS; have := HD.out.b; omega)
        rw [← hq] at this
        exact this
      have hcnt : ∀ (z m : Int), m = cnt s2.E z s2.E.length 0 → ∀ W, IsL w.heap.size W g s2 → Calls Try.prog 14 #[.pointer (some ⟨g, 0, none⟩), .int .i64 z] W fun e w' => e = .returned (.int .i64 m) ∧ Below W.heap.size W w' := fun z m hm W h1 => by
        have := Count_calls z h1 hlen2
        rw [← hm] at this
        exact this
      have HSP := Aside0.mk hsp
      have HQP := Aside0.mk hqp
      have HCNT := Aside0.mk hcnt
      clear hw ht hdo hrl hs2 hlen2 hq hsp hqp hcnt HR
      by_cases hop : 0 ≤ r2.opn
      · have b1_ : decide (0 ≤ r2.opn) = true := decide_eq_true hop
        have HOP := Aside0.mk (show ∀ W, IsL w.heap.size W g s2 → Calls Try.prog 9 #[.pointer (some ⟨g, 0, none⟩)] W fun e w' => e = .returned (.tuple #[.int .i64 r2.opn, .int .i64 r2.cur, .bool true]) ∧ Drawn0 W w' from fun W hW => Open_open hW HRL.out hop (by have := HD.out.b; omega))
        clear hop
        go_wp2_with (first | ((with_reducible refine gate_dst (N := 11) rfl ?_); refine box_event ?hg (N := 11) ?hd (cs := #[.int .i64 0, .int .i64 0, .int .i64 0, .int .i64 0]) (t := 31) ?hr ?_; (case hd => rfl); (case hg => rfl); (case hr => first | (go_simp; done) | (go_simp; rfl)); intro gb hg wb hbox hb; have HL1 := Aside0.mk (HL.out.below hb); have HQ1 := Aside0.mk (HQ.out.below hb); have HB1 := Aside0.mk (below_step HB.out hb); have HX1 := Aside0.mk hbox; have HG1 := Aside0.mk (show g < gb ∧ w.heap.size ≤ gb from ⟨by rw [hg]; exact HL.out.lt, by rw [hg]; exact HB.out.size⟩); have hcx0 : wb.cell? ⟨gb, 0, none⟩ = some (.int .i64 0) := (blk_cell hbox 0).trans rfl; have hfx0 := blk_frozen hbox 0; have hcx1 : wb.cell? ⟨gb, 1, none⟩ = some (.int .i64 0) := (blk_cell hbox 1).trans rfl; have hfx1 := blk_frozen hbox 1; have hcx2 : wb.cell? ⟨gb, 2, none⟩ = some (.int .i64 0) := (blk_cell hbox 2).trans rfl; have hfx2 := blk_frozen hbox 2; have hcx3 : wb.cell? ⟨gb, 3, none⟩ = some (.int .i64 0) := (blk_cell hbox 3).trans rfl; have hfx3 := blk_frozen hbox 3; clear hbox hb hg HL HQ HB) | ((with_reducible refine gate_store (t := 31) (p := 11) rfl ?_); refine store_event (t := 31) (p := 11) (v := .tmp 67) (w1 := (((wb.setCell ⟨gb, 0, none⟩ (.int .i64 x.f0)).setCell ⟨gb, 1, none⟩ (.int .i64 x.f1)).setCell ⟨gb, 2, none⟩ (.int .i64 x.f2)).setCell ⟨gb, 3, none⟩ (.int .i64 x.f3)) ?hg ?ho ?hn ?hr ?_; (case ho => rfl); (case hg => rfl); (case hn => rfl); (case hr => first | (go_simp; done) | (go_simp; rfl)); intro ws hw; obtain ⟨hl2, hq2, hb2, hx2⟩ := box4 HL1.out HQ1.out HB1.out HG1.out.1 HG1.out.2 HX1.out hw; have HL2 := Aside0.mk hl2; have HQ2 := Aside0.mk hq2; have HB2 := Aside0.mk hb2; have hys0 : ws.cell? ⟨gb, 0, none⟩ = some (.int .i64 x.f0) := (blk_cell hx2 0).trans rfl; have hys1 : ws.cell? ⟨gb, 1, none⟩ = some (.int .i64 x.f1) := (blk_cell hx2 1).trans rfl; have hys2 : ws.cell? ⟨gb, 2, none⟩ = some (.int .i64 x.f2) := (blk_cell hx2 2).trans rfl; have hys3 : ws.cell? ⟨gb, 3, none⟩ = some (.int .i64 x.f3) := (blk_cell hx2 3).trans rfl; clear hl2 hq2 hb2 hx2 hw HX1 HL1 HQ1 HB1 hcx0 hcx1 hcx2 hcx3 hfx0 hfx1 hfx2 hfx3) | (go_at_call 8; (with_reducible refine (HDO.out _ HL2.out HQ2.out).mono ?_); rintro e w4 ⟨rfl, hl4, hq4, hb4⟩; have HL4 := Aside0.mk hl4; have HQ4 := Aside0.mk hq4; obtain ⟨a1_, k1_, a2_, k2_, hqa⟩ := hq4; have c3_ := hqa.c3; have c4_ := hqa.c4; have HB4 := Aside0.mk (below_trans HB2.out hb4); clear hl4 hb4 hqa HL2 HQ2 HB2) | (go_at_call 9; (with_reducible refine (HOP.out _ HL4.out).mono ?_); rintro e w5 ⟨rfl, ⟨nd, rfl⟩⟩) | (go_at_call 10; (with_reducible refine (HSP.out _ (HL4.out.drewN _)).mono ?_); rintro e w6 ⟨rfl, hb6⟩; have HL6 := Aside0.mk ((HL4.out.drewN nd).below hb6); have HQ6 := Aside0.mk ((HQ4.out.drewN nd).below hb6); have HB6 := Aside0.mk (below_step (pw_below_drewN HB4.out nd) hb6); clear hb6 HL4 HQ4 HB4) | (go_at_call 11; (with_reducible refine (HQP.out _ HQ6.out).mono ?_); rintro e w7 ⟨rfl, hd7⟩; have HL7 := Aside0.mk (HL6.out.below hd7.below); have HQ7 := Aside0.mk (HQ6.out.below hd7.below); have HB7 := Aside0.mk (below_step HB6.out hd7.below); clear hd7 HL6 HQ6 HB6) | ((with_reducible refine gate_dst (N := 15) rfl ?_); refine box_event ?hg (N := 15) ?hd (cs := #[.int .i64 0, .int .i64 0, .int .i64 0, .int .i64 0]) (t := 39) ?hr ?_; (case hd => rfl); (case hg => rfl); (case hr => first | (go_simp; done) | (go_simp; rfl)); intro gc hg w8 hbox hb; have HL8 := Aside0.mk (HL7.out.below hb); have HQ8 := Aside0.mk (HQ7.out.below hb); have HB8 := Aside0.mk (below_step HB7.out hb); have HX8 := Aside0.mk hbox; have HGC := Aside0.mk (show g < gc ∧ w.heap.size ≤ gc from ⟨by rw [hg]; exact HL7.out.lt, by rw [hg]; exact HB7.out.size⟩); clear hbox hb hg HL7 HQ7 HB7))
        go_loopg [16] (a0.toNat + 3) (fun kq v16 w' => ∃ (y : Int) (e c : Nat) (m0 m1 m2 m3 : Int), v16 = .int .i64 y ∧ Aside0 (-1 ≤ y ∧ y + e = a0 + 1) ∧ Aside0 (kq = e + 1) ∧ Aside0 ((y = -1 ∧ c = 0) ∨ (0 ≤ y ∧ y ≤ a0 ∧ (c : Int) = y) ∨ (y = a0 + 1 ∧ (c : Int) = a0)) ∧ Aside0 (w'.heap[gc]? = some (.cells #[.int .i64 m0, .int .i64 m1, .int .i64 m2, .int .i64 m3] 39 (0, 0))) ∧ Aside0 (m0 = cnt s2.E 0 c 0 ∧ m1 = cnt s2.E 1 c 0 ∧ m2 = cnt s2.E 2 c 0 ∧ m3 = cnt s2.E 3 c 0) ∧ Aside0 (IsL w.heap.size w' g s2) ∧ Aside0 (IsQ (g + 1) w' h r2) ∧ Aside0 (Below w.heap.size w w'))
        case atStart => exact ⟨-1, a0.toNat + 2, 0, 0, 0, 0, 0, rfl, ⟨Int.le_refl _, by have := HD.out.b; omega⟩, ⟨rfl⟩, ⟨.inl ⟨rfl, rfl⟩⟩, HX8, ⟨rfl, rfl, rfl, rfl⟩, HL8, HQ8, HB8⟩
        case round =>
          (try clear b1_); (try clear c3_ c4_)
          obtain ⟨y, e, c, m0, m1, m2, m3, rfl, HY, HK2, HC, HX, HM, HL, HQ, HB⟩ := hrel
          cases e with
          | zero =>
            have hb2 : decide (y ≤ a0) = false := decide_eq_false (by have := HY.out; omega)
            have hc : (c : Int) = a0 := by have := HY.out; have := HC.out; have := HD.out.b; omega
            have hcl : c = s2.E.length := by have := HRL.out.lenE; omega
            have HM2 := Aside0.mk (show m0 = cnt s2.E 0 s2.E.length 0 ∧ m1 = cnt s2.E 1 s2.E.length 0 ∧ m2 = cnt s2.E 2 s2.E.length 0 ∧ m3 = cnt s2.E 3 s2.E.length 0 by rw [← hcl]; exact HM.out)
            clear hc hcl
            have z0_ : wr.cell? ⟨gc, 0, none⟩ = some (.int .i64 m0) := (blk_cell HX.out 0).trans rfl
            have z1_ : wr.cell? ⟨gc, 1, none⟩ = some (.int .i64 m1) := (blk_cell HX.out 1).trans rfl
            have z2_ : wr.cell? ⟨gc, 2, none⟩ = some (.int .i64 m2) := (blk_cell HX.out 2).trans rfl
            have z3_ : wr.cell? ⟨gc, 3, none⟩ = some (.int .i64 m3) := (blk_cell HX.out 3).trans rfl
            go_wp2
            go_loopg [181] 5 (fun kq v181 w' => ∃ (z : Int) (e : Nat), v181 = .int .i64 z ∧ Aside0 (0 ≤ z ∧ z + e = 4) ∧ Aside0 (kq = e + 1) ∧ Aside0 (IsL w.heap.size w' g s2) ∧ Aside0 (IsQ (g + 1) w' h r2) ∧ Aside0 (Below w.heap.size w w'))
            case atStart => exact ⟨0, 4, rfl, ⟨Int.le_refl _, rfl⟩, ⟨rfl⟩, HL, HQ, HB⟩
            case round =>
              clear z0_ z1_ z2_ z3_ hb2 HX HL HQ HB HY HK2
              obtain ⟨z, e, rfl, HZ, HK3, HL, HQ, HB⟩ := hrel
              cases e with
              | zero =>
                have hb3 : decide (z < 4) = false := decide_eq_false (by have := HZ.out; omega)
                go_wp2
                go_roundg (d + 1)
                case measure => have := HK.out; omega
                case rel => exact ⟨i + 1, d, s2, r2, by rw [HW.out], ⟨by have := Hn.out; omega, by have := Hn.out; omega⟩, ⟨rfl⟩, HL, HQ, HRL, HB⟩
              | succ e =>
                have hz : z = 0 ∨ z = 1 ∨ z = 2 ∨ z = 3 := by have := HZ.out; omega
                have ix0 : ∀ W, (Instr.index 39 (Value.agg #[Value.int .i64 m0, Value.int .i64 m1, Value.int .i64 m2, Value.int .i64 m3]) (Value.int .i64 0)).run Try.prog W = .ok (.int .i64 m0) W := fun W => rfl
                have ix1 : ∀ W, (Instr.index 39 (Value.agg #[Value.int .i64 m0, Value.int .i64 m1, Value.int .i64 m2, Value.int .i64 m3]) (Value.int .i64 1)).run Try.prog W = .ok (.int .i64 m1) W := fun W => rfl
                have ix2 : ∀ W, (Instr.index 39 (Value.agg #[Value.int .i64 m0, Value.int .i64 m1, Value.int .i64 m2, Value.int .i64 m3]) (Value.int .i64 2)).run Try.prog W = .ok (.int .i64 m2) W := fun W => rfl
                have ix3 : ∀ W, (Instr.index 39 (Value.agg #[Value.int .i64 m0, Value.int .i64 m1, Value.int .i64 m2, Value.int .i64 m3]) (Value.int .i64 3)).run Try.prog W = .ok (.int .i64 m3) W := fun W => rfl
                rcases hz with rfl | rfl | rfl | rfl
                all_goals (
                  go_wp2_with (first | (go_at_call 14; first | (with_reducible refine (HCNT.out 0 m0 HM2.out.1 _ HL.out).mono ?_) | (with_reducible refine (HCNT.out 1 m1 HM2.out.2.1 _ HL.out).mono ?_) | (with_reducible refine (HCNT.out 2 m2 HM2.out.2.2.1 _ HL.out).mono ?_) | (with_reducible refine (HCNT.out 3 m3 HM2.out.2.2.2 _ HL.out).mono ?_)); rintro e w9 ⟨rfl, hb9⟩; have HL9 := Aside0.mk (HL.out.below hb9); have HQ9 := Aside0.mk (HQ.out.below hb9); have HB9 := Aside0.mk (below_step HB.out hb9); clear hb9 HL HQ HB)
                  go_roundg (e + 1)
                  case measure => have := HK3.out; omega
                  case rel => exact ⟨_, e, rfl, ⟨by decide, by have := HZ.out; omega⟩, ⟨rfl⟩, HL9, HQ9, HB9⟩)
          | succ e =>
            have hb2 : decide (y ≤ a0) = true := decide_eq_true (by have := HY.out; omega)
            have hwy : wrap64 (y + 1) = y + 1 := w64s (by have := HY.out; omega) (by have := HY.out; have := HD.out.b; omega)
            have HWY := Aside0.mk hwy
            clear hwy
            by_cases hin : 0 ≤ y ∧ y < a0
            · obtain ⟨v, hv⟩ : ∃ v, v = rd r2.S y := ⟨_, rfl⟩
              obtain ⟨u, hu⟩ : ∃ u, u = rd r2.E y := ⟨_, rfl⟩
              have HV := Aside0.mk hv
              have hst : ∀ W, IsL w.heap.size W g s2 → Calls Try.prog 12 #[.pointer (some ⟨g, 0, none⟩), .int .i64 y] W fun e w' => e = .returned (.tuple #[.int .i64 v, .int .i64 u, .bool true]) ∧ Drawn0 W w' := by
                intro W hW
                have := State_in hW y hin.1 (by have := HRL.out.lenE; omega)
                rw [HRL.out.st y hin.1 hin.2, HRL.out.er y hin.1 hin.2, ← hv, ← hu] at this
                exact this
              have HST := Aside0.mk hst
              have hii : decide (0 ≤ y ∧ y < (r2.S.length : Int)) = true := decide_eq_true (by have := HRL.out.lenS; omega)
              have p1 := eq_true hin.1
              have p2 := eq_true (show y < (r2.S.length : Int) by have := HRL.out.lenS; omega)
              have hv4 := HRL.out.rng y hin.1 hin.2
              rw [← hv] at hv4
              have hvv : v = 0 ∨ v = 1 ∨ v = 2 ∨ v = 3 := by omega
              have hcy : (c : Int) = y := by have := HC.out; omega
              have hes : eS s2.E (c : Int) = v := by rw [hcy, hv]; exact HRL.out.st y hin.1 hin.2
              have HES := Aside0.mk hes
              have HIN := Aside0.mk hin
              obtain ⟨a1_, k1_, a2_, k2_, hqa⟩ := HQ.out
              have q0_ := hqa.c0
              have q1_ := hqa.c1
              have qS_ := hqa.cS y hin.1 (by have := HRL.out.lenS; omega)
              have qE_ := hqa.cE y hin.1 (by have := HRL.out.lenS; omega)
              rw [← hv] at qS_
              rw [← hu] at qE_
              clear hst hin hv hu hv4 hcy hes hqa
              rcases hvv with rfl | rfl | rfl | rfl
              · have hwm : wrap64 (m0 + 1) = m0 + 1 := w64s (by have := HM.out.1; have := cnt_rng s2.E 0 c 0; omega) (by have := HM.out.1; have := cnt_rng s2.E 0 c 0; have := HC.out; have := HD.out.b; omega)
                have HWM := Aside0.mk hwm
                clear hwm
                have y9_ : wr.cell? ⟨gc, 0, none⟩ = some (.int .i64 m0) := (blk_cell HX.out 0).trans rfl
                have fr9_ := blk_frozen HX.out 0
                go_wp2_with (first | (go_at_call 12; (with_reducible refine (HST.out _ HL.out).mono ?_); rintro e w9 ⟨rfl, ⟨nd9, rfl⟩⟩) | (go_at_call 13; (with_reducible refine (qIs_calls y (HQ.out.drewN _)).mono ?_); rintro e w9 ⟨rfl, ⟨nd8, rfl⟩⟩; rw [hii]; have HX9 := Aside0.mk (blk_drewN HX.out (nd9 + nd8))) | ((with_reducible refine gate_store (t := 3) (p := 179) rfl ?_); refine store_event (t := 3) (p := 179) (v := .tmp 178) (w1 := (wr.drewN (nd9 + nd8)).setCell ⟨gc, 0, none⟩ (.int .i64 (wrap64 (m0 + 1)))) ?hg ?ho ?hn ?hr ?_; (case ho => rfl); (case hg => rfl); (case hn => rfl); (case hr => first | (go_simp; done) | (go_simp; rfl)); intro wE hw; have HXE := Aside0.mk (show wE.heap[gc]? = some (.cells #[.int .i64 (wrap64 (m0 + 1)), .int .i64 m1, .int .i64 m2, .int .i64 m3] 39 (0, 0)) from by rw [hw]; exact blk_put HX9.out 0 _ rfl); obtain ⟨hle, hqe, hbe⟩ := put39 (HL.out.drewN (nd9 + nd8)) (HQ.out.drewN (nd9 + nd8)) (pw_below_drewN HB.out (nd9 + nd8)) HGC.out.1 HGC.out.2 HX9.out hw; have HLE := Aside0.mk hle; have HQE := Aside0.mk hqe; have HBE := Aside0.mk hbe; clear hle hqe hbe hw))
                go_roundg (e + 1)
                case measure => have := HK2.out; omega
                case rel => exact ⟨y + 1, e, c + 1, (wrap64 (m0 + 1)), m1, m2, m3, by rw [HWY.out], ⟨by have := HY.out; omega, by have := HY.out; omega⟩, ⟨rfl⟩, ⟨by have := HC.out; have := HIN.out; have := HD.out.b; have := HY.out; omega⟩, HXE, ⟨by rw [cnt_succ, HES.out, if_pos rfl, ← HM.out.1]; exact HWM.out, by rw [cnt_succ, HES.out, if_neg (by decide), ← HM.out.2.1, Int.add_zero], by rw [cnt_succ, HES.out, if_neg (by decide), ← HM.out.2.2.1, Int.add_zero], by rw [cnt_succ, HES.out, if_neg (by decide), ← HM.out.2.2.2, Int.add_zero]⟩, HLE, HQE, HBE⟩
              · have hwm : wrap64 (m1 + 1) = m1 + 1 := w64s (by have := HM.out.2.1; have := cnt_rng s2.E 1 c 0; omega) (by have := HM.out.2.1; have := cnt_rng s2.E 1 c 0; have := HC.out; have := HD.out.b; omega)
                have HWM := Aside0.mk hwm
                clear hwm
                have y9_ : wr.cell? ⟨gc, 1, none⟩ = some (.int .i64 m1) := (blk_cell HX.out 1).trans rfl
                have fr9_ := blk_frozen HX.out 1
                go_wp2_with (first | (go_at_call 12; (with_reducible refine (HST.out _ HL.out).mono ?_); rintro e w9 ⟨rfl, ⟨nd9, rfl⟩⟩) | (go_at_call 13; (with_reducible refine (qIs_calls y (HQ.out.drewN _)).mono ?_); rintro e w9 ⟨rfl, ⟨nd8, rfl⟩⟩; rw [hii]; have HX9 := Aside0.mk (blk_drewN HX.out (nd9 + nd8))) | ((with_reducible refine gate_store (t := 3) (p := 179) rfl ?_); refine store_event (t := 3) (p := 179) (v := .tmp 178) (w1 := (wr.drewN (nd9 + nd8)).setCell ⟨gc, 1, none⟩ (.int .i64 (wrap64 (m1 + 1)))) ?hg ?ho ?hn ?hr ?_; (case ho => rfl); (case hg => rfl); (case hn => rfl); (case hr => first | (go_simp; done) | (go_simp; rfl)); intro wE hw; have HXE := Aside0.mk (show wE.heap[gc]? = some (.cells #[.int .i64 m0, .int .i64 (wrap64 (m1 + 1)), .int .i64 m2, .int .i64 m3] 39 (0, 0)) from by rw [hw]; exact blk_put HX9.out 1 _ rfl); obtain ⟨hle, hqe, hbe⟩ := put39 (HL.out.drewN (nd9 + nd8)) (HQ.out.drewN (nd9 + nd8)) (pw_below_drewN HB.out (nd9 + nd8)) HGC.out.1 HGC.out.2 HX9.out hw; have HLE := Aside0.mk hle; have HQE := Aside0.mk hqe; have HBE := Aside0.mk hbe; clear hle hqe hbe hw))
                go_roundg (e + 1)
                case measure => have := HK2.out; omega
                case rel => exact ⟨y + 1, e, c + 1, m0, (wrap64 (m1 + 1)), m2, m3, by rw [HWY.out], ⟨by have := HY.out; omega, by have := HY.out; omega⟩, ⟨rfl⟩, ⟨by have := HC.out; have := HIN.out; have := HD.out.b; have := HY.out; omega⟩, HXE, ⟨by rw [cnt_succ, HES.out, if_neg (by decide), ← HM.out.1, Int.add_zero], by rw [cnt_succ, HES.out, if_pos rfl, ← HM.out.2.1]; exact HWM.out, by rw [cnt_succ, HES.out, if_neg (by decide), ← HM.out.2.2.1, Int.add_zero], by rw [cnt_succ, HES.out, if_neg (by decide), ← HM.out.2.2.2, Int.add_zero]⟩, HLE, HQE, HBE⟩
              · have hwm : wrap64 (m2 + 1) = m2 + 1 := w64s (by have := HM.out.2.2.1; have := cnt_rng s2.E 2 c 0; omega) (by have := HM.out.2.2.1; have := cnt_rng s2.E 2 c 0; have := HC.out; have := HD.out.b; omega)
                have HWM := Aside0.mk hwm
                clear hwm
                have y9_ : wr.cell? ⟨gc, 2, none⟩ = some (.int .i64 m2) := (blk_cell HX.out 2).trans rfl
                have fr9_ := blk_frozen HX.out 2
                go_wp2_with (first | (go_at_call 12; (with_reducible refine (HST.out _ HL.out).mono ?_); rintro e w9 ⟨rfl, ⟨nd9, rfl⟩⟩) | (go_at_call 13; (with_reducible refine (qIs_calls y (HQ.out.drewN _)).mono ?_); rintro e w9 ⟨rfl, ⟨nd8, rfl⟩⟩; rw [hii]; have HX9 := Aside0.mk (blk_drewN HX.out (nd9 + nd8))) | ((with_reducible refine gate_store (t := 3) (p := 179) rfl ?_); refine store_event (t := 3) (p := 179) (v := .tmp 178) (w1 := (wr.drewN (nd9 + nd8)).setCell ⟨gc, 2, none⟩ (.int .i64 (wrap64 (m2 + 1)))) ?hg ?ho ?hn ?hr ?_; (case ho => rfl); (case hg => rfl); (case hn => rfl); (case hr => first | (go_simp; done) | (go_simp; rfl)); intro wE hw; have HXE := Aside0.mk (show wE.heap[gc]? = some (.cells #[.int .i64 m0, .int .i64 m1, .int .i64 (wrap64 (m2 + 1)), .int .i64 m3] 39 (0, 0)) from by rw [hw]; exact blk_put HX9.out 2 _ rfl); obtain ⟨hle, hqe, hbe⟩ := put39 (HL.out.drewN (nd9 + nd8)) (HQ.out.drewN (nd9 + nd8)) (pw_below_drewN HB.out (nd9 + nd8)) HGC.out.1 HGC.out.2 HX9.out hw; have HLE := Aside0.mk hle; have HQE := Aside0.mk hqe; have HBE := Aside0.mk hbe; clear hle hqe hbe hw))
                go_roundg (e + 1)
                case measure => have := HK2.out; omega
                case rel => exact ⟨y + 1, e, c + 1, m0, m1, (wrap64 (m2 + 1)), m3, by rw [HWY.out], ⟨by have := HY.out; omega, by have := HY.out; omega⟩, ⟨rfl⟩, ⟨by have := HC.out; have := HIN.out; have := HD.out.b; have := HY.out; omega⟩, HXE, ⟨by rw [cnt_succ, HES.out, if_neg (by decide), ← HM.out.1, Int.add_zero], by rw [cnt_succ, HES.out, if_neg (by decide), ← HM.out.2.1, Int.add_zero], by rw [cnt_succ, HES.out, if_pos rfl, ← HM.out.2.2.1]; exact HWM.out, by rw [cnt_succ, HES.out, if_neg (by decide), ← HM.out.2.2.2, Int.add_zero]⟩, HLE, HQE, HBE⟩
              · have hwm : wrap64 (m3 + 1) = m3 + 1 := w64s (by have := HM.out.2.2.2; have := cnt_rng s2.E 3 c 0; omega) (by have := HM.out.2.2.2; have := cnt_rng s2.E 3 c 0; have := HC.out; have := HD.out.b; omega)
                have HWM := Aside0.mk hwm
                clear hwm
                have y9_ : wr.cell? ⟨gc, 3, none⟩ = some (.int .i64 m3) := (blk_cell HX.out 3).trans rfl
                have fr9_ := blk_frozen HX.out 3
                go_wp2_with (first | (go_at_call 12; (with_reducible refine (HST.out _ HL.out).mono ?_); rintro e w9 ⟨rfl, ⟨nd9, rfl⟩⟩) | (go_at_call 13; (with_reducible refine (qIs_calls y (HQ.out.drewN _)).mono ?_); rintro e w9 ⟨rfl, ⟨nd8, rfl⟩⟩; rw [hii]; have HX9 := Aside0.mk (blk_drewN HX.out (nd9 + nd8))) | ((with_reducible refine gate_store (t := 3) (p := 179) rfl ?_); refine store_event (t := 3) (p := 179) (v := .tmp 178) (w1 := (wr.drewN (nd9 + nd8)).setCell ⟨gc, 3, none⟩ (.int .i64 (wrap64 (m3 + 1)))) ?hg ?ho ?hn ?hr ?_; (case ho => rfl); (case hg => rfl); (case hn => rfl); (case hr => first | (go_simp; done) | (go_simp; rfl)); intro wE hw; have HXE := Aside0.mk (show wE.heap[gc]? = some (.cells #[.int .i64 m0, .int .i64 m1, .int .i64 m2, .int .i64 (wrap64 (m3 + 1))] 39 (0, 0)) from by rw [hw]; exact blk_put HX9.out 3 _ rfl); obtain ⟨hle, hqe, hbe⟩ := put39 (HL.out.drewN (nd9 + nd8)) (HQ.out.drewN (nd9 + nd8)) (pw_below_drewN HB.out (nd9 + nd8)) HGC.out.1 HGC.out.2 HX9.out hw; have HLE := Aside0.mk hle; have HQE := Aside0.mk hqe; have HBE := Aside0.mk hbe; clear hle hqe hbe hw))
                go_roundg (e + 1)
                case measure => have := HK2.out; omega
                case rel => exact ⟨y + 1, e, c + 1, m0, m1, m2, (wrap64 (m3 + 1)), by rw [HWY.out], ⟨by have := HY.out; omega, by have := HY.out; omega⟩, ⟨rfl⟩, ⟨by have := HC.out; have := HIN.out; have := HD.out.b; have := HY.out; omega⟩, HXE, ⟨by rw [cnt_succ, HES.out, if_neg (by decide), ← HM.out.1, Int.add_zero], by rw [cnt_succ, HES.out, if_neg (by decide), ← HM.out.2.1, Int.add_zero], by rw [cnt_succ, HES.out, if_neg (by decide), ← HM.out.2.2.1, Int.add_zero], by rw [cnt_succ, HES.out, if_pos rfl, ← HM.out.2.2.2]; exact HWM.out⟩, HLE, HQE, HBE⟩
            · have HIO := Aside0.mk (show y < 0 ∨ (s2.E.length : Int) ≤ y by have := HRL.out.lenE; omega)
              have hii : decide (0 ≤ y ∧ y < (r2.S.length : Int)) = false := decide_eq_false (by have := HRL.out.lenS; omega)
              have HIN := Aside0.mk hin
              clear hin
              go_wp2_with (first | (go_at_call 12; (with_reducible refine (State_out HL.out y HIO.out).mono ?_); rintro e w9 ⟨rfl, ⟨nd9, rfl⟩⟩) | (go_at_call 13; (with_reducible refine (qIs_calls y (HQ.out.drewN _)).mono ?_); rintro e w9 ⟨rfl, hd9⟩; rw [hii]; have HL9 := Aside0.mk ((HL.out.drewN nd9).below hd9.below); have HQ9 := Aside0.mk ((HQ.out.drewN nd9).below hd9.below); have HB9 := Aside0.mk (below_step (pw_below_drewN HB.out nd9) hd9.below); have HX9 := Aside0.mk (blk_below (blk_drewN HX.out nd9) hd9.below); clear hd9))
              go_roundg (e + 1)
              case measure => have := HK2.out; omega
              case rel => exact ⟨y + 1, e, c, m0, m1, m2, m3, by rw [HWY.out], ⟨by have := HY.out; omega, by have := HY.out; omega⟩, ⟨rfl⟩, ⟨by have := HC.out; have := HIN.out; have := HD.out.b; have := HY.out; omega⟩, HX9, HM, HL9, HQ9, HB9⟩
      · have b1_ : decide (0 ≤ r2.opn) = false := decide_eq_false hop
        replace hop : r2.opn < 0 := by omega
        have HOP := Aside0.mk (show ∀ W, IsL w.heap.size W g s2 → Calls Try.prog 9 #[.pointer (some ⟨g, 0, none⟩)] W fun e w' => e = .returned (.tuple #[.int .i64 0, .int .i64 0, .bool false]) ∧ Drawn0 W w' from fun W hW => Open_none hW HRL.out hop)
        clear hop
        go_wp2_with (first | ((with_reducible refine gate_dst (N := 11) rfl ?_); refine box_event ?hg (N := 11) ?hd (cs := #[.int .i64 0, .int .i64 0, .int .i64 0, .int .i64 0]) (t := 31) ?hr ?_; (case hd => rfl); (case hg => rfl); (case hr => first | (go_simp; done) | (go_simp; rfl)); intro gb hg wb hbox hb; have HL1 := Aside0.mk (HL.out.below hb); have HQ1 := Aside0.mk (HQ.out.below hb); have HB1 := Aside0.mk (below_step HB.out hb); have HX1 := Aside0.mk hbox; have HG1 := Aside0.mk (show g < gb ∧ w.heap.size ≤ gb from ⟨by rw [hg]; exact HL.out.lt, by rw [hg]; exact HB.out.size⟩); have hcx0 : wb.cell? ⟨gb, 0, none⟩ = some (.int .i64 0) := (blk_cell hbox 0).trans rfl; have hfx0 := blk_frozen hbox 0; have hcx1 : wb.cell? ⟨gb, 1, none⟩ = some (.int .i64 0) := (blk_cell hbox 1).trans rfl; have hfx1 := blk_frozen hbox 1; have hcx2 : wb.cell? ⟨gb, 2, none⟩ = some (.int .i64 0) := (blk_cell hbox 2).trans rfl; have hfx2 := blk_frozen hbox 2; have hcx3 : wb.cell? ⟨gb, 3, none⟩ = some (.int .i64 0) := (blk_cell hbox 3).trans rfl; have hfx3 := blk_frozen hbox 3; clear hbox hb hg HL HQ HB) | ((with_reducible refine gate_store (t := 31) (p := 11) rfl ?_); refine store_event (t := 31) (p := 11) (v := .tmp 67) (w1 := (((wb.setCell ⟨gb, 0, none⟩ (.int .i64 x.f0)).setCell ⟨gb, 1, none⟩ (.int .i64 x.f1)).setCell ⟨gb, 2, none⟩ (.int .i64 x.f2)).setCell ⟨gb, 3, none⟩ (.int .i64 x.f3)) ?hg ?ho ?hn ?hr ?_; (case ho => rfl); (case hg => rfl); (case hn => rfl); (case hr => first | (go_simp; done) | (go_simp; rfl)); intro ws hw; obtain ⟨hl2, hq2, hb2, hx2⟩ := box4 HL1.out HQ1.out HB1.out HG1.out.1 HG1.out.2 HX1.out hw; have HL2 := Aside0.mk hl2; have HQ2 := Aside0.mk hq2; have HB2 := Aside0.mk hb2; have hys0 : ws.cell? ⟨gb, 0, none⟩ = some (.int .i64 x.f0) := (blk_cell hx2 0).trans rfl; have hys1 : ws.cell? ⟨gb, 1, none⟩ = some (.int .i64 x.f1) := (blk_cell hx2 1).trans rfl; have hys2 : ws.cell? ⟨gb, 2, none⟩ = some (.int .i64 x.f2) := (blk_cell hx2 2).trans rfl; have hys3 : ws.cell? ⟨gb, 3, none⟩ = some (.int .i64 x.f3) := (blk_cell hx2 3).trans rfl; clear hl2 hq2 hb2 hx2 hw HX1 HL1 HQ1 HB1 hcx0 hcx1 hcx2 hcx3 hfx0 hfx1 hfx2 hfx3) | (go_at_call 8; (with_reducible refine (HDO.out _ HL2.out HQ2.out).mono ?_); rintro e w4 ⟨rfl, hl4, hq4, hb4⟩; have HL4 := Aside0.mk hl4; have HQ4 := Aside0.mk hq4; obtain ⟨a1_, k1_, a2_, k2_, hqa⟩ := hq4; have c3_ := hqa.c3; have c4_ := hqa.c4; have HB4 := Aside0.mk (below_trans HB2.out hb4); clear hl4 hb4 hqa HL2 HQ2 HB2) | (go_at_call 9; (with_reducible refine (HOP.out _ HL4.out).mono ?_); rintro e w5 ⟨rfl, ⟨nd, rfl⟩⟩) | (go_at_call 10; (with_reducible refine (HSP.out _ (HL4.out.drewN _)).mono ?_); rintro e w6 ⟨rfl, hb6⟩; have HL6 := Aside0.mk ((HL4.out.drewN nd).below hb6); have HQ6 := Aside0.mk ((HQ4.out.drewN nd).below hb6); have HB6 := Aside0.mk (below_step (pw_below_drewN HB4.out nd) hb6); clear hb6 HL4 HQ4 HB4) | (go_at_call 11; (with_reducible refine (HQP.out _ HQ6.out).mono ?_); rintro e w7 ⟨rfl, hd7⟩; have HL7 := Aside0.mk (HL6.out.below hd7.below); have HQ7 := Aside0.mk (HQ6.out.below hd7.below); have HB7 := Aside0.mk (below_step HB6.out hd7.below); clear hd7 HL6 HQ6 HB6) | ((with_reducible refine gate_dst (N := 15) rfl ?_); refine box_event ?hg (N := 15) ?hd (cs := #[.int .i64 0, .int .i64 0, .int .i64 0, .int .i64 0]) (t := 39) ?hr ?_; (case hd => rfl); (case hg => rfl); (case hr => first | (go_simp; done) | (go_simp; rfl)); intro gc hg w8 hbox hb; have HL8 := Aside0.mk (HL7.out.below hb); have HQ8 := Aside0.mk (HQ7.out.below hb); have HB8 := Aside0.mk (below_step HB7.out hb); have HX8 := Aside0.mk hbox; have HGC := Aside0.mk (show g < gc ∧ w.heap.size ≤ gc from ⟨by rw [hg]; exact HL7.out.lt, by rw [hg]; exact HB7.out.size⟩); clear hbox hb hg HL7 HQ7 HB7))
        go_loopg [16] (a0.toNat + 3) (fun kq v16 w' => ∃ (y : Int) (e c : Nat) (m0 m1 m2 m3 : Int), v16 = .int .i64 y ∧ Aside0 (-1 ≤ y ∧ y + e = a0 + 1) ∧ Aside0 (kq = e + 1) ∧ Aside0 ((y = -1 ∧ c = 0) ∨ (0 ≤ y ∧ y ≤ a0 ∧ (c : Int) = y) ∨ (y = a0 + 1 ∧ (c : Int) = a0)) ∧ Aside0 (w'.heap[gc]? = some (.cells #[.int .i64 m0, .int .i64 m1, .int .i64 m2, .int .i64 m3] 39 (0, 0))) ∧ Aside0 (m0 = cnt s2.E 0 c 0 ∧ m1 = cnt s2.E 1 c 0 ∧ m2 = cnt s2.E 2 c 0 ∧ m3 = cnt s2.E 3 c 0) ∧ Aside0 (IsL w.heap.size w' g s2) ∧ Aside0 (IsQ (g + 1) w' h r2) ∧ Aside0 (Below w.heap.size w w'))
        case atStart => exact ⟨-1, a0.toNat + 2, 0, 0, 0, 0, 0, rfl, ⟨Int.le_refl _, by have := HD.out.b; omega⟩, ⟨rfl⟩, ⟨.inl ⟨rfl, rfl⟩⟩, HX8, ⟨rfl, rfl, rfl, rfl⟩, HL8, HQ8, HB8⟩
        case round =>
          (try clear b1_); (try clear c3_ c4_)
          obtain ⟨y, e, c, m0, m1, m2, m3, rfl, HY, HK2, HC, HX, HM, HL, HQ, HB⟩ := hrel
          cases e with
          | zero =>
            have hb2 : decide (y ≤ a0) = false := decide_eq_false (by have := HY.out; omega)
            have hc : (c : Int) = a0 := by have := HY.out; have := HC.out; have := HD.out.b; omega
            have hcl : c = s2.E.length := by have := HRL.out.lenE; omega
            have HM2 := Aside0.mk (show m0 = cnt s2.E 0 s2.E.length 0 ∧ m1 = cnt s2.E 1 s2.E.length 0 ∧ m2 = cnt s2.E 2 s2.E.length 0 ∧ m3 = cnt s2.E 3 s2.E.length 0 by rw [← hcl]; exact HM.out)
            clear hc hcl
            have z0_ : wr.cell? ⟨gc, 0, none⟩ = some (.int .i64 m0) := (blk_cell HX.out 0).trans rfl
            have z1_ : wr.cell? ⟨gc, 1, none⟩ = some (.int .i64 m1) := (blk_cell HX.out 1).trans rfl
            have z2_ : wr.cell? ⟨gc, 2, none⟩ = some (.int .i64 m2) := (blk_cell HX.out 2).trans rfl
            have z3_ : wr.cell? ⟨gc, 3, none⟩ = some (.int .i64 m3) := (blk_cell HX.out 3).trans rfl
            go_wp2
            go_loopg [181] 5 (fun kq v181 w' => ∃ (z : Int) (e : Nat), v181 = .int .i64 z ∧ Aside0 (0 ≤ z ∧ z + e = 4) ∧ Aside0 (kq = e + 1) ∧ Aside0 (IsL w.heap.size w' g s2) ∧ Aside0 (IsQ (g + 1) w' h r2) ∧ Aside0 (Below w.heap.size w w'))
            case atStart => exact ⟨0, 4, rfl, ⟨Int.le_refl _, rfl⟩, ⟨rfl⟩, HL, HQ, HB⟩
            case round =>
              clear z0_ z1_ z2_ z3_ hb2 HX HL HQ HB HY HK2
              obtain ⟨z, e, rfl, HZ, HK3, HL, HQ, HB⟩ := hrel
              cases e with
              | zero =>
                have hb3 : decide (z < 4) = false := decide_eq_false (by have := HZ.out; omega)
                go_wp2
                go_roundg (d + 1)
                case measure => have := HK.out; omega
                case rel => exact ⟨i + 1, d, s2, r2, by rw [HW.out], ⟨by have := Hn.out; omega, by have := Hn.out; omega⟩, ⟨rfl⟩, HL, HQ, HRL, HB⟩
              | succ e =>
                have hz : z = 0 ∨ z = 1 ∨ z = 2 ∨ z = 3 := by have := HZ.out; omega
                have ix0 : ∀ W, (Instr.index 39 (Value.agg #[Value.int .i64 m0, Value.int .i64 m1, Value.int .i64 m2, Value.int .i64 m3]) (Value.int .i64 0)).run Try.prog W = .ok (.int .i64 m0) W := fun W => rfl
                have ix1 : ∀ W, (Instr.index 39 (Value.agg #[Value.int .i64 m0, Value.int .i64 m1, Value.int .i64 m2, Value.int .i64 m3]) (Value.int .i64 1)).run Try.prog W = .ok (.int .i64 m1) W := fun W => rfl
                have ix2 : ∀ W, (Instr.index 39 (Value.agg #[Value.int .i64 m0, Value.int .i64 m1, Value.int .i64 m2, Value.int .i64 m3]) (Value.int .i64 2)).run Try.prog W = .ok (.int .i64 m2) W := fun W => rfl
                have ix3 : ∀ W, (Instr.index 39 (Value.agg #[Value.int .i64 m0, Value.int .i64 m1, Value.int .i64 m2, Value.int .i64 m3]) (Value.int .i64 3)).run Try.prog W = .ok (.int .i64 m3) W := fun W => rfl
                rcases hz with rfl | rfl | rfl | rfl
                all_goals (
                  go_wp2_with (first | (go_at_call 14; first | (with_reducible refine (HCNT.out 0 m0 HM2.out.1 _ HL.out).mono ?_) | (with_reducible refine (HCNT.out 1 m1 HM2.out.2.1 _ HL.out).mono ?_) | (with_reducible refine (HCNT.out 2 m2 HM2.out.2.2.1 _ HL.out).mono ?_) | (with_reducible refine (HCNT.out 3 m3 HM2.out.2.2.2 _ HL.out).mono ?_)); rintro e w9 ⟨rfl, hb9⟩; have HL9 := Aside0.mk (HL.out.below hb9); have HQ9 := Aside0.mk (HQ.out.below hb9); have HB9 := Aside0.mk (below_step HB.out hb9); clear hb9 HL HQ HB)
                  go_roundg (e + 1)
                  case measure => have := HK3.out; omega
                  case rel => exact ⟨_, e, rfl, ⟨by decide, by have := HZ.out; omega⟩, ⟨rfl⟩, HL9, HQ9, HB9⟩)
          | succ e =>
            have hb2 : decide (y ≤ a0) = true := decide_eq_true (by have := HY.out; omega)
            have hwy : wrap64 (y + 1) = y + 1 := w64s (by have := HY.out; omega) (by have := HY.out; have := HD.out.b; omega)
            have HWY := Aside0.mk hwy
            clear hwy
            by_cases hin : 0 ≤ y ∧ y < a0
            · obtain ⟨v, hv⟩ : ∃ v, v = rd r2.S y := ⟨_, rfl⟩
              obtain ⟨u, hu⟩ : ∃ u, u = rd r2.E y := ⟨_, rfl⟩
              have HV := Aside0.mk hv
              have hst : ∀ W, IsL w.heap.size W g s2 → Calls Try.prog 12 #[.pointer (some ⟨g, 0, none⟩), .int .i64 y] W fun e w' => e = .returned (.tuple #[.int .i64 v, .int .i64 u, .bool true]) ∧ Drawn0 W w' := by
                intro W hW
                have := State_in hW y hin.1 (by have := HRL.out.lenE; omega)
                rw [HRL.out.st y hin.1 hin.2, HRL.out.er y hin.1 hin.2, ← hv, ← hu] at this
                exact this
              have HST := Aside0.mk hst
              have hii : decide (0 ≤ y ∧ y < (r2.S.length : Int)) = true := decide_eq_true (by have := HRL.out.lenS; omega)
              have p1 := eq_true hin.1
              have p2 := eq_true (show y < (r2.S.length : Int) by have := HRL.out.lenS; omega)
              have hv4 := HRL.out.rng y hin.1 hin.2
              rw [← hv] at hv4
              have hvv : v = 0 ∨ v = 1 ∨ v = 2 ∨ v = 3 := by omega
              have hcy : (c : Int) = y := by have := HC.out; omega
              have hes : eS s2.E (c : Int) = v := by rw [hcy, hv]; exact HRL.out.st y hin.1 hin.2
              have HES := Aside0.mk hes
              have HIN := Aside0.mk hin
              obtain ⟨a1_, k1_, a2_, k2_, hqa⟩ := HQ.out
              have q0_ := hqa.c0
              have q1_ := hqa.c1
              have qS_ := hqa.cS y hin.1 (by have := HRL.out.lenS; omega)
              have qE_ := hqa.cE y hin.1 (by have := HRL.out.lenS; omega)
              rw [← hv] at qS_
              rw [← hu] at qE_
              clear hst hin hv hu hv4 hcy hes hqa
              rcases hvv with rfl | rfl | rfl | rfl
              · have hwm : wrap64 (m0 + 1) = m0 + 1 := w64s (by have := HM.out.1; have := cnt_rng s2.E 0 c 0; omega) (by have := HM.out.1; have := cnt_rng s2.E 0 c 0; have := HC.out; have := HD.out.b; omega)
                have HWM := Aside0.mk hwm
                clear hwm
                have y9_ : wr.cell? ⟨gc, 0, none⟩ = some (.int .i64 m0) := (blk_cell HX.out 0).trans rfl
                have fr9_ := blk_frozen HX.out 0
                go_wp2_with (first | (go_at_call 12; (with_reducible refine (HST.out _ HL.out).mono ?_); rintro e w9 ⟨rfl, ⟨nd9, rfl⟩⟩) | (go_at_call 13; (with_reducible refine (qIs_calls y (HQ.out.drewN _)).mono ?_); rintro e w9 ⟨rfl, ⟨nd8, rfl⟩⟩; rw [hii]; have HX9 := Aside0.mk (blk_drewN HX.out (nd9 + nd8))) | ((with_reducible refine gate_store (t := 3) (p := 179) rfl ?_); refine store_event (t := 3) (p := 179) (v := .tmp 178) (w1 := (wr.drewN (nd9 + nd8)).setCell ⟨gc, 0, none⟩ (.int .i64 (wrap64 (m0 + 1)))) ?hg ?ho ?hn ?hr ?_; (case ho => rfl); (case hg => rfl); (case hn => rfl); (case hr => first | (go_simp; done) | (go_simp; rfl)); intro wE hw; have HXE := Aside0.mk (show wE.heap[gc]? = some (.cells #[.int .i64 (wrap64 (m0 + 1)), .int .i64 m1, .int .i64 m2, .int .i64 m3] 39 (0, 0)) from by rw [hw]; exact blk_put HX9.out 0 _ rfl); obtain ⟨hle, hqe, hbe⟩ := put39 (HL.out.drewN (nd9 + nd8)) (HQ.out.drewN (nd9 + nd8)) (pw_below_drewN HB.out (nd9 + nd8)) HGC.out.1 HGC.out.2 HX9.out hw; have HLE := Aside0.mk hle; have HQE := Aside0.mk hqe; have HBE := Aside0.mk hbe; clear hle hqe hbe hw))
                go_roundg (e + 1)
                case measure => have := HK2.out; omega
                case rel => exact ⟨y + 1, e, c + 1, (wrap64 (m0 + 1)), m1, m2, m3, by rw [HWY.out], ⟨by have := HY.out; omega, by have := HY.out; omega⟩, ⟨rfl⟩, ⟨by have := HC.out; have := HIN.out; have := HD.out.b; have := HY.out; omega⟩, HXE, ⟨by rw [cnt_succ, HES.out, if_pos rfl, ← HM.out.1]; exact HWM.out, by rw [cnt_succ, HES.out, if_neg (by decide), ← HM.out.2.1, Int.add_zero], by rw [cnt_succ, HES.out, if_neg (by decide), ← HM.out.2.2.1, Int.add_zero], by rw [cnt_succ, HES.out, if_neg (by decide), ← HM.out.2.2.2, Int.add_zero]⟩, HLE, HQE, HBE⟩
              · have hwm : wrap64 (m1 + 1) = m1 + 1 := w64s (by have := HM.out.2.1; have := cnt_rng s2.E 1 c 0; omega) (by have := HM.out.2.1; have := cnt_rng s2.E 1 c 0; have := HC.out; have := HD.out.b; omega)
                have HWM := Aside0.mk hwm
                clear hwm
                have y9_ : wr.cell? ⟨gc, 1, none⟩ = some (.int .i64 m1) := (blk_cell HX.out 1).trans rfl
                have fr9_ := blk_frozen HX.out 1
                go_wp2_with (first | (go_at_call 12; (with_reducible refine (HST.out _ HL.out).mono ?_); rintro e w9 ⟨rfl, ⟨nd9, rfl⟩⟩) | (go_at_call 13; (with_reducible refine (qIs_calls y (HQ.out.drewN _)).mono ?_); rintro e w9 ⟨rfl, ⟨nd8, rfl⟩⟩; rw [hii]; have HX9 := Aside0.mk (blk_drewN HX.out (nd9 + nd8))) | ((with_reducible refine gate_store (t := 3) (p := 179) rfl ?_); refine store_event (t := 3) (p := 179) (v := .tmp 178) (w1 := (wr.drewN (nd9 + nd8)).setCell ⟨gc, 1, none⟩ (.int .i64 (wrap64 (m1 + 1)))) ?hg ?ho ?hn ?hr ?_; (case ho => rfl); (case hg => rfl); (case hn => rfl); (case hr => first | (go_simp; done) | (go_simp; rfl)); intro wE hw; have HXE := Aside0.mk (show wE.heap[gc]? = some (.cells #[.int .i64 m0, .int .i64 (wrap64 (m1 + 1)), .int .i64 m2, .int .i64 m3] 39 (0, 0)) from by rw [hw]; exact blk_put HX9.out 1 _ rfl); obtain ⟨hle, hqe, hbe⟩ := put39 (HL.out.drewN (nd9 + nd8)) (HQ.out.drewN (nd9 + nd8)) (pw_below_drewN HB.out (nd9 + nd8)) HGC.out.1 HGC.out.2 HX9.out hw; have HLE := Aside0.mk hle; have HQE := Aside0.mk hqe; have HBE := Aside0.mk hbe; clear hle hqe hbe hw))
                go_roundg (e + 1)
                case measure => have := HK2.out; omega
                case rel => exact ⟨y + 1, e, c + 1, m0, (wrap64 (m1 + 1)), m2, m3, by rw [HWY.out], ⟨by have := HY.out; omega, by have := HY.out; omega⟩, ⟨rfl⟩, ⟨by have := HC.out; have := HIN.out; have := HD.out.b; have := HY.out; omega⟩, HXE, ⟨by rw [cnt_succ, HES.out, if_neg (by decide), ← HM.out.1, Int.add_zero], by rw [cnt_succ, HES.out, if_pos rfl, ← HM.out.2.1]; exact HWM.out, by rw [cnt_succ, HES.out, if_neg (by decide), ← HM.out.2.2.1, Int.add_zero], by rw [cnt_succ, HES.out, if_neg (by decide), ← HM.out.2.2.2, Int.add_zero]⟩, HLE, HQE, HBE⟩
              · have hwm : wrap64 (m2 + 1) = m2 + 1 := w64s (by have := HM.out.2.2.1; have := cnt_rng s2.E 2 c 0; omega) (by have := HM.out.2.2.1; have := cnt_rng s2.E 2 c 0; have := HC.out; have := HD.out.b; omega)
                have HWM := Aside0.mk hwm
                clear hwm
                have y9_ : wr.cell? ⟨gc, 2, none⟩ = some (.int .i64 m2) := (blk_cell HX.out 2).trans rfl
                have fr9_ := blk_frozen HX.out 2
                go_wp2_with (first | (go_at_call 12; (with_reducible refine (HST.out _ HL.out).mono ?_); rintro e w9 ⟨rfl, ⟨nd9, rfl⟩⟩) | (go_at_call 13; (with_reducible refine (qIs_calls y (HQ.out.drewN _)).mono ?_); rintro e w9 ⟨rfl, ⟨nd8, rfl⟩⟩; rw [hii]; have HX9 := Aside0.mk (blk_drewN HX.out (nd9 + nd8))) | ((with_reducible refine gate_store (t := 3) (p := 179) rfl ?_); refine store_event (t := 3) (p := 179) (v := .tmp 178) (w1 := (wr.drewN (nd9 + nd8)).setCell ⟨gc, 2, none⟩ (.int .i64 (wrap64 (m2 + 1)))) ?hg ?ho ?hn ?hr ?_; (case ho => rfl); (case hg => rfl); (case hn => rfl); (case hr => first | (go_simp; done) | (go_simp; rfl)); intro wE hw; have HXE := Aside0.mk (show wE.heap[gc]? = some (.cells #[.int .i64 m0, .int .i64 m1, .int .i64 (wrap64 (m2 + 1)), .int .i64 m3] 39 (0, 0)) from by rw [hw]; exact blk_put HX9.out 2 _ rfl); obtain ⟨hle, hqe, hbe⟩ := put39 (HL.out.drewN (nd9 + nd8)) (HQ.out.drewN (nd9 + nd8)) (pw_below_drewN HB.out (nd9 + nd8)) HGC.out.1 HGC.out.2 HX9.out hw; have HLE := Aside0.mk hle; have HQE := Aside0.mk hqe; have HBE := Aside0.mk hbe; clear hle hqe hbe hw))
                go_roundg (e + 1)
                case measure => have := HK2.out; omega
                case rel => exact ⟨y + 1, e, c + 1, m0, m1, (wrap64 (m2 + 1)), m3, by rw [HWY.out], ⟨by have := HY.out; omega, by have := HY.out; omega⟩, ⟨rfl⟩, ⟨by have := HC.out; have := HIN.out; have := HD.out.b; have := HY.out; omega⟩, HXE, ⟨by rw [cnt_succ, HES.out, if_neg (by decide), ← HM.out.1, Int.add_zero], by rw [cnt_succ, HES.out, if_neg (by decide), ← HM.out.2.1, Int.add_zero], by rw [cnt_succ, HES.out, if_pos rfl, ← HM.out.2.2.1]; exact HWM.out, by rw [cnt_succ, HES.out, if_neg (by decide), ← HM.out.2.2.2, Int.add_zero]⟩, HLE, HQE, HBE⟩
              · have hwm : wrap64 (m3 + 1) = m3 + 1 := w64s (by have := HM.out.2.2.2; have := cnt_rng s2.E 3 c 0; omega) (by have := HM.out.2.2.2; have := cnt_rng s2.E 3 c 0; have := HC.out; have := HD.out.b; omega)
                have HWM := Aside0.mk hwm
                clear hwm
                have y9_ : wr.cell? ⟨gc, 3, none⟩ = some (.int .i64 m3) := (blk_cell HX.out 3).trans rfl
                have fr9_ := blk_frozen HX.out 3
                go_wp2_with (first | (go_at_call 12; (with_reducible refine (HST.out _ HL.out).mono ?_); rintro e w9 ⟨rfl, ⟨nd9, rfl⟩⟩) | (go_at_call 13; (with_reducible refine (qIs_calls y (HQ.out.drewN _)).mono ?_); rintro e w9 ⟨rfl, ⟨nd8, rfl⟩⟩; rw [hii]; have HX9 := Aside0.mk (blk_drewN HX.out (nd9 + nd8))) | ((with_reducible refine gate_store (t := 3) (p := 179) rfl ?_); refine store_event (t := 3) (p := 179) (v := .tmp 178) (w1 := (wr.drewN (nd9 + nd8)).setCell ⟨gc, 3, none⟩ (.int .i64 (wrap64 (m3 + 1)))) ?hg ?ho ?hn ?hr ?_; (case ho => rfl); (case hg => rfl); (case hn => rfl); (case hr => first | (go_simp; done) | (go_simp; rfl)); intro wE hw; have HXE := Aside0.mk (show wE.heap[gc]? = some (.cells #[.int .i64 m0, .int .i64 m1, .int .i64 m2, .int .i64 (wrap64 (m3 + 1))] 39 (0, 0)) from by rw [hw]; exact blk_put HX9.out 3 _ rfl); obtain ⟨hle, hqe, hbe⟩ := put39 (HL.out.drewN (nd9 + nd8)) (HQ.out.drewN (nd9 + nd8)) (pw_below_drewN HB.out (nd9 + nd8)) HGC.out.1 HGC.out.2 HX9.out hw; have HLE := Aside0.mk hle; have HQE := Aside0.mk hqe; have HBE := Aside0.mk hbe; clear hle hqe hbe hw))
                go_roundg (e + 1)
                case measure => have := HK2.out; omega
                case rel => exact ⟨y + 1, e, c + 1, m0, m1, m2, (wrap64 (m3 + 1)), by rw [HWY.out], ⟨by have := HY.out; omega, by have := HY.out; omega⟩, ⟨rfl⟩, ⟨by have := HC.out; have := HIN.out; have := HD.out.b; have := HY.out; omega⟩, HXE, ⟨by rw [cnt_succ, HES.out, if_neg (by decide), ← HM.out.1, Int.add_zero], by rw [cnt_succ, HES.out, if_neg (by decide), ← HM.out.2.1, Int.add_zero], by rw [cnt_succ, HES.out, if_neg (by decide), ← HM.out.2.2.1, Int.add_zero], by rw [cnt_succ, HES.out, if_pos rfl, ← HM.out.2.2.2]; exact HWM.out⟩, HLE, HQE, HBE⟩
            · have HIO := Aside0.mk (show y < 0 ∨ (s2.E.length : Int) ≤ y by have := HRL.out.lenE; omega)
              have hii : decide (0 ≤ y ∧ y < (r2.S.length : Int)) = false := decide_eq_false (by have := HRL.out.lenS; omega)
              have HIN := Aside0.mk hin
              clear hin
              go_wp2_with (first | (go_at_call 12; (with_reducible refine (State_out HL.out y HIO.out).mono ?_); rintro e w9 ⟨rfl, ⟨nd9, rfl⟩⟩) | (go_at_call 13; (with_reducible refine (qIs_calls y (HQ.out.drewN _)).mono ?_); rintro e w9 ⟨rfl, hd9⟩; rw [hii]; have HL9 := Aside0.mk ((HL.out.drewN nd9).below hd9.below); have HQ9 := Aside0.mk ((HQ.out.drewN nd9).below hd9.below); have HB9 := Aside0.mk (below_step (pw_below_drewN HB.out nd9) hd9.below); have HX9 := Aside0.mk (blk_below (blk_drewN HX.out nd9) hd9.below); clear hd9))
              go_roundg (e + 1)
              case measure => have := HK2.out; omega
              case rel => exact ⟨y + 1, e, c, m0, m1, m2, m3, by rw [HWY.out], ⟨by have := HY.out; omega, by have := HY.out; omega⟩, ⟨rfl⟩, ⟨by have := HC.out; have := HIN.out; have := HD.out.b; have := HY.out; omega⟩, HX9, HM, HL9, HQ9, HB9⟩
end Go.Proofs.Ytpjmmmgjiaallaa.M
