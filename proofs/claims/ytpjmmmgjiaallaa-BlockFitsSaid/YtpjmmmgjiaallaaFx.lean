/-
  BlockFits: the law's walk.
-/
import Derived.Test.YtpjmmmgjiaallaaBw
import Derived.Test.YtpjmmmgjiaallaaBf
namespace Go.Proofs.Ytpjmmmgjiaallaa.M
open Go.RowKit Go.Proofs.Ytpjmmmgjiaallaa.Bl Go.Proofs.YtpjmmmgjiaallaaW.PrintWords Go.Proofs.YtpjmmmgjiaallaaW.PrintLast Go.Proofs.YtpjmmmgjiaallaaW.PrintMore
set_option linter.unusedVariables false
set_option linter.unusedSimpArgs false
theorem box4L {lo : Nat} {w wb ws : World} {g gb : Nat} {s : Lg} {u0 u1 u2 u3 : Value} (hL : IsL lo wb g s) (hB : Below w.heap.size w wb) (h1 : g < gb) (h2 : w.heap.size ≤ gb) (hX : wb.heap[gb]? = some (.cells #[.int .i64 0, .int .i64 0, .int .i64 0, .int .i64 0] 31 (0, 0))) (hw : ws = (((wb.setCell ⟨gb, 0, none⟩ u0).setCell ⟨gb, 1, none⟩ u1).setCell ⟨gb, 2, none⟩ u2).setCell ⟨gb, 3, none⟩ u3) :
    IsL lo ws g s ∧ Below w.heap.size w ws ∧ ws.heap[gb]? = some (.cells #[u0, u1, u2, u3] 31 (0, 0)) := by
  subst hw
  exact ⟨(((hL.far h1 _ _).far h1 _ _).far h1 _ _).far h1 _ _, below_set (below_set (below_set (below_set hB h2) h2) h2) h2, blk_put (blk_put (blk_put (blk_put hX 0 u0 rfl) 1 u1 rfl) 2 u2 rfl) 3 u3 rfl⟩
set_option maxHeartbeats 16000000 in
set_option maxRecDepth 100000 in
theorem fits (a0 : Int) (hby : 0 ≤ a0 ∧ a0 ≤ 255) (A : Option Addr) (n1 c1 : Nat) (l : List S31) (w : World) (hn : n1 = l.length) (hd : Dos w A l) :
    Calls Try.prog 4 #[.int .u8 a0, .slice A n1 c1] w fun e w' => e = .returned (.bool true) ∧ Below w.heap.size w w' := by
  subst hn
  have HDS := Aside0.mk hd
  have HB := Aside0.mk (Below.refl w.heap.size w)
  obtain ⟨n, hn⟩ : ∃ n, n = Int.tmod a0 20 + 1 := ⟨_, rfl⟩
  have hm20 : Int.tmod a0 20 = a0 % 20 := Int.tmod_eq_emod_of_nonneg hby.1
  have hnr : 1 ≤ n ∧ n ≤ 20 := by rw [hn, hm20]; omega
  have h0a : wrap64 a0 = a0 := w64s (by omega) (by omega)
  have h0b : IntKind.i64.wrap a0 = a0 := by rw [IntKind.wrap_i64]; omega
  obtain ⟨q0, hq0⟩ : ∃ q0, q0 = Int.tmod a0 20 := ⟨_, rfl⟩
  have h1a : Int.tmod a0 20 = q0 := hq0.symm
  have h1c : wrap64 q0 = q0 := w64s (by omega) (by omega)
  have h1b : wrap64 (q0 + 1) = n := by rw [hn, hq0]; exact w64s (by omega) (by omega)
  have HD := Aside0.mk (show Dim n 4 from ⟨⟨hnr.1, by omega⟩, by decide⟩)
  have HOK := Aside0.mk (show newOk n 4 from ⟨⟨hnr.1, by omega⟩, by decide⟩)
  clear hd hn hm20 hnr hby hq0
  by_cases e1 : (80 : Int) < (l.length : Int)
  · have f1 : decide ((80 : Int) < (l.length : Int)) = true := decide_eq_true e1
    have f1' := eq_true (show 80 < l.length by omega)
    clear e1
    go_enter Try.func4, Try.ntmps4
    go_wp2_with (first | (go_at_call 5; (with_reducible refine (awake_calls _).mono ?_); rintro e wa ⟨rfl, hb⟩; replace HB := Aside0.mk (below_step HB.out hb); clear hb) | (go_at_call 15; (with_reducible refine (Take_nil _).mono ?_); rintro e wd ⟨rfl, hd⟩; replace HB := Aside0.mk (below_step HB.out hd.below); clear hd) | (go_at_call 16; (with_reducible refine (Set_nil 0 0 0 _).mono ?_); rintro e wd ⟨rfl, hd⟩; replace HB := Aside0.mk (below_step HB.out hd.below); clear hd) | (go_at_call 17; (with_reducible refine (Advance_nil 0 _).mono ?_); rintro e wd ⟨rfl, hd⟩; replace HB := Aside0.mk (below_step HB.out hd); clear hd) | (go_at_call 18; (with_reducible refine (Close_nil _).mono ?_); rintro e wd ⟨rfl, hd⟩; replace HB := Aside0.mk (below_step HB.out hd); clear hd) | (go_at_call 19; (with_reducible refine (Fail_nil _).mono ?_); rintro e wd ⟨rfl, hd⟩; replace HB := Aside0.mk (below_step HB.out hd); clear hd) | (go_at_call 20; (with_reducible refine (Free_nil 0 _).mono ?_); rintro e wd ⟨rfl, hd⟩; replace HB := Aside0.mk (below_step HB.out hd.below); clear hd) | (go_at_call 14; (with_reducible refine (Count_nil 0 _).mono ?_); rintro e wd ⟨rfl, hd⟩; replace HB := Aside0.mk (below_step HB.out hd.below); clear hd) | (go_at_call 10; (with_reducible refine (Spread_nil _).mono ?_); rintro e wd ⟨rfl, hd⟩; replace HB := Aside0.mk (below_step HB.out hd.below); clear hd))
    go_ret
    exact ⟨by first | rfl | (simp; done) | (simp [f1']; done), HB.out⟩
  have f1 : decide ((80 : Int) < (l.length : Int)) = false := decide_eq_false e1
  have HLEN := Aside0.mk (show (l.length : Int) ≤ 80 by omega)
  clear e1
  go_enter Try.func4, Try.ntmps4
  go_wp2_with (first | (go_at_call 5; (with_reducible refine (awake_calls _).mono ?_); rintro e wa ⟨rfl, hb⟩; replace HB := Aside0.mk (below_step HB.out hb); clear hb) | (go_at_call 15; (with_reducible refine (Take_nil _).mono ?_); rintro e wd ⟨rfl, hd⟩; replace HB := Aside0.mk (below_step HB.out hd.below); clear hd) | (go_at_call 16; (with_reducible refine (Set_nil 0 0 0 _).mono ?_); rintro e wd ⟨rfl, hd⟩; replace HB := Aside0.mk (below_step HB.out hd.below); clear hd) | (go_at_call 17; (with_reducible refine (Advance_nil 0 _).mono ?_); rintro e wd ⟨rfl, hd⟩; replace HB := Aside0.mk (below_step HB.out hd); clear hd) | (go_at_call 18; (with_reducible refine (Close_nil _).mono ?_); rintro e wd ⟨rfl, hd⟩; replace HB := Aside0.mk (below_step HB.out hd); clear hd) | (go_at_call 19; (with_reducible refine (Fail_nil _).mono ?_); rintro e wd ⟨rfl, hd⟩; replace HB := Aside0.mk (below_step HB.out hd); clear hd) | (go_at_call 20; (with_reducible refine (Free_nil 0 _).mono ?_); rintro e wd ⟨rfl, hd⟩; replace HB := Aside0.mk (below_step HB.out hd.below); clear hd) | (go_at_call 14; (with_reducible refine (Count_nil 0 _).mono ?_); rintro e wd ⟨rfl, hd⟩; replace HB := Aside0.mk (below_step HB.out hd.below); clear hd) | (go_at_call 10; (with_reducible refine (Spread_nil _).mono ?_); rintro e wd ⟨rfl, hd⟩; replace HB := Aside0.mk (below_step HB.out hd.below); clear hd) | (go_at_call 6; (with_reducible refine (New_calls n 4 _ HOK.out).mono ?_); rintro e wn ⟨g, rfl, hI, hb⟩; have HL := Aside0.mk (hI.lower HB.out.size); replace HB := Aside0.mk (below_step HB.out hb); clear hI hb))
  clear f1 h0a h0b h1a h1b h1c
  go_loopg [88] (l.length + 1) (fun kq v88 w' => ∃ (i : Int) (d : Nat) (s : Lg) (r : Rg), v88 = .int .i64 i ∧ Aside0 (0 ≤ i ∧ i + d = l.length) ∧ Aside0 (kq = d + 1) ∧ Aside0 (IsL w.heap.size w' g s) ∧ Aside0 (Rel n 4 i s r) ∧ Aside0 (Below w.heap.size w w'))
  case atStart => exact ⟨0, l.length, _, _, rfl, ⟨Int.le_refl _, Int.zero_add _⟩, ⟨rfl⟩, HL, ⟨new_rel HD.out⟩, HB⟩
  case round =>
    obtain ⟨i, d, s, r, rfl, Hn, HK, HL, HR, HB⟩ := hrel
    cases d with
    | zero =>
      have hb : decide (i < (l.length : Int)) = false := decide_eq_false (by have := Hn.out; omega)
      go_wp2
      go_ret
      exact ⟨by first | rfl | (simp; done), HB.out⟩
    | succ d =>
      have hb : decide (i < (l.length : Int)) = true := decide_eq_true (by have := Hn.out; omega)
      have p1 := eq_true Hn.out.1
      have p2 := eq_true (show i < (l.length : Int) by have := Hn.out; omega)
      obtain ⟨ad, x, e1, x0, x1, x2, x3⟩ := HDS.out.at_ HB.out i Hn.out.1 (by have := Hn.out; omega)
      cases e1
      have hw : wrap64 (i + 1) = i + 1 := w64s (by have := Hn.out; omega) (by have := Hn.out; have := HLEN.out; omega)
      have HW := Aside0.mk hw
      have ht : 0 ≤ i ∧ i ≤ 1000 := by have := Hn.out; have := HLEN.out; omega
      have HSO := Aside0.mk (show (0 ≤ s.opn ∧ s.opn ≤ (s.E.length : Int)) ∧ s.E.length < 1000000 by have := HR.out.op; have := HR.out.opr; have := HR.out.lenE; have := HD.out.b; omega)
      have hrl := step_rel HD.out HR.out ht x.f0 x.f1 x.f2 x.f3
      obtain ⟨⟨s2, r2⟩, hs2⟩ : ∃ z, z = doStep s r x.f0 x.f1 x.f2 x.f3 := ⟨_, rfl⟩
      rw [← hs2] at hrl
      dsimp only at hrl
      have HRL := Aside0.mk hrl
      have hlen2 : s2.E.length < 1000000 := by have := hrl.lenE; have := HD.out.b; omega
      have hdb := HD.out.b
      have hl2 := hrl.lenE
      have hcnt : ∀ (z m : Int), m = cnt s2.E z s2.E.length 0 → ∀ W, IsL w.heap.size W g s2 → Calls Try.prog 14 #[.pointer (some ⟨g, 0, none⟩), .int .i64 z] W fun e w' => e = .returned (.int .i64 m) ∧ Below W.heap.size W w' := fun z m hm W h1 => by
        have := Count_calls z h1 hlen2
        rw [← hm] at this
        exact this
      have hcopen := cnt_open hrl
      have hcall := cnt_all hrl
      obtain ⟨m0, hm0_⟩ : ∃ m0, m0 = cnt s2.E 0 s2.E.length 0 := ⟨_, rfl⟩
      obtain ⟨m1, hm1_⟩ : ∃ m1, m1 = cnt s2.E 1 s2.E.length 0 := ⟨_, rfl⟩
      obtain ⟨m2, hm2_⟩ : ∃ m2, m2 = cnt s2.E 2 s2.E.length 0 := ⟨_, rfl⟩
      obtain ⟨m3, hm3_⟩ : ∃ m3, m3 = cnt s2.E 3 s2.E.length 0 := ⟨_, rfl⟩
      clear hw
      obtain ⟨ob, oc, oo, hoa, hoe, hor⟩ : ∃ (ob : Bool) (oc oo : Int), (∀ W, IsL w.heap.size W g s2 → Calls Try.prog 9 #[.pointer (some ⟨g, 0, none⟩)] W fun e w' => e = .returned (.tuple #[.int .i64 oo, .int .i64 oc, .bool ob]) ∧ Drawn0 W w') ∧ ((m1 == 1) = ob ∧ (m1 = 0 ∨ m1 = 1)) ∧ 0 ≤ oc ∧ oc ≤ 4 := by
        by_cases hop : 0 ≤ r2.opn
        · rw [if_pos hop] at hcopen
          exact ⟨true, r2.cur, r2.opn, fun W hW => Open_open hW hrl hop (by have := HD.out.b; omega), ⟨by rw [hm1_, hcopen]; rfl, .inr (by rw [hm1_, hcopen])⟩, hrl.cur⟩
        · rw [if_neg hop] at hcopen
          exact ⟨false, 0, 0, fun W hW => Open_none hW hrl (by omega), ⟨by rw [hm1_, hcopen]; rfl, .inl (by rw [hm1_, hcopen])⟩, by decide⟩
      have hc5 : decide (oc < 0) = false := decide_eq_false (by omega)
      have hc6 : decide (4 < oc) = false := decide_eq_false (by omega)
      have hc7 : decide (1 < m1) = false := decide_eq_false (by omega)
      have hc8 := hoe.1
      have HOA := Aside0.mk hoa
      have hsum := hcall
      rw [← hm0_, ← hm1_, ← hm2_, ← hm3_] at hsum
      have hr0 := cnt_rng s2.E 0 s2.E.length 0
      have hr2_ := cnt_rng s2.E 2 s2.E.length 0
      have hr3 := cnt_rng s2.E 3 s2.E.length 0
      rw [← hm0_] at hr0
      rw [← hm2_] at hr2_
      rw [← hm3_] at hr3
      have HC0 := Aside0.mk (hcnt 0 m0 hm0_)
      have HC1 := Aside0.mk (hcnt 1 m1 hm1_)
      have HC2 := Aside0.mk (hcnt 2 m2 hm2_)
      have HC3 := Aside0.mk (hcnt 3 m3 hm3_)
      obtain ⟨u1, hu1⟩ : ∃ u1, u1 = m0 + m1 := ⟨_, rfl⟩
      obtain ⟨u2, hu2⟩ : ∃ u2, u2 = u1 + m2 := ⟨_, rfl⟩
      have ha1 : wrap64 (m0 + m1) = u1 := by rw [hu1]; exact w64s (by omega) (by omega)
      have ha2 : wrap64 (u1 + m2) = u2 := by rw [hu2]; exact w64s (by omega) (by omega)
      have ha3 : wrap64 (u2 + m3) = n := by rw [show u2 + m3 = n by omega]; exact w64s (by omega) (by omega)
      clear hoa hoe hor hcopen hcall hsum hr0 hr2_ hr3 hm0_ hm1_ hm2_ hm3_ hu1 hu2 hcnt
      by_cases e1 : x.f0 = 1
      · have g1 : (x.f0 == 1) = true := beq_iff_eq.mpr e1
        rw [show doStep s r x.f0 x.f1 x.f2 x.f3 = ((setR s x.f1 x.f2 x.f3).2, (qSet r x.f1 x.f2 x.f3).2) by unfold doStep; rw [if_pos e1]] at hs2
        clear e1
        have hq2 : s2 = ((setR s x.f1 x.f2 x.f3).2, (qSet r x.f1 x.f2 x.f3).2).1 := congrArg Prod.fst hs2
        have hst : ∀ W, IsL w.heap.size W g s → Calls Try.prog 16 #[.pointer (some ⟨g, 0, none⟩), .int .i64 x.f1, .int .i64 x.f2, .int .i64 x.f3] W fun e w' => e = .returned (.int .i64 ((setR s x.f1 x.f2 x.f3).1)) ∧ IsL w.heap.size w' g s2 ∧ Below w.heap.size W w' := fun W hW => (Set_calls x.f1 x.f2 x.f3 hW).mono fun e w' ⟨z1, z2, z3, _⟩ => ⟨z1, by rw [hq2]; exact z2, z3⟩
        have HST := Aside0.mk hst
        clear hst hq2 hs2 hrl hdb hl2 hlen2 ht
        go_wp2_with (first | ((with_reducible refine gate_dst (N := 12) rfl ?_); refine box_event ?hg (N := 12) ?hd (cs := #[.int .i64 0, .int .i64 0, .int .i64 0, .int .i64 0]) (t := 31) ?hr ?_; (case hd => rfl); (case hg => rfl); (case hr => first | (go_simp; done) | (go_simp; rfl)); intro gb hg wb hbox hb; have HG1 := Aside0.mk (show g < gb ∧ w.heap.size ≤ gb from ⟨by rw [hg]; exact HL.out.lt, by rw [hg]; exact HB.out.size⟩); replace HL := Aside0.mk (HL.out.below hb); replace HB := Aside0.mk (below_step HB.out hb); have HX1 := Aside0.mk hbox; have hcx0 : wb.cell? ⟨gb, 0, none⟩ = some (.int .i64 0) := (blk_cell hbox 0).trans rfl; have hfx0 := blk_frozen hbox 0; have hcx1 : wb.cell? ⟨gb, 1, none⟩ = some (.int .i64 0) := (blk_cell hbox 1).trans rfl; have hfx1 := blk_frozen hbox 1; have hcx2 : wb.cell? ⟨gb, 2, none⟩ = some (.int .i64 0) := (blk_cell hbox 2).trans rfl; have hfx2 := blk_frozen hbox 2; have hcx3 : wb.cell? ⟨gb, 3, none⟩ = some (.int .i64 0) := (blk_cell hbox 3).trans rfl; have hfx3 := blk_frozen hbox 3; clear hbox hb hg) | ((with_reducible refine gate_store (t := 31) (p := 12) rfl ?_); refine store_event (t := 31) (p := 12) (v := .tmp 91) (w1 := (((wb.setCell ⟨gb, 0, none⟩ (.int .i64 x.f0)).setCell ⟨gb, 1, none⟩ (.int .i64 x.f1)).setCell ⟨gb, 2, none⟩ (.int .i64 x.f2)).setCell ⟨gb, 3, none⟩ (.int .i64 x.f3)) ?hg ?ho ?hn ?hr ?_; (case ho => rfl); (case hg => rfl); (case hn => rfl); (case hr => first | (go_simp; done) | (go_simp; rfl)); intro ws hw; obtain ⟨hl2, hb2, hx2⟩ := box4L HL.out HB.out HG1.out.1 HG1.out.2 HX1.out hw; replace HL := Aside0.mk hl2; replace HB := Aside0.mk hb2; have hys0 : ws.cell? ⟨gb, 0, none⟩ = some (.int .i64 x.f0) := (blk_cell hx2 0).trans rfl; have hys1 : ws.cell? ⟨gb, 1, none⟩ = some (.int .i64 x.f1) := (blk_cell hx2 1).trans rfl; have hys2 : ws.cell? ⟨gb, 2, none⟩ = some (.int .i64 x.f2) := (blk_cell hx2 2).trans rfl; have hys3 : ws.cell? ⟨gb, 3, none⟩ = some (.int .i64 x.f3) := (blk_cell hx2 3).trans rfl; clear hl2 hb2 hx2 hw HX1 hcx0 hcx1 hcx2 hcx3 hfx0 hfx1 hfx2 hfx3) | (go_at_call 16; (first | (with_reducible refine (HST.out _ HL.out).mono ?_)); rintro e w9 ⟨rfl, hl9, hb9⟩; replace HL := Aside0.mk hl9; replace HB := Aside0.mk (below_trans HB.out hb9); clear hl9 hb9) | (go_at_call 14; (first | (with_reducible refine (HC0.out _ HL.out).mono ?_) | (with_reducible refine (HC1.out _ HL.out).mono ?_) | (with_reducible refine (HC2.out _ HL.out).mono ?_) | (with_reducible refine (HC3.out _ HL.out).mono ?_)); rintro e w9 ⟨rfl, hb9⟩; replace HL := Aside0.mk (HL.out.below hb9); replace HB := Aside0.mk (below_step HB.out hb9); clear hb9) | (go_at_call 9; (first | (with_reducible refine (HOA.out _ HL.out).mono ?_)); rintro e w9 ⟨rfl, hb9⟩; replace HL := Aside0.mk (HL.out.below hb9.below); replace HB := Aside0.mk (below_step HB.out hb9.below); clear hb9))
        go_roundg (d + 1)
        case measure => have := HK.out; omega
        case rel => exact ⟨i + 1, d, s2, r2, by rw [HW.out], ⟨by have := Hn.out; omega, by have := Hn.out; omega⟩, ⟨rfl⟩, HL, HRL, HB⟩
      have g1 : (x.f0 == 1) = false := beq_eq_false_iff_ne.mpr e1
      by_cases e2 : x.f0 = 2
      · have g2 : (x.f0 == 2) = true := beq_iff_eq.mpr e2
        rw [show doStep s r x.f0 x.f1 x.f2 x.f3 = ((takeR s).2.2, (qTake r).2) by unfold doStep; rw [if_neg e1, if_pos e2]] at hs2
        clear e1 e2
        have hq2 : s2 = (takeR s).2.2 := congrArg Prod.fst hs2
        have hr2 : r2 = (qTake r).2 := congrArg Prod.snd hs2
        have htk := took HD.out HR.out ht
        obtain ⟨b, hb_⟩ : ∃ b, b = (takeR s).1 := ⟨_, rfl⟩
        obtain ⟨ok, hok_⟩ : ∃ ok, ok = (takeR s).2.1 := ⟨_, rfl⟩
        rw [← hq2, ← hr2, ← hb_, ← hok_] at htk
        have hst : ∀ W, IsL w.heap.size W g s → Calls Try.prog 15 #[.pointer (some ⟨g, 0, none⟩)] W fun e w' => e = .returned (.tuple #[.int .i64 b, .bool ok]) ∧ IsL w.heap.size w' g s2 ∧ Below w.heap.size W w' := fun W hW => (Take_calls hW HSO.out.2).mono fun e w' ⟨z1, z2, z3, _⟩ => ⟨by rw [hb_, hok_]; exact z1, by rw [hq2]; exact z2, z3⟩
        have HST := Aside0.mk hst
        obtain ⟨q, hq_⟩ : ∃ q, q = qSpread r := ⟨_, rfl⟩
        obtain ⟨p, hp_⟩ : ∃ p, p = qSpread r2 := ⟨_, rfl⟩
        obtain ⟨m, hm_⟩ : ∃ m, m = cnt s.E 0 s.E.length 0 := ⟨_, rfl⟩
        have hspb : ∀ W, IsL w.heap.size W g s → Calls Try.prog 10 #[.pointer (some ⟨g, 0, none⟩)] W fun e w' => e = .returned (.int .i64 q) ∧ Below W.heap.size W w' := fun W h1 => by
          have := Spread_calls h1 HSO.out.2
          rw [spread_same HD.out HR.out ht.2, ← hq_] at this
          exact this
        have hspa : ∀ W, IsL w.heap.size W g s2 → Calls Try.prog 10 #[.pointer (some ⟨g, 0, none⟩)] W fun e w' => e = .returned (.int .i64 p) ∧ Below W.heap.size W w' := fun W h1 => by
          have := Spread_calls h1 hlen2
          rw [spread_same HD.out hrl (by have := Hn.out; have := HLEN.out; omega), ← hp_] at this
          exact this
        have hcb : ∀ W, IsL w.heap.size W g s → Calls Try.prog 14 #[.pointer (some ⟨g, 0, none⟩), .int .i64 0] W fun e w' => e = .returned (.int .i64 m) ∧ Below W.heap.size W w' := fun W h1 => by
          have := Count_calls 0 h1 HSO.out.2
          rw [← hm_] at this
          exact this
        have hsb : ∀ W, IsL w.heap.size W g s2 → Calls Try.prog 12 #[.pointer (some ⟨g, 0, none⟩), .int .i64 b] W fun e w' => e = .returned (.tuple #[.int .i64 (eS s2.E b), .int .i64 (eE s2.E b), .bool true]) ∧ Drawn0 W w' := fun W h1 => State_in h1 b htk.rng.1 (by have := htk.rng.2; have := hrl.lenE; omega)
        have hszz : ∀ z, 0 ≤ z → z < n → ∀ W, IsL w.heap.size W g s2 → Calls Try.prog 12 #[.pointer (some ⟨g, 0, none⟩), .int .i64 z] W fun e w' => e = .returned (.tuple #[.int .i64 (eS s2.E z), .int .i64 (eE s2.E z), .bool true]) ∧ Drawn0 W w' := fun z z0 z1 W h1 => State_in h1 z z0 (by have := hrl.lenE; omega)
        obtain ⟨q1, hq1_⟩ : ∃ q1, q1 = q + 1 := ⟨_, rfl⟩
        have hlow := htk.low
        have hspr := htk.spread
        rw [← hq_] at hlow hspr
        rw [← hp_] at hspr
        have hwq : wrap64 (q + 1) = q1 := by rw [hq1_]; exact w64s (by omega) (by omega)
        have hdq : decide (q1 < p) = false := decide_eq_false (by omega)
        have hkk := hrl.er b htk.rng.1 htk.rng.2
        have hkr := hrl.erg b htk.rng.1 htk.rng.2
        obtain ⟨kk, hkk_⟩ : ∃ kk, kk = eE s2.E b - 1 := ⟨_, rfl⟩
        have hwk : wrap64 (eE s2.E b - 1) = kk := by rw [hkk_]; exact w64s (by rw [hkk]; omega) (by rw [hkk]; have := Hn.out; have := HLEN.out; omega)
        have HTK := Aside0.mk htk
        have HKK := Aside0.mk hkk_
        have HSPB := Aside0.mk hspb
        have HSPA := Aside0.mk hspa
        have HCB := Aside0.mk hcb
        have HSB := Aside0.mk hsb
        have HSZ := Aside0.mk hszz
        have hokk := htk.ok_
        rw [← hm_] at hokk
        clear hst hspb hspa hcb hsb hszz hq1_ hlow hspr hkk hkr hkk_ htk hq_ hp_ hm_ hb_ hok_ hq2 hr2 hs2 hrl hdb hl2 hlen2 ht
        obtain ⟨obs, os1, os2, hob, hobs⟩ : ∃ (obs : Bool) (os1 os2 : Int), (∀ W, IsL w.heap.size W g s → Calls Try.prog 9 #[.pointer (some ⟨g, 0, none⟩)] W fun e w' => e = .returned (.tuple #[.int .i64 os1, .int .i64 os2, .bool obs]) ∧ Drawn0 W w') ∧ obs = decide (0 ≤ r.opn) := by
          by_cases ho0 : 0 ≤ r.opn
          · exact ⟨true, r.opn, r.cur, fun W hW => Open_open hW HR.out ho0 (by have := HD.out.b; omega), (decide_eq_true ho0).symm⟩
          · exact ⟨false, 0, 0, fun W hW => Open_none hW HR.out (by omega), (decide_eq_false ho0).symm⟩
        rw [← hobs] at hokk
        clear hobs HR
        by_cases hm0 : 0 < m
        · have hm1 : decide (0 < m) = true := decide_eq_true hm0
          rw [hm1] at hokk
          clear hm0
          cases obs with
          | true =>
            obtain rfl : ok = false := hokk
            have HOB := Aside0.mk hob
            clear hob
            (try clear hokk)
            go_wp2_with (first | ((with_reducible refine gate_dst (N := 12) rfl ?_); refine box_event ?hg (N := 12) ?hd (cs := #[.int .i64 0, .int .i64 0, .int .i64 0, .int .i64 0]) (t := 31) ?hr ?_; (case hd => rfl); (case hg => rfl); (case hr => first | (go_simp; done) | (go_simp; rfl)); intro gb hg wb hbox hb; have HG1 := Aside0.mk (show g < gb ∧ w.heap.size ≤ gb from ⟨by rw [hg]; exact HL.out.lt, by rw [hg]; exact HB.out.size⟩); replace HL := Aside0.mk (HL.out.below hb); replace HB := Aside0.mk (below_step HB.out hb); have HX1 := Aside0.mk hbox; have hcx0 : wb.cell? ⟨gb, 0, none⟩ = some (.int .i64 0) := (blk_cell hbox 0).trans rfl; have hfx0 := blk_frozen hbox 0; have hcx1 : wb.cell? ⟨gb, 1, none⟩ = some (.int .i64 0) := (blk_cell hbox 1).trans rfl; have hfx1 := blk_frozen hbox 1; have hcx2 : wb.cell? ⟨gb, 2, none⟩ = some (.int .i64 0) := (blk_cell hbox 2).trans rfl; have hfx2 := blk_frozen hbox 2; have hcx3 : wb.cell? ⟨gb, 3, none⟩ = some (.int .i64 0) := (blk_cell hbox 3).trans rfl; have hfx3 := blk_frozen hbox 3; clear hbox hb hg) | ((with_reducible refine gate_store (t := 31) (p := 12) rfl ?_); refine store_event (t := 31) (p := 12) (v := .tmp 91) (w1 := (((wb.setCell ⟨gb, 0, none⟩ (.int .i64 x.f0)).setCell ⟨gb, 1, none⟩ (.int .i64 x.f1)).setCell ⟨gb, 2, none⟩ (.int .i64 x.f2)).setCell ⟨gb, 3, none⟩ (.int .i64 x.f3)) ?hg ?ho ?hn ?hr ?_; (case ho => rfl); (case hg => rfl); (case hn => rfl); (case hr => first | (go_simp; done) | (go_simp; rfl)); intro ws hw; obtain ⟨hl2, hb2, hx2⟩ := box4L HL.out HB.out HG1.out.1 HG1.out.2 HX1.out hw; replace HL := Aside0.mk hl2; replace HB := Aside0.mk hb2; have hys0 : ws.cell? ⟨gb, 0, none⟩ = some (.int .i64 x.f0) := (blk_cell hx2 0).trans rfl; have hys1 : ws.cell? ⟨gb, 1, none⟩ = some (.int .i64 x.f1) := (blk_cell hx2 1).trans rfl; have hys2 : ws.cell? ⟨gb, 2, none⟩ = some (.int .i64 x.f2) := (blk_cell hx2 2).trans rfl; have hys3 : ws.cell? ⟨gb, 3, none⟩ = some (.int .i64 x.f3) := (blk_cell hx2 3).trans rfl; clear hl2 hb2 hx2 hw HX1 hcx0 hcx1 hcx2 hcx3 hfx0 hfx1 hfx2 hfx3) | (go_at_call 10; (first | (with_reducible refine (HSPB.out _ HL.out).mono ?_) | (with_reducible refine (HSPA.out _ HL.out).mono ?_)); rintro e w9 ⟨rfl, hb9⟩; replace HL := Aside0.mk (HL.out.below hb9); replace HB := Aside0.mk (below_step HB.out hb9); clear hb9) | (go_at_call 14; (first | (with_reducible refine (HCB.out _ HL.out).mono ?_) | (with_reducible refine (HC0.out _ HL.out).mono ?_) | (with_reducible refine (HC1.out _ HL.out).mono ?_) | (with_reducible refine (HC2.out _ HL.out).mono ?_) | (with_reducible refine (HC3.out _ HL.out).mono ?_)); rintro e w9 ⟨rfl, hb9⟩; replace HL := Aside0.mk (HL.out.below hb9); replace HB := Aside0.mk (below_step HB.out hb9); clear hb9) | (go_at_call 9; (first | (with_reducible refine (HOB.out _ HL.out).mono ?_) | (with_reducible refine (HOA.out _ HL.out).mono ?_)); rintro e w9 ⟨rfl, hb9⟩; replace HL := Aside0.mk (HL.out.below hb9.below); replace HB := Aside0.mk (below_step HB.out hb9.below); clear hb9) | (go_at_call 15; (first | (with_reducible refine (HST.out _ HL.out).mono ?_)); rintro e w9 ⟨rfl, hl9, hb9⟩; replace HL := Aside0.mk hl9; replace HB := Aside0.mk (below_trans HB.out hb9); clear hl9 hb9) | (go_at_call 12; (first | (with_reducible refine (HSB.out _ HL.out).mono ?_)); rintro e w9 ⟨rfl, hb9⟩; replace HL := Aside0.mk (HL.out.below hb9.below); replace HB := Aside0.mk (below_step HB.out hb9.below); clear hb9))
            go_loopg [144] (n.toNat + 1) (fun kq v144 w' => ∃ (z : Int) (e : Nat), v144 = .int .i64 z ∧ Aside0 (0 ≤ z ∧ z + e = n) ∧ Aside0 (kq = e + 1) ∧ Aside0 (IsL w.heap.size w' g s2) ∧ Aside0 (Below w.heap.size w w'))
            case atStart => exact ⟨0, n.toNat, rfl, ⟨Int.le_refl _, by have := HD.out.b; omega⟩, ⟨rfl⟩, HL, HB⟩
            case round =>
              clear hwq hdq
              obtain ⟨z, e, rfl, HZ, HK3, HL, HB⟩ := hrel
              cases e with
              | zero =>
                have hb3 : decide (z < n) = false := decide_eq_false (by have := HZ.out; omega)
                go_wp2_with (first | (go_at_call 14; (first | (with_reducible refine (HC0.out _ HL.out).mono ?_) | (with_reducible refine (HC1.out _ HL.out).mono ?_) | (with_reducible refine (HC2.out _ HL.out).mono ?_) | (with_reducible refine (HC3.out _ HL.out).mono ?_)); rintro e w9 ⟨rfl, hb9⟩; replace HL := Aside0.mk (HL.out.below hb9); replace HB := Aside0.mk (below_step HB.out hb9); clear hb9) | (go_at_call 9; (first | (with_reducible refine (HOA.out _ HL.out).mono ?_)); rintro e w9 ⟨rfl, hb9⟩; replace HL := Aside0.mk (HL.out.below hb9.below); replace HB := Aside0.mk (below_step HB.out hb9.below); clear hb9))
                go_roundg (d + 1)
                case measure => have := HK.out; omega
                case rel => exact ⟨i + 1, d, s2, r2, by rw [HW.out], ⟨by have := Hn.out; omega, by have := Hn.out; omega⟩, ⟨rfl⟩, HL, HRL, HB⟩
              | succ e =>
                have hb3 : decide (z < n) = true := decide_eq_true (by have := HZ.out; omega)
                have hwz : wrap64 (z + 1) = z + 1 := w64s (by have := HZ.out; omega) (by have := HZ.out; have := HD.out.b; omega)
                have HWZ := Aside0.mk hwz
                have HZZ := Aside0.mk (HSZ.out z HZ.out.1 (by have := HZ.out; omega))
                clear hwz
                go_wp2_with (first | (go_at_call 12; (first | (with_reducible refine (HZZ.out _ HL.out).mono ?_)); rintro e w9 ⟨rfl, hb9⟩; replace HL := Aside0.mk (HL.out.below hb9.below); replace HB := Aside0.mk (below_step HB.out hb9.below); clear hb9))
                go_roundg (e + 1)
                case measure => have := HK3.out; omega
                case rel => exact ⟨z + 1, e, by rw [HWZ.out], ⟨by have := HZ.out; omega, by have := HZ.out; omega⟩, ⟨rfl⟩, HL, HB⟩
          | false =>
            obtain rfl : ok = true := hokk
            have HOB := Aside0.mk hob
            clear hob
            (try clear hokk)
            go_wp2_with (first | ((with_reducible refine gate_dst (N := 12) rfl ?_); refine box_event ?hg (N := 12) ?hd (cs := #[.int .i64 0, .int .i64 0, .int .i64 0, .int .i64 0]) (t := 31) ?hr ?_; (case hd => rfl); (case hg => rfl); (case hr => first | (go_simp; done) | (go_simp; rfl)); intro gb hg wb hbox hb; have HG1 := Aside0.mk (show g < gb ∧ w.heap.size ≤ gb from ⟨by rw [hg]; exact HL.out.lt, by rw [hg]; exact HB.out.size⟩); replace HL := Aside0.mk (HL.out.below hb); replace HB := Aside0.mk (below_step HB.out hb); have HX1 := Aside0.mk hbox; have hcx0 : wb.cell? ⟨gb, 0, none⟩ = some (.int .i64 0) := (blk_cell hbox 0).trans rfl; have hfx0 := blk_frozen hbox 0; have hcx1 : wb.cell? ⟨gb, 1, none⟩ = some (.int .i64 0) := (blk_cell hbox 1).trans rfl; have hfx1 := blk_frozen hbox 1; have hcx2 : wb.cell? ⟨gb, 2, none⟩ = some (.int .i64 0) := (blk_cell hbox 2).trans rfl; have hfx2 := blk_frozen hbox 2; have hcx3 : wb.cell? ⟨gb, 3, none⟩ = some (.int .i64 0) := (blk_cell hbox 3).trans rfl; have hfx3 := blk_frozen hbox 3; clear hbox hb hg) | ((with_reducible refine gate_store (t := 31) (p := 12) rfl ?_); refine store_event (t := 31) (p := 12) (v := .tmp 91) (w1 := (((wb.setCell ⟨gb, 0, none⟩ (.int .i64 x.f0)).setCell ⟨gb, 1, none⟩ (.int .i64 x.f1)).setCell ⟨gb, 2, none⟩ (.int .i64 x.f2)).setCell ⟨gb, 3, none⟩ (.int .i64 x.f3)) ?hg ?ho ?hn ?hr ?_; (case ho => rfl); (case hg => rfl); (case hn => rfl); (case hr => first | (go_simp; done) | (go_simp; rfl)); intro ws hw; obtain ⟨hl2, hb2, hx2⟩ := box4L HL.out HB.out HG1.out.1 HG1.out.2 HX1.out hw; replace HL := Aside0.mk hl2; replace HB := Aside0.mk hb2; have hys0 : ws.cell? ⟨gb, 0, none⟩ = some (.int .i64 x.f0) := (blk_cell hx2 0).trans rfl; have hys1 : ws.cell? ⟨gb, 1, none⟩ = some (.int .i64 x.f1) := (blk_cell hx2 1).trans rfl; have hys2 : ws.cell? ⟨gb, 2, none⟩ = some (.int .i64 x.f2) := (blk_cell hx2 2).trans rfl; have hys3 : ws.cell? ⟨gb, 3, none⟩ = some (.int .i64 x.f3) := (blk_cell hx2 3).trans rfl; clear hl2 hb2 hx2 hw HX1 hcx0 hcx1 hcx2 hcx3 hfx0 hfx1 hfx2 hfx3) | (go_at_call 10; (first | (with_reducible refine (HSPB.out _ HL.out).mono ?_) | (with_reducible refine (HSPA.out _ HL.out).mono ?_)); rintro e w9 ⟨rfl, hb9⟩; replace HL := Aside0.mk (HL.out.below hb9); replace HB := Aside0.mk (below_step HB.out hb9); clear hb9) | (go_at_call 14; (first | (with_reducible refine (HCB.out _ HL.out).mono ?_) | (with_reducible refine (HC0.out _ HL.out).mono ?_) | (with_reducible refine (HC1.out _ HL.out).mono ?_) | (with_reducible refine (HC2.out _ HL.out).mono ?_) | (with_reducible refine (HC3.out _ HL.out).mono ?_)); rintro e w9 ⟨rfl, hb9⟩; replace HL := Aside0.mk (HL.out.below hb9); replace HB := Aside0.mk (below_step HB.out hb9); clear hb9) | (go_at_call 9; (first | (with_reducible refine (HOB.out _ HL.out).mono ?_) | (with_reducible refine (HOA.out _ HL.out).mono ?_)); rintro e w9 ⟨rfl, hb9⟩; replace HL := Aside0.mk (HL.out.below hb9.below); replace HB := Aside0.mk (below_step HB.out hb9.below); clear hb9) | (go_at_call 15; (first | (with_reducible refine (HST.out _ HL.out).mono ?_)); rintro e w9 ⟨rfl, hl9, hb9⟩; replace HL := Aside0.mk hl9; replace HB := Aside0.mk (below_trans HB.out hb9); clear hl9 hb9) | (go_at_call 12; (first | (with_reducible refine (HSB.out _ HL.out).mono ?_)); rintro e w9 ⟨rfl, hb9⟩; replace HL := Aside0.mk (HL.out.below hb9.below); replace HB := Aside0.mk (below_step HB.out hb9.below); clear hb9))
            go_loopg [144] (n.toNat + 1) (fun kq v144 w' => ∃ (z : Int) (e : Nat), v144 = .int .i64 z ∧ Aside0 (0 ≤ z ∧ z + e = n) ∧ Aside0 (kq = e + 1) ∧ Aside0 (IsL w.heap.size w' g s2) ∧ Aside0 (Below w.heap.size w w'))
            case atStart => exact ⟨0, n.toNat, rfl, ⟨Int.le_refl _, by have := HD.out.b; omega⟩, ⟨rfl⟩, HL, HB⟩
            case round =>
              clear hwq hdq
              obtain ⟨z, e, rfl, HZ, HK3, HL, HB⟩ := hrel
              cases e with
              | zero =>
                have hb3 : decide (z < n) = false := decide_eq_false (by have := HZ.out; omega)
                go_wp2_with (first | (go_at_call 14; (first | (with_reducible refine (HC0.out _ HL.out).mono ?_) | (with_reducible refine (HC1.out _ HL.out).mono ?_) | (with_reducible refine (HC2.out _ HL.out).mono ?_) | (with_reducible refine (HC3.out _ HL.out).mono ?_)); rintro e w9 ⟨rfl, hb9⟩; replace HL := Aside0.mk (HL.out.below hb9); replace HB := Aside0.mk (below_step HB.out hb9); clear hb9) | (go_at_call 9; (first | (with_reducible refine (HOA.out _ HL.out).mono ?_)); rintro e w9 ⟨rfl, hb9⟩; replace HL := Aside0.mk (HL.out.below hb9.below); replace HB := Aside0.mk (below_step HB.out hb9.below); clear hb9))
                go_roundg (d + 1)
                case measure => have := HK.out; omega
                case rel => exact ⟨i + 1, d, s2, r2, by rw [HW.out], ⟨by have := Hn.out; omega, by have := Hn.out; omega⟩, ⟨rfl⟩, HL, HRL, HB⟩
              | succ e =>
                have hb3 : decide (z < n) = true := decide_eq_true (by have := HZ.out; omega)
                have hwz : wrap64 (z + 1) = z + 1 := w64s (by have := HZ.out; omega) (by have := HZ.out; have := HD.out.b; omega)
                have HWZ := Aside0.mk hwz
                have HZZ := Aside0.mk (HSZ.out z HZ.out.1 (by have := HZ.out; omega))
                clear hwz
                by_cases hf : eS s2.E z = 0
                · have hf1 : (eS s2.E z == 0) = true := beq_iff_eq.mpr hf
                  have hf2 : decide (eE s2.E z < kk) = false := decide_eq_false (by have := HTK.out.least rfl z HZ.out.1 (by have := HZ.out; omega) hf; have := HKK.out; omega)
                  clear hf
                  go_wp2_with (first | (go_at_call 12; (first | (with_reducible refine (HZZ.out _ HL.out).mono ?_)); rintro e w9 ⟨rfl, hb9⟩; replace HL := Aside0.mk (HL.out.below hb9.below); replace HB := Aside0.mk (below_step HB.out hb9.below); clear hb9))
                  go_roundg (e + 1)
                  case measure => have := HK3.out; omega
                  case rel => exact ⟨z + 1, e, by rw [HWZ.out], ⟨by have := HZ.out; omega, by have := HZ.out; omega⟩, ⟨rfl⟩, HL, HB⟩
                · have hf1 : (eS s2.E z == 0) = false := beq_eq_false_iff_ne.mpr hf
                  clear hf
                  go_wp2_with (first | (go_at_call 12; (first | (with_reducible refine (HZZ.out _ HL.out).mono ?_)); rintro e w9 ⟨rfl, hb9⟩; replace HL := Aside0.mk (HL.out.below hb9.below); replace HB := Aside0.mk (below_step HB.out hb9.below); clear hb9))
                  go_roundg (e + 1)
                  case measure => have := HK3.out; omega
                  case rel => exact ⟨z + 1, e, by rw [HWZ.out], ⟨by have := HZ.out; omega, by have := HZ.out; omega⟩, ⟨rfl⟩, HL, HB⟩
        · have hm1 : decide (0 < m) = false := decide_eq_false hm0
          rw [hm1] at hokk
          obtain rfl : ok = false := hokk
          clear hm0
          have HOB := Aside0.mk hob
          clear hob
          (try clear hokk)
          go_wp2_with (first | ((with_reducible refine gate_dst (N := 12) rfl ?_); refine box_event ?hg (N := 12) ?hd (cs := #[.int .i64 0, .int .i64 0, .int .i64 0, .int .i64 0]) (t := 31) ?hr ?_; (case hd => rfl); (case hg => rfl); (case hr => first | (go_simp; done) | (go_simp; rfl)); intro gb hg wb hbox hb; have HG1 := Aside0.mk (show g < gb ∧ w.heap.size ≤ gb from ⟨by rw [hg]; exact HL.out.lt, by rw [hg]; exact HB.out.size⟩); replace HL := Aside0.mk (HL.out.below hb); replace HB := Aside0.mk (below_step HB.out hb); have HX1 := Aside0.mk hbox; have hcx0 : wb.cell? ⟨gb, 0, none⟩ = some (.int .i64 0) := (blk_cell hbox 0).trans rfl; have hfx0 := blk_frozen hbox 0; have hcx1 : wb.cell? ⟨gb, 1, none⟩ = some (.int .i64 0) := (blk_cell hbox 1).trans rfl; have hfx1 := blk_frozen hbox 1; have hcx2 : wb.cell? ⟨gb, 2, none⟩ = some (.int .i64 0) := (blk_cell hbox 2).trans rfl; have hfx2 := blk_frozen hbox 2; have hcx3 : wb.cell? ⟨gb, 3, none⟩ = some (.int .i64 0) := (blk_cell hbox 3).trans rfl; have hfx3 := blk_frozen hbox 3; clear hbox hb hg) | ((with_reducible refine gate_store (t := 31) (p := 12) rfl ?_); refine store_event (t := 31) (p := 12) (v := .tmp 91) (w1 := (((wb.setCell ⟨gb, 0, none⟩ (.int .i64 x.f0)).setCell ⟨gb, 1, none⟩ (.int .i64 x.f1)).setCell ⟨gb, 2, none⟩ (.int .i64 x.f2)).setCell ⟨gb, 3, none⟩ (.int .i64 x.f3)) ?hg ?ho ?hn ?hr ?_; (case ho => rfl); (case hg => rfl); (case hn => rfl); (case hr => first | (go_simp; done) | (go_simp; rfl)); intro ws hw; obtain ⟨hl2, hb2, hx2⟩ := box4L HL.out HB.out HG1.out.1 HG1.out.2 HX1.out hw; replace HL := Aside0.mk hl2; replace HB := Aside0.mk hb2; have hys0 : ws.cell? ⟨gb, 0, none⟩ = some (.int .i64 x.f0) := (blk_cell hx2 0).trans rfl; have hys1 : ws.cell? ⟨gb, 1, none⟩ = some (.int .i64 x.f1) := (blk_cell hx2 1).trans rfl; have hys2 : ws.cell? ⟨gb, 2, none⟩ = some (.int .i64 x.f2) := (blk_cell hx2 2).trans rfl; have hys3 : ws.cell? ⟨gb, 3, none⟩ = some (.int .i64 x.f3) := (blk_cell hx2 3).trans rfl; clear hl2 hb2 hx2 hw HX1 hcx0 hcx1 hcx2 hcx3 hfx0 hfx1 hfx2 hfx3) | (go_at_call 10; (first | (with_reducible refine (HSPB.out _ HL.out).mono ?_) | (with_reducible refine (HSPA.out _ HL.out).mono ?_)); rintro e w9 ⟨rfl, hb9⟩; replace HL := Aside0.mk (HL.out.below hb9); replace HB := Aside0.mk (below_step HB.out hb9); clear hb9) | (go_at_call 14; (first | (with_reducible refine (HCB.out _ HL.out).mono ?_) | (with_reducible refine (HC0.out _ HL.out).mono ?_) | (with_reducible refine (HC1.out _ HL.out).mono ?_) | (with_reducible refine (HC2.out _ HL.out).mono ?_) | (with_reducible refine (HC3.out _ HL.out).mono ?_)); rintro e w9 ⟨rfl, hb9⟩; replace HL := Aside0.mk (HL.out.below hb9); replace HB := Aside0.mk (below_step HB.out hb9); clear hb9) | (go_at_call 9; (first | (with_reducible refine (HOB.out _ HL.out).mono ?_) | (with_reducible refine (HOA.out _ HL.out).mono ?_)); rintro e w9 ⟨rfl, hb9⟩; replace HL := Aside0.mk (HL.out.below hb9.below); replace HB := Aside0.mk (below_step HB.out hb9.below); clear hb9) | (go_at_call 15; (first | (with_reducible refine (HST.out _ HL.out).mono ?_)); rintro e w9 ⟨rfl, hl9, hb9⟩; replace HL := Aside0.mk hl9; replace HB := Aside0.mk (below_trans HB.out hb9); clear hl9 hb9) | (go_at_call 12; (first | (with_reducible refine (HSB.out _ HL.out).mono ?_)); rintro e w9 ⟨rfl, hb9⟩; replace HL := Aside0.mk (HL.out.below hb9.below); replace HB := Aside0.mk (below_step HB.out hb9.below); clear hb9))
          go_loopg [144] (n.toNat + 1) (fun kq v144 w' => ∃ (z : Int) (e : Nat), v144 = .int .i64 z ∧ Aside0 (0 ≤ z ∧ z + e = n) ∧ Aside0 (kq = e + 1) ∧ Aside0 (IsL w.heap.size w' g s2) ∧ Aside0 (Below w.heap.size w w'))
          case atStart => exact ⟨0, n.toNat, rfl, ⟨Int.le_refl _, by have := HD.out.b; omega⟩, ⟨rfl⟩, HL, HB⟩
          case round =>
            clear hwq hdq
            obtain ⟨z, e, rfl, HZ, HK3, HL, HB⟩ := hrel
            cases e with
            | zero =>
              have hb3 : decide (z < n) = false := decide_eq_false (by have := HZ.out; omega)
              go_wp2_with (first | (go_at_call 14; (first | (with_reducible refine (HC0.out _ HL.out).mono ?_) | (with_reducible refine (HC1.out _ HL.out).mono ?_) | (with_reducible refine (HC2.out _ HL.out).mono ?_) | (with_reducible refine (HC3.out _ HL.out).mono ?_)); rintro e w9 ⟨rfl, hb9⟩; replace HL := Aside0.mk (HL.out.below hb9); replace HB := Aside0.mk (below_step HB.out hb9); clear hb9) | (go_at_call 9; (first | (with_reducible refine (HOA.out _ HL.out).mono ?_)); rintro e w9 ⟨rfl, hb9⟩; replace HL := Aside0.mk (HL.out.below hb9.below); replace HB := Aside0.mk (below_step HB.out hb9.below); clear hb9))
              go_roundg (d + 1)
              case measure => have := HK.out; omega
              case rel => exact ⟨i + 1, d, s2, r2, by rw [HW.out], ⟨by have := Hn.out; omega, by have := Hn.out; omega⟩, ⟨rfl⟩, HL, HRL, HB⟩
            | succ e =>
              have hb3 : decide (z < n) = true := decide_eq_true (by have := HZ.out; omega)
              have hwz : wrap64 (z + 1) = z + 1 := w64s (by have := HZ.out; omega) (by have := HZ.out; have := HD.out.b; omega)
              have HWZ := Aside0.mk hwz
              have HZZ := Aside0.mk (HSZ.out z HZ.out.1 (by have := HZ.out; omega))
              clear hwz
              go_wp2_with (first | (go_at_call 12; (first | (with_reducible refine (HZZ.out _ HL.out).mono ?_)); rintro e w9 ⟨rfl, hb9⟩; replace HL := Aside0.mk (HL.out.below hb9.below); replace HB := Aside0.mk (below_step HB.out hb9.below); clear hb9))
              go_roundg (e + 1)
              case measure => have := HK3.out; omega
              case rel => exact ⟨z + 1, e, by rw [HWZ.out], ⟨by have := HZ.out; omega, by have := HZ.out; omega⟩, ⟨rfl⟩, HL, HB⟩
      have g2 : (x.f0 == 2) = false := beq_eq_false_iff_ne.mpr e2
      by_cases e3 : x.f0 = 3
      · have g3 : (x.f0 == 3) = true := beq_iff_eq.mpr e3
        rw [show doStep s r x.f0 x.f1 x.f2 x.f3 = ((advR s x.f1).2, (qAdv r x.f1).2) by unfold doStep; rw [if_neg e1, if_neg e2, if_pos e3]] at hs2
        clear e1 e2 e3
        have hq2 : s2 = ((advR s x.f1).2, (qAdv r x.f1).2).1 := congrArg Prod.fst hs2
        have hst : ∀ W, IsL w.heap.size W g s → Calls Try.prog 17 #[.pointer (some ⟨g, 0, none⟩), .int .i64 x.f1] W fun e w' => e = .returned (.int .i64 ((advR s x.f1).1)) ∧ IsL w.heap.size w' g s2 ∧ Below w.heap.size W w' := fun W hW => (Advance_calls x.f1 hW HSO.out.1 HSO.out.2).mono fun e w' ⟨z1, z2, z3, _⟩ => ⟨z1, by rw [hq2]; exact z2, z3⟩
        have HST := Aside0.mk hst
        clear hst hq2 hs2 hrl hdb hl2 hlen2 ht
        go_wp2_with (first | ((with_reducible refine gate_dst (N := 12) rfl ?_); refine box_event ?hg (N := 12) ?hd (cs := #[.int .i64 0, .int .i64 0, .int .i64 0, .int .i64 0]) (t := 31) ?hr ?_; (case hd => rfl); (case hg => rfl); (case hr => first | (go_simp; done) | (go_simp; rfl)); intro gb hg wb hbox hb; have HG1 := Aside0.mk (show g < gb ∧ w.heap.size ≤ gb from ⟨by rw [hg]; exact HL.out.lt, by rw [hg]; exact HB.out.size⟩); replace HL := Aside0.mk (HL.out.below hb); replace HB := Aside0.mk (below_step HB.out hb); have HX1 := Aside0.mk hbox; have hcx0 : wb.cell? ⟨gb, 0, none⟩ = some (.int .i64 0) := (blk_cell hbox 0).trans rfl; have hfx0 := blk_frozen hbox 0; have hcx1 : wb.cell? ⟨gb, 1, none⟩ = some (.int .i64 0) := (blk_cell hbox 1).trans rfl; have hfx1 := blk_frozen hbox 1; have hcx2 : wb.cell? ⟨gb, 2, none⟩ = some (.int .i64 0) := (blk_cell hbox 2).trans rfl; have hfx2 := blk_frozen hbox 2; have hcx3 : wb.cell? ⟨gb, 3, none⟩ = some (.int .i64 0) := (blk_cell hbox 3).trans rfl; have hfx3 := blk_frozen hbox 3; clear hbox hb hg) | ((with_reducible refine gate_store (t := 31) (p := 12) rfl ?_); refine store_event (t := 31) (p := 12) (v := .tmp 91) (w1 := (((wb.setCell ⟨gb, 0, none⟩ (.int .i64 x.f0)).setCell ⟨gb, 1, none⟩ (.int .i64 x.f1)).setCell ⟨gb, 2, none⟩ (.int .i64 x.f2)).setCell ⟨gb, 3, none⟩ (.int .i64 x.f3)) ?hg ?ho ?hn ?hr ?_; (case ho => rfl); (case hg => rfl); (case hn => rfl); (case hr => first | (go_simp; done) | (go_simp; rfl)); intro ws hw; obtain ⟨hl2, hb2, hx2⟩ := box4L HL.out HB.out HG1.out.1 HG1.out.2 HX1.out hw; replace HL := Aside0.mk hl2; replace HB := Aside0.mk hb2; have hys0 : ws.cell? ⟨gb, 0, none⟩ = some (.int .i64 x.f0) := (blk_cell hx2 0).trans rfl; have hys1 : ws.cell? ⟨gb, 1, none⟩ = some (.int .i64 x.f1) := (blk_cell hx2 1).trans rfl; have hys2 : ws.cell? ⟨gb, 2, none⟩ = some (.int .i64 x.f2) := (blk_cell hx2 2).trans rfl; have hys3 : ws.cell? ⟨gb, 3, none⟩ = some (.int .i64 x.f3) := (blk_cell hx2 3).trans rfl; clear hl2 hb2 hx2 hw HX1 hcx0 hcx1 hcx2 hcx3 hfx0 hfx1 hfx2 hfx3) | (go_at_call 17; (first | (with_reducible refine (HST.out _ HL.out).mono ?_)); rintro e w9 ⟨rfl, hl9, hb9⟩; replace HL := Aside0.mk hl9; replace HB := Aside0.mk (below_trans HB.out hb9); clear hl9 hb9) | (go_at_call 14; (first | (with_reducible refine (HC0.out _ HL.out).mono ?_) | (with_reducible refine (HC1.out _ HL.out).mono ?_) | (with_reducible refine (HC2.out _ HL.out).mono ?_) | (with_reducible refine (HC3.out _ HL.out).mono ?_)); rintro e w9 ⟨rfl, hb9⟩; replace HL := Aside0.mk (HL.out.below hb9); replace HB := Aside0.mk (below_step HB.out hb9); clear hb9) | (go_at_call 9; (first | (with_reducible refine (HOA.out _ HL.out).mono ?_)); rintro e w9 ⟨rfl, hb9⟩; replace HL := Aside0.mk (HL.out.below hb9.below); replace HB := Aside0.mk (below_step HB.out hb9.below); clear hb9))
        go_roundg (d + 1)
        case measure => have := HK.out; omega
        case rel => exact ⟨i + 1, d, s2, r2, by rw [HW.out], ⟨by have := Hn.out; omega, by have := Hn.out; omega⟩, ⟨rfl⟩, HL, HRL, HB⟩
      have g3 : (x.f0 == 3) = false := beq_eq_false_iff_ne.mpr e3
      by_cases e4 : x.f0 = 4
      · have g4 : (x.f0 == 4) = true := beq_iff_eq.mpr e4
        rw [show doStep s r x.f0 x.f1 x.f2 x.f3 = ((endR s 2).2, (qEnd r 2).2) by unfold doStep; rw [if_neg e1, if_neg e2, if_neg e3, if_pos e4]] at hs2
        clear e1 e2 e3 e4
        have hq2 : s2 = ((endR s 2).2, (qEnd r 2).2).1 := congrArg Prod.fst hs2
        have hst : ∀ W, IsL w.heap.size W g s → Calls Try.prog 18 #[.pointer (some ⟨g, 0, none⟩)] W fun e w' => e = .returned (.int .i64 ((endR s 2).1)) ∧ IsL w.heap.size w' g s2 ∧ Below w.heap.size W w' := fun W hW => (Close_calls hW HSO.out.1 HSO.out.2).mono fun e w' ⟨z1, z2, z3, _⟩ => ⟨z1, by rw [hq2]; exact z2, z3⟩
        have HST := Aside0.mk hst
        clear hst hq2 hs2 hrl hdb hl2 hlen2 ht
        go_wp2_with (first | ((with_reducible refine gate_dst (N := 12) rfl ?_); refine box_event ?hg (N := 12) ?hd (cs := #[.int .i64 0, .int .i64 0, .int .i64 0, .int .i64 0]) (t := 31) ?hr ?_; (case hd => rfl); (case hg => rfl); (case hr => first | (go_simp; done) | (go_simp; rfl)); intro gb hg wb hbox hb; have HG1 := Aside0.mk (show g < gb ∧ w.heap.size ≤ gb from ⟨by rw [hg]; exact HL.out.lt, by rw [hg]; exact HB.out.size⟩); replace HL := Aside0.mk (HL.out.below hb); replace HB := Aside0.mk (below_step HB.out hb); have HX1 := Aside0.mk hbox; have hcx0 : wb.cell? ⟨gb, 0, none⟩ = some (.int .i64 0) := (blk_cell hbox 0).trans rfl; have hfx0 := blk_frozen hbox 0; have hcx1 : wb.cell? ⟨gb, 1, none⟩ = some (.int .i64 0) := (blk_cell hbox 1).trans rfl; have hfx1 := blk_frozen hbox 1; have hcx2 : wb.cell? ⟨gb, 2, none⟩ = some (.int .i64 0) := (blk_cell hbox 2).trans rfl; have hfx2 := blk_frozen hbox 2; have hcx3 : wb.cell? ⟨gb, 3, none⟩ = some (.int .i64 0) := (blk_cell hbox 3).trans rfl; have hfx3 := blk_frozen hbox 3; clear hbox hb hg) | ((with_reducible refine gate_store (t := 31) (p := 12) rfl ?_); refine store_event (t := 31) (p := 12) (v := .tmp 91) (w1 := (((wb.setCell ⟨gb, 0, none⟩ (.int .i64 x.f0)).setCell ⟨gb, 1, none⟩ (.int .i64 x.f1)).setCell ⟨gb, 2, none⟩ (.int .i64 x.f2)).setCell ⟨gb, 3, none⟩ (.int .i64 x.f3)) ?hg ?ho ?hn ?hr ?_; (case ho => rfl); (case hg => rfl); (case hn => rfl); (case hr => first | (go_simp; done) | (go_simp; rfl)); intro ws hw; obtain ⟨hl2, hb2, hx2⟩ := box4L HL.out HB.out HG1.out.1 HG1.out.2 HX1.out hw; replace HL := Aside0.mk hl2; replace HB := Aside0.mk hb2; have hys0 : ws.cell? ⟨gb, 0, none⟩ = some (.int .i64 x.f0) := (blk_cell hx2 0).trans rfl; have hys1 : ws.cell? ⟨gb, 1, none⟩ = some (.int .i64 x.f1) := (blk_cell hx2 1).trans rfl; have hys2 : ws.cell? ⟨gb, 2, none⟩ = some (.int .i64 x.f2) := (blk_cell hx2 2).trans rfl; have hys3 : ws.cell? ⟨gb, 3, none⟩ = some (.int .i64 x.f3) := (blk_cell hx2 3).trans rfl; clear hl2 hb2 hx2 hw HX1 hcx0 hcx1 hcx2 hcx3 hfx0 hfx1 hfx2 hfx3) | (go_at_call 18; (first | (with_reducible refine (HST.out _ HL.out).mono ?_)); rintro e w9 ⟨rfl, hl9, hb9⟩; replace HL := Aside0.mk hl9; replace HB := Aside0.mk (below_trans HB.out hb9); clear hl9 hb9) | (go_at_call 14; (first | (with_reducible refine (HC0.out _ HL.out).mono ?_) | (with_reducible refine (HC1.out _ HL.out).mono ?_) | (with_reducible refine (HC2.out _ HL.out).mono ?_) | (with_reducible refine (HC3.out _ HL.out).mono ?_)); rintro e w9 ⟨rfl, hb9⟩; replace HL := Aside0.mk (HL.out.below hb9); replace HB := Aside0.mk (below_step HB.out hb9); clear hb9) | (go_at_call 9; (first | (with_reducible refine (HOA.out _ HL.out).mono ?_)); rintro e w9 ⟨rfl, hb9⟩; replace HL := Aside0.mk (HL.out.below hb9.below); replace HB := Aside0.mk (below_step HB.out hb9.below); clear hb9))
        go_roundg (d + 1)
        case measure => have := HK.out; omega
        case rel => exact ⟨i + 1, d, s2, r2, by rw [HW.out], ⟨by have := Hn.out; omega, by have := Hn.out; omega⟩, ⟨rfl⟩, HL, HRL, HB⟩
      have g4 : (x.f0 == 4) = false := beq_eq_false_iff_ne.mpr e4
      by_cases e5 : x.f0 = 5
      · have g5 : (x.f0 == 5) = true := beq_iff_eq.mpr e5
        rw [show doStep s r x.f0 x.f1 x.f2 x.f3 = ((endR s 3).2, (qEnd r 3).2) by unfold doStep; rw [if_neg e1, if_neg e2, if_neg e3, if_neg e4, if_pos e5]] at hs2
        clear e1 e2 e3 e4 e5
        have hq2 : s2 = ((endR s 3).2, (qEnd r 3).2).1 := congrArg Prod.fst hs2
        have hst : ∀ W, IsL w.heap.size W g s → Calls Try.prog 19 #[.pointer (some ⟨g, 0, none⟩)] W fun e w' => e = .returned (.int .i64 ((endR s 3).1)) ∧ IsL w.heap.size w' g s2 ∧ Below w.heap.size W w' := fun W hW => (Fail_calls hW HSO.out.1 HSO.out.2).mono fun e w' ⟨z1, z2, z3, _⟩ => ⟨z1, by rw [hq2]; exact z2, z3⟩
        have HST := Aside0.mk hst
        clear hst hq2 hs2 hrl hdb hl2 hlen2 ht
        go_wp2_with (first | ((with_reducible refine gate_dst (N := 12) rfl ?_); refine box_event ?hg (N := 12) ?hd (cs := #[.int .i64 0, .int .i64 0, .int .i64 0, .int .i64 0]) (t := 31) ?hr ?_; (case hd => rfl); (case hg => rfl); (case hr => first | (go_simp; done) | (go_simp; rfl)); intro gb hg wb hbox hb; have HG1 := Aside0.mk (show g < gb ∧ w.heap.size ≤ gb from ⟨by rw [hg]; exact HL.out.lt, by rw [hg]; exact HB.out.size⟩); replace HL := Aside0.mk (HL.out.below hb); replace HB := Aside0.mk (below_step HB.out hb); have HX1 := Aside0.mk hbox; have hcx0 : wb.cell? ⟨gb, 0, none⟩ = some (.int .i64 0) := (blk_cell hbox 0).trans rfl; have hfx0 := blk_frozen hbox 0; have hcx1 : wb.cell? ⟨gb, 1, none⟩ = some (.int .i64 0) := (blk_cell hbox 1).trans rfl; have hfx1 := blk_frozen hbox 1; have hcx2 : wb.cell? ⟨gb, 2, none⟩ = some (.int .i64 0) := (blk_cell hbox 2).trans rfl; have hfx2 := blk_frozen hbox 2; have hcx3 : wb.cell? ⟨gb, 3, none⟩ = some (.int .i64 0) := (blk_cell hbox 3).trans rfl; have hfx3 := blk_frozen hbox 3; clear hbox hb hg) | ((with_reducible refine gate_store (t := 31) (p := 12) rfl ?_); refine store_event (t := 31) (p := 12) (v := .tmp 91) (w1 := (((wb.setCell ⟨gb, 0, none⟩ (.int .i64 x.f0)).setCell ⟨gb, 1, none⟩ (.int .i64 x.f1)).setCell ⟨gb, 2, none⟩ (.int .i64 x.f2)).setCell ⟨gb, 3, none⟩ (.int .i64 x.f3)) ?hg ?ho ?hn ?hr ?_; (case ho => rfl); (case hg => rfl); (case hn => rfl); (case hr => first | (go_simp; done) | (go_simp; rfl)); intro ws hw; obtain ⟨hl2, hb2, hx2⟩ := box4L HL.out HB.out HG1.out.1 HG1.out.2 HX1.out hw; replace HL := Aside0.mk hl2; replace HB := Aside0.mk hb2; have hys0 : ws.cell? ⟨gb, 0, none⟩ = some (.int .i64 x.f0) := (blk_cell hx2 0).trans rfl; have hys1 : ws.cell? ⟨gb, 1, none⟩ = some (.int .i64 x.f1) := (blk_cell hx2 1).trans rfl; have hys2 : ws.cell? ⟨gb, 2, none⟩ = some (.int .i64 x.f2) := (blk_cell hx2 2).trans rfl; have hys3 : ws.cell? ⟨gb, 3, none⟩ = some (.int .i64 x.f3) := (blk_cell hx2 3).trans rfl; clear hl2 hb2 hx2 hw HX1 hcx0 hcx1 hcx2 hcx3 hfx0 hfx1 hfx2 hfx3) | (go_at_call 19; (first | (with_reducible refine (HST.out _ HL.out).mono ?_)); rintro e w9 ⟨rfl, hl9, hb9⟩; replace HL := Aside0.mk hl9; replace HB := Aside0.mk (below_trans HB.out hb9); clear hl9 hb9) | (go_at_call 14; (first | (with_reducible refine (HC0.out _ HL.out).mono ?_) | (with_reducible refine (HC1.out _ HL.out).mono ?_) | (with_reducible refine (HC2.out _ HL.out).mono ?_) | (with_reducible refine (HC3.out _ HL.out).mono ?_)); rintro e w9 ⟨rfl, hb9⟩; replace HL := Aside0.mk (HL.out.below hb9); replace HB := Aside0.mk (below_step HB.out hb9); clear hb9) | (go_at_call 9; (first | (with_reducible refine (HOA.out _ HL.out).mono ?_)); rintro e w9 ⟨rfl, hb9⟩; replace HL := Aside0.mk (HL.out.below hb9.below); replace HB := Aside0.mk (below_step HB.out hb9.below); clear hb9))
        go_roundg (d + 1)
        case measure => have := HK.out; omega
        case rel => exact ⟨i + 1, d, s2, r2, by rw [HW.out], ⟨by have := Hn.out; omega, by have := Hn.out; omega⟩, ⟨rfl⟩, HL, HRL, HB⟩
      have g5 : (x.f0 == 5) = false := beq_eq_false_iff_ne.mpr e5
      by_cases e6 : x.f0 = 6
      · have g6 : (x.f0 == 6) = true := beq_iff_eq.mpr e6
        rw [show doStep s r x.f0 x.f1 x.f2 x.f3 = ((freeR s x.f1).2, (qFree r x.f1).2) by unfold doStep; rw [if_neg e1, if_neg e2, if_neg e3, if_neg e4, if_neg e5, if_pos e6]] at hs2
        clear e1 e2 e3 e4 e5 e6
        have hq2 : s2 = ((freeR s x.f1).2, (qFree r x.f1).2).1 := congrArg Prod.fst hs2
        have hst : ∀ W, IsL w.heap.size W g s → Calls Try.prog 20 #[.pointer (some ⟨g, 0, none⟩), .int .i64 x.f1] W fun e w' => e = .returned (.int .i64 ((freeR s x.f1).1)) ∧ IsL w.heap.size w' g s2 ∧ Below w.heap.size W w' := fun W hW => (Free_calls x.f1 hW).mono fun e w' ⟨z1, z2, z3, _⟩ => ⟨z1, by rw [hq2]; exact z2, z3⟩
        have HST := Aside0.mk hst
        clear hst hq2 hs2 hrl hdb hl2 hlen2 ht
        go_wp2_with (first | ((with_reducible refine gate_dst (N := 12) rfl ?_); refine box_event ?hg (N := 12) ?hd (cs := #[.int .i64 0, .int .i64 0, .int .i64 0, .int .i64 0]) (t := 31) ?hr ?_; (case hd => rfl); (case hg => rfl); (case hr => first | (go_simp; done) | (go_simp; rfl)); intro gb hg wb hbox hb; have HG1 := Aside0.mk (show g < gb ∧ w.heap.size ≤ gb from ⟨by rw [hg]; exact HL.out.lt, by rw [hg]; exact HB.out.size⟩); replace HL := Aside0.mk (HL.out.below hb); replace HB := Aside0.mk (below_step HB.out hb); have HX1 := Aside0.mk hbox; have hcx0 : wb.cell? ⟨gb, 0, none⟩ = some (.int .i64 0) := (blk_cell hbox 0).trans rfl; have hfx0 := blk_frozen hbox 0; have hcx1 : wb.cell? ⟨gb, 1, none⟩ = some (.int .i64 0) := (blk_cell hbox 1).trans rfl; have hfx1 := blk_frozen hbox 1; have hcx2 : wb.cell? ⟨gb, 2, none⟩ = some (.int .i64 0) := (blk_cell hbox 2).trans rfl; have hfx2 := blk_frozen hbox 2; have hcx3 : wb.cell? ⟨gb, 3, none⟩ = some (.int .i64 0) := (blk_cell hbox 3).trans rfl; have hfx3 := blk_frozen hbox 3; clear hbox hb hg) | ((with_reducible refine gate_store (t := 31) (p := 12) rfl ?_); refine store_event (t := 31) (p := 12) (v := .tmp 91) (w1 := (((wb.setCell ⟨gb, 0, none⟩ (.int .i64 x.f0)).setCell ⟨gb, 1, none⟩ (.int .i64 x.f1)).setCell ⟨gb, 2, none⟩ (.int .i64 x.f2)).setCell ⟨gb, 3, none⟩ (.int .i64 x.f3)) ?hg ?ho ?hn ?hr ?_; (case ho => rfl); (case hg => rfl); (case hn => rfl); (case hr => first | (go_simp; done) | (go_simp; rfl)); intro ws hw; obtain ⟨hl2, hb2, hx2⟩ := box4L HL.out HB.out HG1.out.1 HG1.out.2 HX1.out hw; replace HL := Aside0.mk hl2; replace HB := Aside0.mk hb2; have hys0 : ws.cell? ⟨gb, 0, none⟩ = some (.int .i64 x.f0) := (blk_cell hx2 0).trans rfl; have hys1 : ws.cell? ⟨gb, 1, none⟩ = some (.int .i64 x.f1) := (blk_cell hx2 1).trans rfl; have hys2 : ws.cell? ⟨gb, 2, none⟩ = some (.int .i64 x.f2) := (blk_cell hx2 2).trans rfl; have hys3 : ws.cell? ⟨gb, 3, none⟩ = some (.int .i64 x.f3) := (blk_cell hx2 3).trans rfl; clear hl2 hb2 hx2 hw HX1 hcx0 hcx1 hcx2 hcx3 hfx0 hfx1 hfx2 hfx3) | (go_at_call 20; (first | (with_reducible refine (HST.out _ HL.out).mono ?_)); rintro e w9 ⟨rfl, hl9, hb9⟩; replace HL := Aside0.mk hl9; replace HB := Aside0.mk (below_trans HB.out hb9); clear hl9 hb9) | (go_at_call 14; (first | (with_reducible refine (HC0.out _ HL.out).mono ?_) | (with_reducible refine (HC1.out _ HL.out).mono ?_) | (with_reducible refine (HC2.out _ HL.out).mono ?_) | (with_reducible refine (HC3.out _ HL.out).mono ?_)); rintro e w9 ⟨rfl, hb9⟩; replace HL := Aside0.mk (HL.out.below hb9); replace HB := Aside0.mk (below_step HB.out hb9); clear hb9) | (go_at_call 9; (first | (with_reducible refine (HOA.out _ HL.out).mono ?_)); rintro e w9 ⟨rfl, hb9⟩; replace HL := Aside0.mk (HL.out.below hb9.below); replace HB := Aside0.mk (below_step HB.out hb9.below); clear hb9))
        go_roundg (d + 1)
        case measure => have := HK.out; omega
        case rel => exact ⟨i + 1, d, s2, r2, by rw [HW.out], ⟨by have := Hn.out; omega, by have := Hn.out; omega⟩, ⟨rfl⟩, HL, HRL, HB⟩
      have g6 : (x.f0 == 6) = false := beq_eq_false_iff_ne.mpr e6
      rw [show doStep s r x.f0 x.f1 x.f2 x.f3 = (s, r) by unfold doStep; rw [if_neg e1, if_neg e2, if_neg e3, if_neg e4, if_neg e5, if_neg e6]] at hs2
      obtain rfl : s2 = s := congrArg Prod.fst hs2
      clear hs2 e1 e2 e3 e4 e5 e6 hrl hdb hl2 hlen2 ht
      go_wp2_with (first | ((with_reducible refine gate_dst (N := 12) rfl ?_); refine box_event ?hg (N := 12) ?hd (cs := #[.int .i64 0, .int .i64 0, .int .i64 0, .int .i64 0]) (t := 31) ?hr ?_; (case hd => rfl); (case hg => rfl); (case hr => first | (go_simp; done) | (go_simp; rfl)); intro gb hg wb hbox hb; have HG1 := Aside0.mk (show g < gb ∧ w.heap.size ≤ gb from ⟨by rw [hg]; exact HL.out.lt, by rw [hg]; exact HB.out.size⟩); replace HL := Aside0.mk (HL.out.below hb); replace HB := Aside0.mk (below_step HB.out hb); have HX1 := Aside0.mk hbox; have hcx0 : wb.cell? ⟨gb, 0, none⟩ = some (.int .i64 0) := (blk_cell hbox 0).trans rfl; have hfx0 := blk_frozen hbox 0; have hcx1 : wb.cell? ⟨gb, 1, none⟩ = some (.int .i64 0) := (blk_cell hbox 1).trans rfl; have hfx1 := blk_frozen hbox 1; have hcx2 : wb.cell? ⟨gb, 2, none⟩ = some (.int .i64 0) := (blk_cell hbox 2).trans rfl; have hfx2 := blk_frozen hbox 2; have hcx3 : wb.cell? ⟨gb, 3, none⟩ = some (.int .i64 0) := (blk_cell hbox 3).trans rfl; have hfx3 := blk_frozen hbox 3; clear hbox hb hg) | ((with_reducible refine gate_store (t := 31) (p := 12) rfl ?_); refine store_event (t := 31) (p := 12) (v := .tmp 91) (w1 := (((wb.setCell ⟨gb, 0, none⟩ (.int .i64 x.f0)).setCell ⟨gb, 1, none⟩ (.int .i64 x.f1)).setCell ⟨gb, 2, none⟩ (.int .i64 x.f2)).setCell ⟨gb, 3, none⟩ (.int .i64 x.f3)) ?hg ?ho ?hn ?hr ?_; (case ho => rfl); (case hg => rfl); (case hn => rfl); (case hr => first | (go_simp; done) | (go_simp; rfl)); intro ws hw; obtain ⟨hl2, hb2, hx2⟩ := box4L HL.out HB.out HG1.out.1 HG1.out.2 HX1.out hw; replace HL := Aside0.mk hl2; replace HB := Aside0.mk hb2; have hys0 : ws.cell? ⟨gb, 0, none⟩ = some (.int .i64 x.f0) := (blk_cell hx2 0).trans rfl; have hys1 : ws.cell? ⟨gb, 1, none⟩ = some (.int .i64 x.f1) := (blk_cell hx2 1).trans rfl; have hys2 : ws.cell? ⟨gb, 2, none⟩ = some (.int .i64 x.f2) := (blk_cell hx2 2).trans rfl; have hys3 : ws.cell? ⟨gb, 3, none⟩ = some (.int .i64 x.f3) := (blk_cell hx2 3).trans rfl; clear hl2 hb2 hx2 hw HX1 hcx0 hcx1 hcx2 hcx3 hfx0 hfx1 hfx2 hfx3) | (go_at_call 14; (first | (with_reducible refine (HC0.out _ HL.out).mono ?_) | (with_reducible refine (HC1.out _ HL.out).mono ?_) | (with_reducible refine (HC2.out _ HL.out).mono ?_) | (with_reducible refine (HC3.out _ HL.out).mono ?_)); rintro e w9 ⟨rfl, hb9⟩; replace HL := Aside0.mk (HL.out.below hb9); replace HB := Aside0.mk (below_step HB.out hb9); clear hb9) | (go_at_call 9; (first | (with_reducible refine (HOA.out _ HL.out).mono ?_)); rintro e w9 ⟨rfl, hb9⟩; replace HL := Aside0.mk (HL.out.below hb9.below); replace HB := Aside0.mk (below_step HB.out hb9.below); clear hb9))
      go_roundg (d + 1)
      case measure => have := HK.out; omega
      case rel => exact ⟨i + 1, d, s2, r2, by rw [HW.out], ⟨by have := Hn.out; omega, by have := Hn.out; omega⟩, ⟨rfl⟩, HL, HRL, HB⟩
end Go.Proofs.Ytpjmmmgjiaallaa.M
