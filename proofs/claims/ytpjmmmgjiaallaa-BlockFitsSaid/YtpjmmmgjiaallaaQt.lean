/-
  The reference's New, Take, Spread: what they answer and leave.
-/
import Derived.Test.YtpjmmmgjiaallaaQs
namespace Go.Proofs.Ytpjmmmgjiaallaa.M
open Go.RowKit Go.Proofs.YtpjmmmgjiaallaaW.PrintWords Go.Proofs.YtpjmmmgjiaallaaW.PrintLast Go.Proofs.YtpjmmmgjiaallaaW.PrintMore
set_option linter.unusedVariables false
set_option linter.unusedSimpArgs false
theorem RowI.ne_block {lo : Nat} {w : World} {v : Value} {xs : List Int} (hr : RowI w lo v xs) {h : Nat} {cs : Array Value} {t : TypeId} {fr : Nat × Nat} (hv : w.heap[h]? = some (.cells cs t fr)) (ht : t ≠ 3) : some h ≠ v.ownBlock := by
  intro e
  obtain ⟨_, h1, h2, q, hq, cells, hc⟩ := (Kd.R_bound hr).1 h e.symm
  obtain rfl : q = 3 := by
    have : q ∈ [3] := hq
    simpa using this
  rw [hv] at hc
  injection hc with hc
  injection hc with _ e2
  exact ht e2
theorem row_set37 {lo : Nat} {w : World} {v : Value} {xs : List Int} (hr : RowI w lo v xs) {h : Nat} {cs : Array Value} (hv : w.heap[h]? = some (.cells cs 37 (0, 0))) (j : Nat) (u : Value) : RowI (w.setCell ⟨h, j, none⟩ u) lo v xs :=
  Kd.R_set hr hv (fun q hq => by
    have : q ∈ [3] := hq
    simp at this
    subst this
    decide) j u
theorem disj_app {lo : Nat} {W : World} {v v1 v2 : Value} {ys : List Int} (h2 : RowI W lo v2 ys) (hd : ∀ k, v.ownBlock = some k → v2.ownBlock ≠ some k) (hat : v1.ownBlock = v.ownBlock ∨ ∃ b, v1.ownBlock = some b ∧ W.heap.size ≤ b) : ∀ k, v1.ownBlock = some k → v2.ownBlock ≠ some k := by
  intro k hk e
  rcases hat with h | ⟨b, hb, hl⟩
  · exact hd k (h ▸ hk) e
  · rw [hb] at hk
    injection hk with hk
    have := (Kd.R_bound h2).1 k e
    omega
theorem disj_app2 {lo : Nat} {W : World} {v v1 v2 : Value} {ys : List Int} (h1 : RowI W lo v1 ys) (hd : ∀ k, v1.ownBlock = some k → v.ownBlock ≠ some k) (hat : v2.ownBlock = v.ownBlock ∨ ∃ b, v2.ownBlock = some b ∧ W.heap.size ≤ b) : ∀ k, v1.ownBlock = some k → v2.ownBlock ≠ some k := by
  intro k hk e
  rcases hat with h | ⟨b, hb, hl⟩
  · exact hd k hk (h ▸ e)
  · rw [hb] at e
    injection e with e
    have := (Kd.R_bound h1).1 k hk
    omega
def qNew (n p : Int) : Rg := ⟨List.replicate n.toNat 0, List.replicate n.toNat 0, p, -1, 0⟩
set_option maxHeartbeats 8000000 in
set_option maxRecDepth 100000 in
theorem qNew_calls {w : World} (a0 a1 : Int) (h0 : 1 ≤ a0) (h1 : a0 < 1000000) :
    Calls Try.prog 7 #[.int .i64 a0, .int .i64 a1] w fun e w' => ∃ h : Nat, e = .returned (.pointer (some ⟨h, 0, none⟩)) ∧ IsQ w.heap.size w' h (qNew a0 a1) ∧ Below w.heap.size w w' := by
  obtain ⟨m, hm⟩ : ∃ m : Nat, (m : Int) = a0 := ⟨a0.toNat, by omega⟩
  have hnew : qNew a0 a1 = ⟨List.replicate m 0, List.replicate m 0, a1, -1, 0⟩ := by unfold qNew; rw [← hm]; rfl
  rw [hnew]
  have HL := Aside0.mk (show 1 ≤ m ∧ m < 1000000 ∧ (m : Int) = a0 by omega)
  clear h0 h1 hm hnew
  go_enter Try.func7, Try.ntmps7
  go_wp2
  go_loopg [6] (m + 1) (fun kq v6 w' => ∃ (x : Int) (n d : Nat) (v u : Value), v6 = .int .i64 x ∧ Aside0 (x = n ∧ n + d = m) ∧ Aside0 (kq = d + 1) ∧ Aside0 (w'.heap[w.heap.size]? = some (.cells #[v, u, .int .i64 a1, .int .i64 (-1), .int .i64 0] 37 (0, 0))) ∧ Aside0 (RowI w' w.heap.size v (List.replicate n 0)) ∧ Aside0 (RowI w' w.heap.size u (List.replicate n 0)) ∧ Aside0 (∀ k, v.ownBlock = some k → u.ownBlock ≠ some k) ∧ Aside0 (Below w.heap.size w w'))
  case atStart => exact ⟨0, 0, m, .slice none 0 0, .slice none 0 0, rfl, ⟨rfl, Nat.zero_add _⟩, ⟨rfl⟩, ⟨heap_alloc_new w _⟩, ⟨Kd.R_nil _ _ _ _ _⟩, ⟨Kd.R_nil _ _ _ _ _⟩, ⟨fun k hk => by simp [Value.ownBlock] at hk⟩, ⟨below_alloc (Below.refl _ _) _⟩⟩
  case round =>
    obtain ⟨x, n, d, v, u, rfl, Hn, HK, HVR, HO1, HO2, HDJ, HB⟩ := hrel
    cases d with
    | zero =>
      have hb : decide (x < a0) = false := decide_eq_false (by have := HL.out; have := Hn.out; omega)
      have hnm : n = m := by have := Hn.out; omega
      have HNM := Aside0.mk hnm
      clear hnm
      go_wp2
      go_ret
      refine ⟨w.heap.size, by first | rfl | (simp; done), ?_, HB.out⟩
      obtain ⟨A1, c1, rfl, _, hC1⟩ := Kd.R_reads HO1.out
      obtain ⟨A2, c2, rfl, _, hC2⟩ := Kd.R_reads HO2.out
      have hn0 : (0 : Int) < ((List.replicate n (0 : Int)).length : Nat) := by rw [List.length_replicate]; have := HL.out; have := HNM.out; omega
      obtain ⟨d1, rfl, _⟩ := Kd.at_int hC1 0 (Int.le_refl _) hn0
      obtain ⟨d2, rfl, _⟩ := Kd.at_int hC2 0 (Int.le_refl _) hn0
      obtain ⟨b1, rfl⟩ := Kd.R_head HO1.out
      obtain ⟨b2, rfl⟩ := Kd.R_head HO2.out
      rw [← HNM.out]
      exact ⟨b1, c1, b2, c2, ⟨HVR.out, HO1.out, HO2.out, fun e => HDJ.out b1 (by simp [Value.ownBlock]) (by simp [Value.ownBlock, e]), Nat.le_refl _⟩⟩
    | succ d =>
      have hb : decide (x < a0) = true := decide_eq_true (by have := HL.out; have := Hn.out; omega)
      obtain ⟨A1, c1, hvs⟩ := Kd.R_slice HO1.out
      rw [List.length_replicate] at hvs
      subst hvs
      obtain ⟨A2, c2, hvs⟩ := Kd.R_slice HO2.out
      rw [List.length_replicate] at hvs
      subst hvs
      have HN1 := Aside0.mk (RowI.ne_block HO1.out HVR.out (by decide))
      have c0_ : wr.cell? ⟨w.heap.size, 0, none⟩ = some (.slice A1 n c1) := (blk_cell HVR.out 0).trans rfl
      have hx1 : wrap64 (x + 1) = x + 1 := w64s (by have := Hn.out; omega) (by have := HL.out; have := Hn.out; omega)
      have HX := Aside0.mk hx1
      clear hx1
      go_wp2_with (first | ((with_reducible refine gate_builtin (b := .append) (xs := #[.tmp 19, .tmp 20]) rfl ?_); at_builtin; refine Kd.R_append (Kd.int .i64) w.heap.size rfl (.tmp 19) (.tmp 20) 35 3 (.int .i64 0) 8 rfl Try.underlying35 info3 rfl (by decide) (by omega) (.slice A1 n c1) (List.replicate n 0) 0 [.int .i64 0] (fun _ => True) (fun _ => False) rfl rfl ?aP (fun _ hk => hk.elim) ?aF ?aO (w0 := w) ?aB ?aS ?aL ?_; (case aP => exact rfl); (case aF => exact (fun _ _ => trivial)); (case aB => repeat (first | (with_reducible first | exact HB.out | apply below_alloc | apply pw_below_drewN | apply below_drew1) | exact HB.out)); (case aO => exact (by (with_reducible repeat (first | apply Kd.R_alloc | apply Kd.R_drewN | apply Kd.R_drew)); exact HO1.out)); (case aS => exact below_size (by repeat (first | (with_reducible first | exact HB.out | apply below_alloc | apply pw_below_drewN | apply below_drew1) | exact HB.out))); (case aL => rw [List.length_replicate]; have := HL.out; have := Hn.out; omega); intro v1 w1 ho hb hg hat; have hv1 := blk_grown HVR.out hg HN1.out; obtain ⟨B1, e1, hvs1⟩ := Kd.R_slice ho; have hll : (List.replicate n (0 : Int) ++ [0]).length = n + 1 := (by rw [List.length_append, List.length_replicate]; rfl); rw [hll] at hvs1; clear hll; subst hvs1; have ho2 := Kd.R_grown2 HO2.out rfl hg (fun k hk => Ne.symm (HDJ.out k hk)); have hdj := disj_app HO2.out HDJ.out hat; clear HO1 HO2 HB HDJ HVR; have HO1 := Aside0.mk ho; have HO2 := Aside0.mk ho2; have HB := Aside0.mk hb; have HDJ := Aside0.mk hdj; clear ho ho2 hb hg hat hdj; have f0_ := blk_frozen hv1 0; have g0_ : w1.cell? ⟨w.heap.size, 0, none⟩ = some (.slice A1 n c1) := (blk_cell hv1 0).trans rfl; have HVR := Aside0.mk hv1; clear hv1 c0_) | ((with_reducible refine gate_store (t := 35) (p := 23) rfl ?_); refine store_event (t := 35) (p := 23) (v := .tmp 21) (w1 := w1.setCell ⟨w.heap.size, 0, none⟩ (.slice B1 (n + 1) e1)) ?hg ?ho ?hn ?hr ?_; (case ho => rfl); (case hg => rfl); (case hn => rfl); (case hr => first | (go_simp; done) | (go_simp; rfl)); intro w2 hw; have hv2 : w2.heap[w.heap.size]? = some (.cells #[.slice B1 (n + 1) e1, .slice A2 n c2, .int .i64 a1, .int .i64 (-1), .int .i64 0] 37 (0, 0)) := (by rw [hw]; exact blk_put HVR.out 0 _ rfl); have ho1 := row_set37 HO1.out HVR.out 0 (.slice B1 (n + 1) e1); have ho2 := row_set37 HO2.out HVR.out 0 (.slice B1 (n + 1) e1); rw [← hw] at ho1 ho2; have hb2 : Below w.heap.size w w2 := (by rw [hw]; exact HB.out.setCell (Nat.le_refl _) _); clear HO1 HO2 HB HVR f0_ g0_ hw; have HVR := Aside0.mk hv2; have HO1 := Aside0.mk ho1; have HO2 := Aside0.mk ho2; have HB := Aside0.mk hb2; have HN2 := Aside0.mk (RowI.ne_block HO2.out HVR.out (by decide)); have c1_ : w2.cell? ⟨w.heap.size, 1, none⟩ = some (.slice A2 n c2) := (blk_cell hv2 1).trans rfl; clear hv2 ho1 ho2 hb2) | ((with_reducible refine gate_builtin (b := .append) (xs := #[.tmp 28, .tmp 29]) rfl ?_); at_builtin; refine Kd.R_append (Kd.int .i64) w.heap.size rfl (.tmp 28) (.tmp 29) 35 3 (.int .i64 0) 8 rfl Try.underlying35 info3 rfl (by decide) (by omega) (.slice A2 n c2) (List.replicate n 0) 0 [.int .i64 0] (fun _ => True) (fun _ => False) rfl rfl ?aP (fun _ hk => hk.elim) ?aF ?aO (w0 := w) ?aB ?aS ?aL ?_; (case aP => exact rfl); (case aF => exact (fun _ _ => trivial)); (case aB => repeat (first | (with_reducible first | exact HB.out | apply below_alloc | apply pw_below_drewN | apply below_drew1) | exact HB.out)); (case aO => exact (by (with_reducible repeat (first | apply Kd.R_alloc | apply Kd.R_drewN | apply Kd.R_drew)); exact HO2.out)); (case aS => exact below_size (by repeat (first | (with_reducible first | exact HB.out | apply below_alloc | apply pw_below_drewN | apply below_drew1) | exact HB.out))); (case aL => rw [List.length_replicate]; have := HL.out; have := Hn.out; omega); intro v1 w3 ho hb hg hat; have hv3 := blk_grown HVR.out hg HN2.out; obtain ⟨B2, e2, hvs2⟩ := Kd.R_slice ho; have hll : (List.replicate n (0 : Int) ++ [0]).length = n + 1 := (by rw [List.length_append, List.length_replicate]; rfl); rw [hll] at hvs2; clear hll; subst hvs2; have ho1 := Kd.R_grown2 HO1.out rfl hg (fun k hk => fun e => HDJ.out k e.symm hk); have hdj := disj_app2 HO1.out HDJ.out hat; clear HO1 HO2 HB HDJ HVR; have HO1 := Aside0.mk ho1; have HO2 := Aside0.mk ho; have HB := Aside0.mk hb; have HDJ := Aside0.mk hdj; clear ho ho1 hb hg hat hdj; have f1_ := blk_frozen hv3 1; have g1_ : w3.cell? ⟨w.heap.size, 1, none⟩ = some (.slice A2 n c2) := (blk_cell hv3 1).trans rfl; have HVR := Aside0.mk hv3; clear hv3 c1_) | ((with_reducible refine gate_store (t := 35) (p := 32) rfl ?_); refine store_event (t := 35) (p := 32) (v := .tmp 30) (w1 := w3.setCell ⟨w.heap.size, 1, none⟩ (.slice B2 (n + 1) e2)) ?hg ?ho ?hn ?hr ?_; (case ho => rfl); (case hg => rfl); (case hn => rfl); (case hr => first | (go_simp; done) | (go_simp; rfl)); intro w4 hw; have hv4 : w4.heap[w.heap.size]? = some (.cells #[.slice B1 (n + 1) e1, .slice B2 (n + 1) e2, .int .i64 a1, .int .i64 (-1), .int .i64 0] 37 (0, 0)) := (by rw [hw]; exact blk_put HVR.out 1 _ rfl); have ho1 := row_set37 HO1.out HVR.out 1 (.slice B2 (n + 1) e2); have ho2 := row_set37 HO2.out HVR.out 1 (.slice B2 (n + 1) e2); rw [← hw] at ho1 ho2; have hb4 : Below w.heap.size w w4 := (by rw [hw]; exact HB.out.setCell (Nat.le_refl _) _); clear HO1 HO2 HB HVR f1_ g1_ hw; have HVR := Aside0.mk hv4; have HO1 := Aside0.mk ho1; have HO2 := Aside0.mk ho2; have HB := Aside0.mk hb4; clear hv4 ho1 ho2 hb4))
      go_roundg (d + 1)
      case measure => have := HK.out; omega
      case rel => exact ⟨x + 1, n + 1, d, _, _, by rw [HX.out], ⟨by have := Hn.out; omega, by have := Hn.out; omega⟩, ⟨rfl⟩, HVR, ⟨by rw [List.replicate_succ']; exact HO1.out⟩, ⟨by rw [List.replicate_succ']; exact HO2.out⟩, HDJ, HB⟩
def qBest (r : Rg) : Nat → Int → Int → Int
  | 0, _, b => b
  | d + 1, x, b => if rd r.S x = 0 then (if b < 0 then qBest r d (x + 1) x else (if rd r.E x < rd r.E b then qBest r d (x + 1) x else qBest r d (x + 1) b)) else qBest r d (x + 1) b
def qTaken (r : Rg) (b : Int) : Rg := { r with S := r.S.set b.toNat 1, E := r.E.set b.toNat (wrap64 (rd r.E b + 1)), opn := b, cur := 0 }
def qTake (r : Rg) : Int × Rg := if 0 ≤ r.opn then (-1, r) else (if qBest r r.S.length 0 (-1) < 0 then (-1, r) else (qBest r r.S.length 0 (-1), qTaken r (qBest r r.S.length 0 (-1))))
def qtk.T10 : Bool × List (List Nat × List Nat) := (true, [([], []), ([0], [0]), ([1], [1]), ([2], [2]), ([], []), ([], []), ([5], [5]), ([6], [6]), ([7], [7]), ([], []), ([8, 9], [8, 9]), ([10], [10]), ([11], [11]), ([3, 4, 0, 1, 2, 3, 4, 5, 6, 7, 8, 9, 10, 11, 12], [3, 4]), ([13, 12, 0, 1, 2, 3, 4, 5, 6, 7, 8, 9, 10, 11, 12], [12, 13])])
def qtk.B10 : List Nat := [0, 1, 3, 7, 0, 0, 32, 96, 224, 0, 992, 2016, 4064, 8191, 16383]
theorem qtk.tab10 : rtab .any (opsOf Try.f22 10) = qtk.T10 := by kernel_rfl
theorem qtk.bits10 : waitsOk qtk.T10.2 qtk.B10 = true := by kernel_rfl
set_option maxHeartbeats 8000000 in
set_option maxRecDepth 100000 in
theorem qTake_calls {lo : Nat} {w : World} {h : Nat} {r : Rg} (H : IsQ lo w h r) (hlen : r.S.length < 1000000) :
    Calls Try.prog 22 #[.pointer (some ⟨h, 0, none⟩)] w fun e w' => e = .returned (.int .i64 (qTake r).1) ∧ IsQ lo w' h (qTake r).2 ∧ Below lo w w' ∧ KeepR lo w w' := by
  obtain ⟨a1, k1, a2, k2, H⟩ := H
  have HQ := Aside0.mk H
  have HL := Aside0.mk hlen
  have same : ∀ nd : Nat, IsQ lo (w.drewN nd) h r ∧ Below lo w (w.drewN nd) ∧ KeepR lo w (w.drewN nd) := fun nd => ⟨⟨a1, k1, a2, k2, HQ.out.below (pw_below_drewN (Below.refl _ _) nd)⟩, pw_below_drewN (Below.refl _ _) nd, KeepR.of_below (pw_below_drewN (Below.refl _ _) nd)⟩
  have HS := Aside0.mk same
  clear same hlen
  obtain ⟨⟨t1, t2⟩, htr⟩ : ∃ tr, tr = qTake r := ⟨_, rfl⟩
  rw [← htr]
  unfold qTake at htr
  obtain ⟨res, hres⟩ : ∃ res, res = qBest r r.S.length 0 (-1) := ⟨_, rfl⟩
  rw [← hres] at htr
  have HTR := Aside0.mk htr
  have HR := Aside0.mk hres
  clear H htr hres
  go_enter Try.func22, Try.ntmps22
  go_wp2
  go_loopg [3, 4] (r.S.length + 1) (fun kq v3 v4 w' => ∃ (b x : Int) (d m : Nat), v3 = .int .i64 b ∧ v4 = .int .i64 x ∧ Aside0 (0 ≤ x ∧ x + d = r.S.length) ∧ Aside0 (kq = d + 1) ∧ Aside0 (b = -1 ∨ 0 ≤ b ∧ b < x) ∧ Aside0 (qBest r d x b = res) ∧ w' = w.drewN m)
  case atStart => exact ⟨-1, 0, r.S.length, 0, rfl, rfl, ⟨Int.le_refl _, Int.zero_add _⟩, ⟨rfl⟩, ⟨.inl rfl⟩, ⟨HR.out.symm⟩, rfl⟩
  case round =>
    obtain ⟨b, x, d, m, rfl, rfl, Hn, HK, HBE, HF, rfl⟩ := hrel
    have c0_ := HQ.out.c0
    have c1_ := HQ.out.c1
    have c3_ := HQ.out.c3
    cases d with
    | zero =>
      have hb : decide (x < (r.S.length : Int)) = false := decide_eq_false (by have := Hn.out; omega)
      have hnr : b = res := HF.out
      subst hnr
      clear HR
      by_cases k3 : 0 ≤ r.opn
      · have b3 : decide (0 ≤ r.opn) = true := decide_eq_true k3
        obtain ⟨rfl, rfl⟩ : t1 = -1 ∧ t2 = r := by have := HTR.out; rw [if_pos k3] at this; simpa using this
        clear k3 HTR
        go_wp2
        go_ret
        exact ⟨by first | rfl | (simp; done), HS.out _⟩
      have b3 : decide (0 ≤ r.opn) = false := decide_eq_false k3
      by_cases k4 : b < 0
      · have b4 : decide (b < 0) = true := decide_eq_true k4
        obtain ⟨rfl, rfl⟩ : t1 = -1 ∧ t2 = r := by have := HTR.out; rw [if_neg k3, if_pos k4] at this; simpa using this
        clear k3 k4 HTR
        go_wp2
        go_ret
        exact ⟨by first | rfl | (simp; done), HS.out _⟩
      have b4 : decide (b < 0) = false := decide_eq_false k4
      obtain ⟨rfl, rfl⟩ : b = t1 ∧ qTaken r b = t2 := by have := HTR.out; rw [if_neg k3, if_neg k4] at this; simp only [Prod.mk.injEq] at this; exact ⟨this.1.symm, this.2.symm⟩
      have HBB := Aside0.mk (show 0 ≤ b ∧ b < (r.S.length : Int) by have := HBE.out; have := Hn.out; omega)
      have p3 := eq_true HBB.out.1
      have p4 := eq_true HBB.out.2
      have cS_ := HQ.out.cS b HBB.out.1 HBB.out.2
      have fS_ := HQ.out.fS b HBB.out.1 HBB.out.2
      clear k3 k4 HTR
      go_wp2_with (first | ((with_reducible refine gate_store (t := 3) (p := 58) rfl ?_); refine store_event (t := 3) (p := 58) (v := .const (.int .i64 1)) (w1 := (w.drewN m).setCell ⟨a1, b.toNat, none⟩ (.int .i64 1)) ?hg ?ho ?hn ?hr ?_; (case ho => rfl); (case hg => rfl); (case hn => rfl); (case hr => first | (go_simp; done) | (go_simp; rfl)); intro w6 hw; have HQ6 := Aside0.mk (show QAt lo w6 h a1 k1 a2 k2 _ from by rw [hw]; exact (HQ.out.below (pw_below_drewN (Below.refl _ _) m)).putS b 1); have HB6 := Aside0.mk (show Below lo w w6 from by rw [hw]; exact (pw_below_drewN (Below.refl _ _) m).setCell (row_blk HQ.out.r1).1 _); have HK6 := Aside0.mk (show KeepR lo w w6 from by rw [hw]; exact (let z := row_blk (HQ.out.below (pw_below_drewN (Below.refl _ _) m)).r1; (KeepR.of_below (pw_below_drewN (Below.refl _ _) m)).put z.2.2.choose_spec (.inr rfl) z.1 _ _)); clear hw; have d1_ := HQ6.out.c1; simp only [List.length_set] at d1_; have dE_ := HQ6.out.cE b HBB.out.1 (by show b < ((r.S.set b.toNat 1).length : Int); rw [List.length_set]; exact HBB.out.2); have eE_ := HQ6.out.fE b HBB.out.1 (by show b < ((r.S.set b.toNat 1).length : Int); rw [List.length_set]; exact HBB.out.2)))
      refine start_ (n := 15) (S := fun w' => w'.cell? ⟨h, 1, none⟩ = some (.slice (some ⟨a2, 0, none⟩) r.S.length k2) ∧ w'.cell? ⟨a2, b.toNat, none⟩ = some (.int .i64 (rd r.E b))) (ds := [14]) #[false, false, false, false, false, false, false, false, false, false, false, false, false, false, false] (by kernel_rfl) rfl rfl (⟨d1_, dE_⟩) (fun hHeld => ?_); refine with_tabW qtk.tab10 qtk.bits10 (fun HT_ HW_ => ?_)
      clear d1_ dE_ eE_
      have HQ7 := Aside0.mk (HQ6.out.below (W1 := w6.drew) (below_drew1 (Below.refl _ _)))
      have HB7 := Aside0.mk (show Below lo w w6.drew from below_drew1 HB6.out)
      have HK7 := Aside0.mk (HK6.out.trans (KeepR.of_below (lo := lo) (show Below w6.heap.size w6 w6.drew from below_drew1 (Below.refl _ _))))
      clear HQ6 HB6 HK6
      generalize w6.drew = w7 at HQ7 HB7 HK7 hHeld ⊢
      have dE_ := HQ7.out.cE b HBB.out.1 (by show b < ((r.S.set b.toNat 1).length : Int); rw [List.length_set]; exact HBB.out.2)
      have eE_ := HQ7.out.fE b HBB.out.1 (by show b < ((r.S.set b.toNat 1).length : Int); rw [List.length_set]; exact HBB.out.2)
      refine pure_ (i := 0) (N := some 59) (v := ?_) (a' := ?_) #[true, false, false, false, false, false, false, false, false, false, false, false, false, false, false] rfl rfl (any_of HT_.out (by kernel_rfl)) (fun _ _ _ h => h) (Or.inl ⟨by rfl, ?_⟩) ?_ ?_
      rotate_left
      · intro w'
        go_simp
        with_reducible rfl
      rotate_left
      · simp only [Act.put, List.setIfInBounds_toArray, List.set_cons_zero, List.set_cons_succ, i64_w, i32_w]
        rfl
      refine pure_ (i := 1) (N := some 60) (v := ?_) (a' := ?_) #[true, true, false, false, false, false, false, false, false, false, false, false, false, false, false] rfl rfl (any_of HT_.out (by kernel_rfl)) (fun _ _ _ h => h) (Or.inl ⟨by rfl, ?_⟩) ?_ ?_
      rotate_left
      · intro w'
        go_simp
        with_reducible rfl
      rotate_left
      · simp only [Act.put, List.setIfInBounds_toArray, List.set_cons_zero, List.set_cons_succ, i64_w, i32_w]
        rfl
      refine pure_ (i := 2) (N := some 61) (v := ?_) (a' := ?_) #[true, true, true, false, false, false, false, false, false, false, false, false, false, false, false] rfl rfl (any_of HT_.out (by kernel_rfl)) (fun _ _ _ h => h) (Or.inl ⟨by rfl, ?_⟩) ?_ ?_
      rotate_left
      · intro w'
        go_simp
        with_reducible rfl
      rotate_left
      · simp only [Act.put, List.setIfInBounds_toArray, List.set_cons_zero, List.set_cons_succ, i64_w, i32_w]
        rfl
      refine pure_ (i := 4) (N := some 63) (v := ?_) (a' := ?_) #[true, true, true, false, true, false, false, false, false, false, false, false, false, false, false] rfl rfl (any_of HT_.out (by kernel_rfl)) (fun _ _ _ h => h) (Or.inl ⟨by rfl, ?_⟩) ?_ ?_
      rotate_left
      · intro w'
        go_simp
        with_reducible rfl
      rotate_left
      · simp only [Act.put, List.setIfInBounds_toArray, List.set_cons_zero, List.set_cons_succ, i64_w, i32_w]
        rfl
      refine pure_ (i := 5) (N := some 64) (v := ?_) (a' := ?_) #[true, true, true, false, true, true, false, false, false, false, false, false, false, false, false] rfl rfl (any_of HT_.out (by kernel_rfl)) (fun _ _ _ h => h) (Or.inl ⟨by rfl, ?_⟩) ?_ ?_
      rotate_left
      · intro w'
        go_simp
        with_reducible rfl
      rotate_left
      · simp only [Act.put, List.setIfInBounds_toArray, List.set_cons_zero, List.set_cons_succ, i64_w, i32_w]
        rfl
      refine pure_ (i := 6) (N := some 65) (v := ?_) (a' := ?_) #[true, true, true, false, true, true, true, false, false, false, false, false, false, false, false] rfl rfl (any_of HT_.out (by kernel_rfl)) (fun _ _ _ h => h) (Or.inl ⟨by rfl, ?_⟩) ?_ ?_
      rotate_left
      · intro w'
        go_simp
        with_reducible rfl
      rotate_left
      · simp only [Act.put, List.setIfInBounds_toArray, List.set_cons_zero, List.set_cons_succ, i64_w, i32_w]
        rfl
      refine pure_ (i := 7) (N := some 66) (v := ?_) (a' := ?_) #[true, true, true, false, true, true, true, true, false, false, false, false, false, false, false] rfl rfl (any_of HT_.out (by kernel_rfl)) (fun _ _ _ h => h) (Or.inl ⟨by rfl, ?_⟩) ?_ ?_
      rotate_left
      · intro w'
        go_simp
        with_reducible rfl
      rotate_left
      · simp only [Act.put, List.setIfInBounds_toArray, List.set_cons_zero, List.set_cons_succ, i64_w, i32_w]
        rfl
      refine pure_ (i := 9) (N := some 68) (v := ?_) (a' := ?_) #[true, true, true, false, true, true, true, true, false, true, false, false, false, false, false] rfl rfl (any_of HT_.out (by kernel_rfl)) (fun _ _ _ h => h) (Or.inl ⟨by rfl, ?_⟩) ?_ ?_
      rotate_left
      · intro w'
        go_simp
        with_reducible rfl
      rotate_left
      · simp only [Act.put, List.setIfInBounds_toArray, List.set_cons_zero, List.set_cons_succ, i64_w, i32_w]
        rfl
      refine take_ (i := 3) (N := some 62) (v := ?_) (a' := ?_) #[true, true, true, true, true, true, true, true, false, true, false, false, false, false, false] rfl rfl (take_ofW HT_.out HW_.out (by kernel_rfl)) (fun _ _ _ h => h) (Or.inl ⟨by rfl, ?_⟩) hHeld ?_ ?_
      rotate_left
      · rintro w' ⟨s0, s1⟩
        go_simp
        with_reducible rfl
      rotate_left
      · simp only [Act.put, List.setIfInBounds_toArray, List.set_cons_zero, List.set_cons_succ, i64_w, i32_w]
        rfl
      refine take_ (i := 8) (N := some 67) (v := ?_) (a' := ?_) #[true, true, true, true, true, true, true, true, true, true, false, false, false, false, false] rfl rfl (take_ofW HT_.out HW_.out (by kernel_rfl)) (fun _ _ _ h => h) (Or.inl ⟨by rfl, ?_⟩) hHeld ?_ ?_
      rotate_left
      · rintro w' ⟨s0, s1⟩
        go_simp
        with_reducible rfl
      rotate_left
      · simp only [Act.put, List.setIfInBounds_toArray, List.set_cons_zero, List.set_cons_succ, i64_w, i32_w]
        rfl
      refine pure_ (i := 10) (N := some 69) (v := ?_) (a' := ?_) #[true, true, true, true, true, true, true, true, true, true, true, false, false, false, false] rfl rfl (any_of HT_.out (by kernel_rfl)) (fun _ _ _ h => h) (Or.inl ⟨by rfl, ?_⟩) ?_ ?_
      rotate_left
      · intro w'
        go_simp
        with_reducible rfl
      rotate_left
      · simp only [Act.put, List.setIfInBounds_toArray, List.set_cons_zero, List.set_cons_succ, i64_w, i32_w]
        rfl
      refine take_ (i := 11) (N := some 70) (v := ?_) (a' := ?_) #[true, true, true, true, true, true, true, true, true, true, true, true, false, false, false] rfl rfl (take_ofW HT_.out HW_.out (by kernel_rfl)) (fun _ _ _ h => h) (Or.inl ⟨by rfl, ?_⟩) hHeld ?_ ?_
      rotate_left
      · rintro w' ⟨s0, s1⟩
        go_simp
        with_reducible rfl
      rotate_left
      · simp only [Act.put, List.setIfInBounds_toArray, List.set_cons_zero, List.set_cons_succ, i64_w, i32_w]
        rfl
      refine pure_ (i := 12) (N := some 71) (v := ?_) (a' := ?_) #[true, true, true, true, true, true, true, true, true, true, true, true, true, false, false] rfl rfl (any_of HT_.out (by kernel_rfl)) (fun _ _ _ h => h) (Or.inl ⟨by rfl, ?_⟩) ?_ ?_
      rotate_left
      · intro w'
        go_simp
        with_reducible rfl
      rotate_left
      · simp only [Act.put, List.setIfInBounds_toArray, List.set_cons_zero, List.set_cons_succ, i64_w, i32_w]
        rfl
      refine pure_ (i := 13) (N := some 72) (v := ?_) (a' := ?_) #[true, true, true, true, true, true, true, true, true, true, true, true, true, true, false] rfl rfl (any_of HT_.out (by kernel_rfl)) (fun _ _ _ h => h) (Or.inl ⟨by rfl, ?_⟩) ?_ ?_
      rotate_left
      · intro w'
        go_simp
        with_reducible rfl
      rotate_left
      · simp only [Act.put, List.setIfInBounds_toArray, List.set_cons_zero, List.set_cons_succ, i64_w, i32_w]
        rfl
      refine last_ (i := 14) (N := none) #[true, true, true, true, true, true, true, true, true, true, true, true, true, true, true] rfl rfl (one_of HT_.out (by kernel_rfl)) (by decide) (fun K hK => ?_)
      refine skip_ (w1 := w7.setCell ⟨a2, b.toNat, none⟩ (.int .i64 (wrap64 (rd r.E b + 1)))) (by rfl) rfl ?_ ?_
      · go_simp
      refine hK.out _ _ ?_
      clear hK K
      refine done_ (done_of HT_.out (by kernel_rfl)) ?_
      have HQ8 := Aside0.mk (HQ7.out.putE b (wrap64 (rd r.E b + 1)))
      have HB8 := Aside0.mk (show Below lo w (w7.setCell ⟨a2, b.toNat, none⟩ (.int .i64 (wrap64 (rd r.E b + 1)))) from HB7.out.setCell (row_blk HQ7.out.r2).1 _)
      have HK8 := Aside0.mk (show KeepR lo w (w7.setCell ⟨a2, b.toNat, none⟩ (.int .i64 (wrap64 (rd r.E b + 1)))) by obtain ⟨z1, _, z2, z3⟩ := row_blk HQ7.out.r2; exact HK7.out.put z3 (.inr rfl) z1 _ _)
      clear HQ7 HB7 HK7 eE_ dE_
      generalize w7.setCell ⟨a2, b.toNat, none⟩ (.int .i64 (wrap64 (rd r.E b + 1))) = w8 at HQ8 HB8 HK8 ⊢
      have d3_ := HQ8.out.c3
      have e3_ := blk_frozen HQ8.out.blk 3
      go_wp2_with (first | ((with_reducible refine gate_store (t := 3) (p := 76) rfl ?_); refine store_event (t := 3) (p := 76) (v := .tmp 74) (w1 := w8.setCell ⟨h, 3, none⟩ (.int .i64 b)) ?hg ?ho ?hn ?hr ?_; (case ho => rfl); (case hg => rfl); (case hn => rfl); (case hr => first | (go_simp; done) | (go_simp; rfl)); intro w9 hw; have HQ9 := Aside0.mk (show QAt lo w9 h a1 k1 a2 k2 _ from by rw [hw]; exact HQ8.out.putO b); have HB9 := Aside0.mk (show Below lo w w9 from by rw [hw]; exact HB8.out.setCell HQ8.out.lo _); have HK9 := Aside0.mk (show KeepR lo w w9 from by rw [hw]; exact HK8.out.put HQ8.out.blk (.inl rfl) HQ8.out.lo _ _); have d4_ := HQ9.out.c4; have e4_ := blk_frozen HQ9.out.blk 4; clear hw HQ8 HB8 HK8 d3_ e3_) | ((with_reducible refine gate_store (t := 3) (p := 79) rfl ?_); refine store_event (t := 3) (p := 79) (v := .const (.int .i64 0)) (w1 := w9.setCell ⟨h, 4, none⟩ (.int .i64 0)) ?hg ?ho ?hn ?hr ?_; (case ho => rfl); (case hg => rfl); (case hn => rfl); (case hr => first | (go_simp; done) | (go_simp; rfl)); intro wD hw; have HQD := Aside0.mk (show QAt lo wD h a1 k1 a2 k2 _ from by rw [hw]; exact HQ9.out.putC 0); have HBD := Aside0.mk (show Below lo w wD from by rw [hw]; exact HB9.out.setCell HQ9.out.lo _); have HKD := Aside0.mk (show KeepR lo w wD from by rw [hw]; exact HK9.out.put HQ9.out.blk (.inl rfl) HQ9.out.lo _ _); clear hw HQ9 HB9 HK9 d4_ e4_))
      go_ret
      exact ⟨by first | rfl | (simp; done), ⟨a1, k1, a2, k2, HQD.out⟩, HBD.out, HKD.out⟩
    | succ d =>
      have hb : decide (x < (r.S.length : Int)) = true := decide_eq_true (by have := Hn.out; omega)
      have cS_ := HQ.out.cS x Hn.out.1 (by have := Hn.out; omega)
      have cE_ := HQ.out.cE x Hn.out.1 (by have := Hn.out; omega)
      have p1 := eq_true Hn.out.1
      have p2 := eq_true (show x < (r.S.length : Int) by have := Hn.out; omega)
      have hw : wrap64 (x + 1) = x + 1 := w64s (by have := Hn.out; omega) (by have := Hn.out; have := HL.out; omega)
      have HW := Aside0.mk hw
      have hf := HF.out
      simp only [qBest] at hf
      clear hw HF HR
      by_cases c5 : rd r.S x = 0
      · have c5b : (rd r.S x == 0) = true := beq_iff_eq.mpr c5
        rw [if_pos c5] at hf
        clear c5
        by_cases c6 : b < 0
        · have c6b : decide (b < 0) = true := decide_eq_true c6
          rw [if_pos c6] at hf
          clear c6
          have HF2 := Aside0.mk hf
          clear hf
          go_wp2
          repeat (go_quiet (fail); try go_wp2)
          go_roundg (d + 1)
          case measure => have := HK.out; omega
          case rel => exact ⟨_, x + 1, d, _, rfl, by rw [HW.out], ⟨by have := Hn.out; omega, by have := Hn.out; omega⟩, ⟨rfl⟩, ⟨by have := Hn.out; have := HBE.out; omega⟩, HF2, by first | rfl | (rw [World.drewN_drewN])⟩
        · have c6b : decide (b < 0) = false := decide_eq_false c6
          rw [if_neg c6] at hf
          have HBB := Aside0.mk (show 0 ≤ b ∧ b < (r.S.length : Int) by have := HBE.out; have := Hn.out; omega)
          have p3 := eq_true HBB.out.1
          have p4 := eq_true HBB.out.2
          have cEb_ := HQ.out.cE b HBB.out.1 HBB.out.2
          clear c6
          by_cases c7 : rd r.E x < rd r.E b
          · have c7b : decide (rd r.E x < rd r.E b) = true := decide_eq_true c7
            rw [if_pos c7] at hf
            clear c7
            have HF2 := Aside0.mk hf
            clear hf
            go_wp2
            repeat (go_quiet (fail); try go_wp2)
            go_roundg (d + 1)
            case measure => have := HK.out; omega
            case rel => exact ⟨_, x + 1, d, _, rfl, by rw [HW.out], ⟨by have := Hn.out; omega, by have := Hn.out; omega⟩, ⟨rfl⟩, ⟨by have := Hn.out; have := HBE.out; omega⟩, HF2, by first | rfl | (rw [World.drewN_drewN])⟩
          · have c7b : decide (rd r.E x < rd r.E b) = false := decide_eq_false c7
            rw [if_neg c7] at hf
            clear c7
            have HF2 := Aside0.mk hf
            clear hf
            go_wp2
            repeat (go_quiet (fail); try go_wp2)
            go_roundg (d + 1)
            case measure => have := HK.out; omega
            case rel => exact ⟨_, x + 1, d, _, rfl, by rw [HW.out], ⟨by have := Hn.out; omega, by have := Hn.out; omega⟩, ⟨rfl⟩, ⟨by have := Hn.out; have := HBE.out; omega⟩, HF2, by first | rfl | (rw [World.drewN_drewN])⟩
      · have c5b : (rd r.S x == 0) = false := beq_eq_false_iff_ne.mpr c5
        rw [if_neg c5] at hf
        clear c5
        have HF2 := Aside0.mk hf
        clear hf
        go_wp2
        repeat (go_quiet (fail); try go_wp2)
        go_roundg (d + 1)
        case measure => have := HK.out; omega
        case rel => exact ⟨_, x + 1, d, _, rfl, by rw [HW.out], ⟨by have := Hn.out; omega, by have := Hn.out; omega⟩, ⟨rfl⟩, ⟨by have := Hn.out; have := HBE.out; omega⟩, HF2, by first | rfl | (rw [World.drewN_drewN])⟩
end Go.Proofs.Ytpjmmmgjiaallaa.M
