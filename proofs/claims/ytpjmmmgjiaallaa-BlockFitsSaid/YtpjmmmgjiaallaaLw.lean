/-
  block's New and Take.
-/
import Derived.Test.YtpjmmmgjiaallaaLf
import Derived.Deep.RegionHeld3
namespace Go.Proofs.Ytpjmmmgjiaallaa.M
open Go.RowKit Go.Proofs.YtpjmmmgjiaallaaW.PrintWords Go.Proofs.YtpjmmmgjiaallaaW.PrintLast Go.Proofs.YtpjmmmgjiaallaaW.PrintMore
set_option linter.unusedVariables false
set_option linter.unusedSimpArgs false
theorem inf55 : (Try.prog.info? 55).map (fun i => (i.zero, i.size, i.bytes)) = some (some (.agg #[.int .i64 0, .int .i64 0]), 2, 16) := by kernel_rfl
theorem flat_rep (n : Nat) : ∀ i, i < 2 * n → (flat (List.replicate n ⟨0, 0⟩))[i]? = some (.int .i64 0) := by
  induction n with
  | zero => intro i h; omega
  | succ n ih =>
    intro i h
    match i with
    | 0 => rfl
    | 1 => rfl
    | i + 2 =>
      rw [List.replicate_succ]
      simp only [flat, List.getElem?_cons_succ]
      exact ih i (by omega)
theorem made_flat (n : Nat) : madeCells (Value.agg #[.int .i64 0, .int .i64 0]).cells (n * 2) = (flat (List.replicate n ⟨0, 0⟩)).toArray := by
  apply Array.ext
  · rw [size_madeCells, List.size_toArray, flat_len, List.length_replicate, Nat.mul_comm]
  · intro i h1 h2
    have h3 : i < 2 * n := by rw [size_madeCells] at h1; omega
    have e2 := flat_rep n i h3
    have e3 : (flat (List.replicate n ⟨0, 0⟩)).toArray[i] = .int .i64 0 := by
      rw [List.getElem_toArray]
      rw [List.getElem?_eq_getElem (by rw [flat_len, List.length_replicate]; exact h3)] at e2
      exact Option.some.inj e2
    rw [e3]
    unfold madeCells
    have hm : i % 2 = 0 ∨ i % 2 = 1 := by omega
    simp only [Array.getElem_map, Array.getElem_range, Value.cells]
    rcases hm with hm | hm
    · show (#[Value.int .i64 0, .int .i64 0])[i % 2]! = _
      rw [hm]; rfl
    · show (#[Value.int .i64 0, .int .i64 0])[i % 2]! = _
      rw [hm]; rfl
def newL (n p : Int) : Lg := ⟨List.replicate n.toNat ⟨0, 0⟩, p, 0, 0⟩
def newOk (a0 a1 : Int) : Prop := (1 ≤ a0 ∧ a0 ≤ 256) ∧ (1 ≤ a1 ∧ a1 ≤ 64)
instance (a0 a1 : Int) : Decidable (newOk a0 a1) := by unfold newOk; infer_instance
set_option maxHeartbeats 8000000 in
theorem New_calls (a0 a1 : Int) (w : World) (ha : newOk a0 a1) :
    Calls Try.prog 6 #[.int .i64 a0, .int .i64 a1] w fun e w' => ∃ g : Nat, e = .returned (.tuple #[.pointer (some ⟨g, 0, none⟩), .int .i64 0]) ∧ IsL w.heap.size w' g (newL a0 a1) ∧ Below w.heap.size w w' := by
  obtain ⟨⟨p0, q0⟩, ⟨p1, q1⟩⟩ := ha
  have d0 : decide (a0 < 1) = false := decide_eq_false (by omega)
  have d1 : decide (256 < a0) = false := decide_eq_false (by omega)
  have d2 : decide (a1 < 1) = false := decide_eq_false (by omega)
  have d3 : decide (64 < a1) = false := decide_eq_false (by omega)
  obtain ⟨i0, hi0, hz0, hz1, hz2⟩ := info_parts inf55
  have hms : ∀ W : World, (Instr.makeSlice 50 (.int .i64 a0) (.int .i64 a0)).run Try.prog W = .ok (.slice (some ⟨W.heap.size, 0, none⟩) a0.toNat a0.toNat) (W.alloc (.cells (flat (List.replicate a0.toNat ⟨0, 0⟩)).toArray 55)) := by
    intro W
    have e := run_make W 50 55 i0 _ Try.underlying50 hi0 hz0 .i64 .i64 a0 a0 (by omega) (Int.le_refl _) (by rw [hz2]; omega) (by omega)
    rw [hz1, made_flat] at e
    exact e
  have hpos : 0 < a0.toNat := by omega
  have HPOS := Aside0.mk hpos
  clear hi0 hz0 hz1 hz2 hpos p0 q0 p1 q1
  go_enter Try.func6, Try.ntmps6
  go_wp2
  go_ret2
  refine ⟨w.heap.size + 1, by simp, ⟨w.heap.size, ?_⟩, by exact below_alloc (below_alloc (Below.refl _ _) _) _⟩
  have hl : (List.replicate a0.toNat (⟨0, 0⟩ : En)).length = a0.toNat := List.length_replicate
  refine ⟨?_, ?_, Nat.le_refl _, Nat.lt_succ_self _, by show 0 < (List.replicate a0.toNat (⟨0, 0⟩ : En)).length; rw [hl]; exact HPOS.out⟩
  · show _ = some (Obj.cells #[.slice (some ⟨w.heap.size, 0, none⟩) (List.replicate a0.toNat (⟨0, 0⟩ : En)).length (List.replicate a0.toNat (⟨0, 0⟩ : En)).length, .int .i64 a1, .int .i64 0, .int .i64 0] 52 (0, 0))
    rw [hl]
    have := heap_alloc_new (w.alloc (Obj.cells (flat (List.replicate a0.toNat ⟨0, 0⟩)).toArray 55)) (Obj.cells #[.slice (some ⟨w.heap.size, 0, none⟩) a0.toNat a0.toNat, .int .i64 a1, .int .i64 0, .int .i64 0] 52)
    simpa using this
  · exact blk_below (heap_alloc_new w _) (below_alloc (Below.refl _ _) _)
set_option maxHeartbeats 8000000 in
theorem New_bad (a0 a1 : Int) (w : World) (h : ¬ newOk a0 a1) :
    Calls Try.prog 6 #[.int .i64 a0, .int .i64 a1] w fun e w' => e = .returned (.tuple #[.pointer none, .int .i64 2]) ∧ Drawn0 w w' := by
  unfold newOk at h
  by_cases p0 : a0 < 1
  · have d0 : decide (a0 < 1) = true := decide_eq_true p0
    clear h p0
    go_enter Try.func6, Try.ntmps6
    go_wp2
    go_ret2
    exact ⟨by first | rfl | (simp; done), by repeat (first | exact Drawn0.refl _ | apply Drawn0.step | exact ⟨_, rfl⟩)⟩
  have d0 : decide (a0 < 1) = false := decide_eq_false p0
  by_cases p1 : 256 < a0
  · have d1 : decide (256 < a0) = true := decide_eq_true p1
    clear h p0 p1
    go_enter Try.func6, Try.ntmps6
    go_wp2
    go_ret2
    exact ⟨by first | rfl | (simp; done), by repeat (first | exact Drawn0.refl _ | apply Drawn0.step | exact ⟨_, rfl⟩)⟩
  have d1 : decide (256 < a0) = false := decide_eq_false p1
  by_cases p2 : a1 < 1
  · have d2 : decide (a1 < 1) = true := decide_eq_true p2
    clear h p0 p1 p2
    go_enter Try.func6, Try.ntmps6
    go_wp2
    go_ret2
    exact ⟨by first | rfl | (simp; done), by repeat (first | exact Drawn0.refl _ | apply Drawn0.step | exact ⟨_, rfl⟩)⟩
  have d2 : decide (a1 < 1) = false := decide_eq_false p2
  by_cases p3 : 64 < a1
  · have d3 : decide (64 < a1) = true := decide_eq_true p3
    clear h p0 p1 p2 p3
    go_enter Try.func6, Try.ntmps6
    go_wp2
    go_ret2
    exact ⟨by first | rfl | (simp; done), by repeat (first | exact Drawn0.refl _ | apply Drawn0.step | exact ⟨_, rfl⟩)⟩
  exact absurd ⟨⟨by omega, by omega⟩, ⟨by omega, by omega⟩⟩ h
/-- the free block that was erased least often -/
def bestF (E : List En) : Nat → Int → Int → Int
  | 0, _, b => b
  | d + 1, x, b => if eS E x = 0 then (if b < 0 then bestF E d (x + 1) x else (if eE E x < eE E b then bestF E d (x + 1) x else bestF E d (x + 1) b)) else bestF E d (x + 1) b
def best (E : List En) : Int := bestF E E.length 0 (-1)
def taken (s : Lg) (b : Int) : Lg := { s with E := setE (setS s.E b 1) b (wrap64 (eE s.E b + 1)), opn := wrap64 (b + 1), cur := 0 }
def takeR (s : Lg) : Int × Bool × Lg := if s.opn > 0 then (0, false, s) else (if best s.E < 0 then (0, false, s) else (best s.E, true, taken s (best s.E)))
theorem eE_setS (E : List En) (i x : Int) : eE (setS E i x) i = eE E i := by
  unfold setS eE en
  rw [List.getD_eq_getElem?_getD, List.getElem?_set]
  by_cases h : i.toNat < E.length
  · rw [if_pos rfl, if_pos h]; rfl
  · rw [if_pos rfl, if_neg h, List.getD_eq_getElem?_getD, List.getElem?_eq_none (by omega)]
theorem below_lower {a b : Nat} {w w' : World} (h : Below b w w') (hl : a ≤ b) : Below a w w' := ⟨h.os, h.tape, h.output, h.size, fun k hk => h.block k (by omega)⟩
set_option maxHeartbeats 8000000 in
set_option maxRecDepth 100000 in
theorem Take_calls {lo : Nat} {w : World} {g : Nat} {s : Lg} (hI : IsL lo w g s) (hlen : s.E.length < 1000000) :
    Calls Try.prog 15 #[.pointer (some ⟨g, 0, none⟩)] w fun e w' => e = .returned (.tuple #[.int .i64 (takeR s).1, .bool (takeR s).2.1]) ∧ IsL lo w' g (takeR s).2.2 ∧ Below lo w w' ∧ KeepL g w w' := by
  have HI := Aside0.mk hI
  have hlo : lo ≤ w.heap.size := by have := hI.lo_le; have := hI.lt; omega
  have HLO := Aside0.mk hlo
  clear hlo
  by_cases k1 : s.opn > 0
  · rw [show takeR s = (0, false, s) from if_pos k1]
    obtain ⟨ge, h⟩ := hI
    have c2_ := h.c2
    have b1 : decide (0 < s.opn) = true := decide_eq_true k1
    clear k1 h hlen
    go_enter Try.func15, Try.ntmps15
    go_wp2_with (first | (go_at_call 26; (with_reducible refine (is_calls HI.out).mono ?_); rintro e w' ⟨rfl, ⟨nd, rfl⟩⟩))
    go_ret2
    exact ⟨by first | rfl | (simp; done), HI.out.drewN nd, pw_below_drewN (Below.refl _ _) nd, KeepL.of_below (pw_below_drewN (Below.refl _ _) nd)⟩
  · have e1 : takeR s = if best s.E < 0 then (0, false, s) else (best s.E, true, taken s (best s.E)) := if_neg k1
    rw [e1]
    obtain ⟨ge, h⟩ := hI
    have HA0 := Aside0.mk h
    have c0_ := h.c0
    have c2_ := h.c2
    have b1 : decide (0 < s.opn) = false := decide_eq_false k1
    have HL := Aside0.mk hlen
    unfold best
    obtain ⟨res, hres⟩ : ∃ res, res = bestF s.E s.E.length 0 (-1) := ⟨_, rfl⟩
    rw [← hres]
    have HR := Aside0.mk hres
    obtain ⟨⟨r1, r2, r3⟩, htr⟩ : ∃ tr : Int × Bool × Lg, tr = if res < 0 then ((0 : Int), false, s) else (res, true, taken s res) := ⟨_, rfl⟩
    rw [← htr]
    have HTR := Aside0.mk htr
    clear k1 h hlen hres e1 htr
    go_enter Try.func15, Try.ntmps15
    go_wp2_with (first | (go_at_call 26; (with_reducible refine (is_calls HI.out).mono ?_); rintro e w' ⟨rfl, ⟨nd, rfl⟩⟩))
    go_loopg [4, 22] (s.E.length + 1) (fun kq v4 v22 w' => ∃ (b x : Int) (d : Nat), v4 = .int .i64 b ∧ v22 = .int .i64 x ∧ Aside0 (0 ≤ x ∧ x + d = s.E.length) ∧ Aside0 (kq = d + 1) ∧ Aside0 (b = -1 ∨ 0 ≤ b ∧ b < x) ∧ Aside0 (bestF s.E d x b = res) ∧ Aside0 (LAt lo w' g ge s) ∧ Aside0 (Below w.heap.size w w'))
    case atStart => exact ⟨-1, 0, s.E.length, rfl, rfl, ⟨Int.le_refl _, Int.zero_add _⟩, ⟨rfl⟩, ⟨.inl rfl⟩, ⟨by rw [HR.out]⟩, ⟨HA0.out.below (pw_below_drewN (Below.refl _ _) _)⟩, ⟨pw_below_drewN (Below.refl _ _) _⟩⟩
    case round =>
      clear c0_ c2_
      obtain ⟨b, x, d, rfl, rfl, Hn, HK, HBE, HF, HA, HB⟩ := hrel
      cases d with
      | zero =>
        have hb : decide (x < (s.E.length : Int)) = false := decide_eq_false (by have := Hn.out; omega)
        have hnr : b = res := HF.out
        subst hnr
        clear HR
        by_cases k2 : b < 0
        · have b2 : decide (b < 0) = true := decide_eq_true k2
          obtain ⟨rfl, rfl, rfl⟩ : r1 = 0 ∧ r2 = false ∧ r3 = s := by have := HTR.out; rw [if_pos k2] at this; simpa using this
          clear k2 HTR
          go_wp2
          go_ret2
          exact ⟨by first | rfl | (simp; done), ⟨ge, HA.out⟩, below_lower HB.out HLO.out, KeepL.of_below HB.out⟩
        · have b2 : decide (b < 0) = false := decide_eq_false k2
          obtain ⟨rfl, rfl, rfl⟩ : b = r1 ∧ true = r2 ∧ taken s b = r3 := by have := HTR.out; rw [if_neg k2] at this; simp only [Prod.mk.injEq] at this; exact ⟨this.1.symm, this.2.1.symm, this.2.2.symm⟩
          have HBB := Aside0.mk (show 0 ≤ b ∧ b < (s.E.length : Int) by have := HBE.out; have := Hn.out; omega)
          have p3 := eq_true HBB.out.1
          have p4 := eq_true HBB.out.2
          have c0_ := HA.out.c0
          have cS_ := HA.out.cS b HBB.out.1 HBB.out.2
          have fS_ := blk_frozen HA.out.row (b.toNat * 2)
          clear k2 HTR
          go_wp2_with (first | ((with_reducible refine gate_store (t := 3) (p := 57) rfl ?_); refine store_event (t := 3) (p := 57) (v := .const (.int .i64 1)) (w1 := wr.setCell ⟨ge, b.toNat * 2, none⟩ (.int .i64 1)) ?hg ?ho ?hn ?hr ?_; (case ho => rfl); (case hg => rfl); (case hn => rfl); (case hr => first | (go_simp; done) | (go_simp; rfl)); intro wA hw; have hA1 := HA.out.putS b 1; rw [← hw] at hA1; have HA1 := Aside0.mk hA1; have HW1 := Aside0.mk hw; have cc0 : wA.cell? ⟨g, 0, none⟩ = some (.slice (some ⟨ge, 0, none⟩) s.E.length s.E.length) := hA1.c0.trans (by rw [setS_len]); have cce : wA.cell? ⟨ge, b.toNat * 2 + 1, none⟩ = some (.int .i64 (eE s.E b)) := (hA1.cE b HBB.out.1 (by rw [setS_len]; exact HBB.out.2)).trans (by rw [eE_setS]); have cfe := blk_frozen hA1.row (b.toNat * 2 + 1); clear hA1 hw) | ((with_reducible refine gate_store (t := 3) (p := 68) rfl ?_); refine store_event (t := 3) (p := 68) (v := .tmp 66) (w1 := wA.setCell ⟨ge, b.toNat * 2 + 1, none⟩ (.int .i64 (wrap64 (eE s.E b + 1)))) ?hg ?ho ?hn ?hr ?_; (case ho => rfl); (case hg => rfl); (case hn => rfl); (case hr => first | (go_simp; done) | (go_simp; rfl)); intro wB hw; have hB1 := HA1.out.putE b (wrap64 (eE s.E b + 1)); rw [← hw] at hB1; have HA2 := Aside0.mk hB1; have HW2 := Aside0.mk hw; have cb2 := hB1.c2; have cf2 := blk_frozen hB1.blk 2; clear hB1 hw cc0 cce cfe) | ((with_reducible refine gate_store (t := 3) (p := 74) rfl ?_); refine store_event (t := 3) (p := 74) (v := .tmp 72) (w1 := wB.setCell ⟨g, 2, none⟩ (.int .i64 (wrap64 (b + 1)))) ?hg ?ho ?hn ?hr ?_; (case ho => rfl); (case hg => rfl); (case hn => rfl); (case hr => first | (go_simp; done) | (go_simp; rfl)); intro wC hw; have hC1 := HA2.out.putO (wrap64 (b + 1)); rw [← hw] at hC1; have HA3 := Aside0.mk hC1; have HW3 := Aside0.mk hw; have cb3 := hC1.c3; have cf3 := blk_frozen hC1.blk 3; clear hC1 hw cb2 cf2) | ((with_reducible refine gate_store (t := 3) (p := 76) rfl ?_); refine store_event (t := 3) (p := 76) (v := .const (.int .i64 0)) (w1 := wC.setCell ⟨g, 3, none⟩ (.int .i64 0)) ?hg ?ho ?hn ?hr ?_; (case ho => rfl); (case hg => rfl); (case hn => rfl); (case hr => first | (go_simp; done) | (go_simp; rfl)); intro wD hw; have hD1 := HA3.out.putC 0; rw [← hw] at hD1; have HA4 := Aside0.mk hD1; have HW4 := Aside0.mk hw; clear hD1 hw cb3 cf3))
          go_ret2
          have hlt := HA.out.lt
          have hlo := HA.out.lo
          have hbl : Below lo w wD := by
            rw [HW4.out, HW3.out, HW2.out, HW1.out]
            exact ((((below_lower HB.out HLO.out).setCell hlo _).setCell hlo _).setCell (show lo ≤ g by omega) _).setCell (show lo ≤ g by omega) _
          have hkl : KeepL g w wD := by
            rw [HW4.out, HW3.out, HW2.out, HW1.out]
            exact ((((KeepL.of_below HB.out).put (p := ⟨ge, b.toNat * 2, none⟩) (Nat.le_of_lt hlt) _).put (p := ⟨ge, b.toNat * 2 + 1, none⟩) (Nat.le_of_lt hlt) _).put (p := ⟨g, 2, none⟩) (Nat.le_refl _) _).put (p := ⟨g, 3, none⟩) (Nat.le_refl _) _
          exact ⟨by first | rfl | (simp; done), ⟨ge, HA4.out⟩, hbl, hkl⟩
      | succ d =>
        have hb : decide (x < (s.E.length : Int)) = true := decide_eq_true (by have := Hn.out; omega)
        have cS_ := HA.out.cS x Hn.out.1 (by have := Hn.out; omega)
        have cE_ := HA.out.cE x Hn.out.1 (by have := Hn.out; omega)
        have p1 := eq_true Hn.out.1
        have p2 := eq_true (show x < (s.E.length : Int) by have := Hn.out; omega)
        have hw : wrap64 (x + 1) = x + 1 := w64s (by have := Hn.out; omega) (by have := Hn.out; have := HL.out; omega)
        have HW := Aside0.mk hw
        have hf := HF.out
        simp only [bestF] at hf
        clear hw HF HR
        by_cases c5 : eS s.E x = 0
        · have c5b : (eS s.E x == 0) = true := beq_iff_eq.mpr c5
          rw [if_pos c5] at hf
          clear c5
          by_cases c6 : b < 0
          · have c6b : decide (b < 0) = true := decide_eq_true c6
            rw [if_pos c6] at hf
            clear c6
            have HF2 := Aside0.mk hf
            clear hf
            go_wp2_with (first | ((with_reducible refine gate_dst (N := 6) rfl ?_); refine box_event ?hg (N := 6) ?hd (cs := #[.int .i64 0, .int .i64 0]) (t := 55) ?hr ?_; (case hd => rfl); (case hg => rfl); (case hr => first | (go_simp; done) | (go_simp; rfl)); intro gb hg wb hbox hb; have HA1 := Aside0.mk (HA.out.below hb); have HB1 := Aside0.mk (below_step HB.out hb); have HG := Aside0.mk (show g < gb ∧ w.heap.size ≤ gb from ⟨by rw [hg]; exact blk_lt HA.out.blk, by rw [hg]; exact HB.out.size⟩); have HX := Aside0.mk hbox; have hcx0 : wb.cell? ⟨gb, 0, none⟩ = some (.int .i64 0) := (blk_cell hbox 0).trans rfl; have hcx1 : wb.cell? ⟨gb, 1, none⟩ = some (.int .i64 0) := (blk_cell hbox 1).trans rfl; have hfx0 := blk_frozen hbox 0; have hfx1 := blk_frozen hbox 1; clear hbox hb hg HA HB) | ((with_reducible refine gate_store (t := 55) (p := 6) rfl ?_); refine store_event (t := 55) (p := 6) (v := .tmp 26) (w1 := (wb.setCell ⟨gb, 0, none⟩ (.int .i64 (eS s.E x))).setCell ⟨gb, 1, none⟩ (.int .i64 (eE s.E x))) ?hg ?ho ?hn ?hr ?_; (case ho => rfl); (case hg => rfl); (case hn => rfl); (case hr => first | (go_simp; done) | (go_simp; rfl)); intro ws hw; obtain ⟨hA2, hB2, hX2⟩ := box_put (lo := lo) HA1.out HB1.out HG.out.1 HG.out.2 HX.out hw; have HA2 := Aside0.mk hA2; have HB2 := Aside0.mk hB2; have hys0 : ws.cell? ⟨gb, 0, none⟩ = some (.int .i64 (eS s.E x)) := (blk_cell hX2 0).trans rfl; have hys1 : ws.cell? ⟨gb, 1, none⟩ = some (.int .i64 (eE s.E x)) := (blk_cell hX2 1).trans rfl; have d0 := hA2.c0; have d2 := hA2.c2; clear hA2 hB2 hX2 hw HX HA1 HB1 hcx0 hcx1 hfx0 hfx1))
            repeat (go_quiet (fail); try go_wp2)
            go_roundg (d + 1)
            case measure => have := HK.out; omega
            case rel => exact ⟨_, x + 1, d, rfl, by rw [HW.out], ⟨by have := Hn.out; omega, by have := Hn.out; omega⟩, ⟨rfl⟩, ⟨by have := Hn.out; have := HBE.out; omega⟩, HF2, ⟨HA2.out.below (pw_below_drewN (Below.refl _ _) _)⟩, ⟨pw_below_drewN HB2.out _⟩⟩
          · have c6b : decide (b < 0) = false := decide_eq_false c6
            rw [if_neg c6] at hf
            have HBB := Aside0.mk (show 0 ≤ b ∧ b < (s.E.length : Int) by have := HBE.out; have := Hn.out; omega)
            have p3 := eq_true HBB.out.1
            have p4 := eq_true HBB.out.2
            clear c6
            by_cases c7 : eE s.E x < eE s.E b
            · have c7b : decide (eE s.E x < eE s.E b) = true := decide_eq_true c7
              rw [if_pos c7] at hf
              clear c7
              have HF2 := Aside0.mk hf
              clear hf
              go_wp2_with (first | ((with_reducible refine gate_dst (N := 6) rfl ?_); refine box_event ?hg (N := 6) ?hd (cs := #[.int .i64 0, .int .i64 0]) (t := 55) ?hr ?_; (case hd => rfl); (case hg => rfl); (case hr => first | (go_simp; done) | (go_simp; rfl)); intro gb hg wb hbox hb; have HA1 := Aside0.mk (HA.out.below hb); have HB1 := Aside0.mk (below_step HB.out hb); have HG := Aside0.mk (show g < gb ∧ w.heap.size ≤ gb from ⟨by rw [hg]; exact blk_lt HA.out.blk, by rw [hg]; exact HB.out.size⟩); have HX := Aside0.mk hbox; have hcx0 : wb.cell? ⟨gb, 0, none⟩ = some (.int .i64 0) := (blk_cell hbox 0).trans rfl; have hcx1 : wb.cell? ⟨gb, 1, none⟩ = some (.int .i64 0) := (blk_cell hbox 1).trans rfl; have hfx0 := blk_frozen hbox 0; have hfx1 := blk_frozen hbox 1; clear hbox hb hg HA HB) | ((with_reducible refine gate_store (t := 55) (p := 6) rfl ?_); refine store_event (t := 55) (p := 6) (v := .tmp 26) (w1 := (wb.setCell ⟨gb, 0, none⟩ (.int .i64 (eS s.E x))).setCell ⟨gb, 1, none⟩ (.int .i64 (eE s.E x))) ?hg ?ho ?hn ?hr ?_; (case ho => rfl); (case hg => rfl); (case hn => rfl); (case hr => first | (go_simp; done) | (go_simp; rfl)); intro ws hw; obtain ⟨hA2, hB2, hX2⟩ := box_put (lo := lo) HA1.out HB1.out HG.out.1 HG.out.2 HX.out hw; have HA2 := Aside0.mk hA2; have HB2 := Aside0.mk hB2; have hys0 : ws.cell? ⟨gb, 0, none⟩ = some (.int .i64 (eS s.E x)) := (blk_cell hX2 0).trans rfl; have hys1 : ws.cell? ⟨gb, 1, none⟩ = some (.int .i64 (eE s.E x)) := (blk_cell hX2 1).trans rfl; have d0 := hA2.c0; have d2 := hA2.c2; have d5 := hA2.cE b HBB.out.1 HBB.out.2; clear hA2 hB2 hX2 hw HX HA1 HB1 hcx0 hcx1 hfx0 hfx1))
              repeat (go_quiet (fail); try go_wp2)
              go_roundg (d + 1)
              case measure => have := HK.out; omega
              case rel => exact ⟨_, x + 1, d, rfl, by rw [HW.out], ⟨by have := Hn.out; omega, by have := Hn.out; omega⟩, ⟨rfl⟩, ⟨by have := Hn.out; have := HBE.out; omega⟩, HF2, ⟨HA2.out.below (pw_below_drewN (Below.refl _ _) _)⟩, ⟨pw_below_drewN HB2.out _⟩⟩
            · have c7b : decide (eE s.E x < eE s.E b) = false := decide_eq_false c7
              rw [if_neg c7] at hf
              clear c7
              have HF2 := Aside0.mk hf
              clear hf
              go_wp2_with (first | ((with_reducible refine gate_dst (N := 6) rfl ?_); refine box_event ?hg (N := 6) ?hd (cs := #[.int .i64 0, .int .i64 0]) (t := 55) ?hr ?_; (case hd => rfl); (case hg => rfl); (case hr => first | (go_simp; done) | (go_simp; rfl)); intro gb hg wb hbox hb; have HA1 := Aside0.mk (HA.out.below hb); have HB1 := Aside0.mk (below_step HB.out hb); have HG := Aside0.mk (show g < gb ∧ w.heap.size ≤ gb from ⟨by rw [hg]; exact blk_lt HA.out.blk, by rw [hg]; exact HB.out.size⟩); have HX := Aside0.mk hbox; have hcx0 : wb.cell? ⟨gb, 0, none⟩ = some (.int .i64 0) := (blk_cell hbox 0).trans rfl; have hcx1 : wb.cell? ⟨gb, 1, none⟩ = some (.int .i64 0) := (blk_cell hbox 1).trans rfl; have hfx0 := blk_frozen hbox 0; have hfx1 := blk_frozen hbox 1; clear hbox hb hg HA HB) | ((with_reducible refine gate_store (t := 55) (p := 6) rfl ?_); refine store_event (t := 55) (p := 6) (v := .tmp 26) (w1 := (wb.setCell ⟨gb, 0, none⟩ (.int .i64 (eS s.E x))).setCell ⟨gb, 1, none⟩ (.int .i64 (eE s.E x))) ?hg ?ho ?hn ?hr ?_; (case ho => rfl); (case hg => rfl); (case hn => rfl); (case hr => first | (go_simp; done) | (go_simp; rfl)); intro ws hw; obtain ⟨hA2, hB2, hX2⟩ := box_put (lo := lo) HA1.out HB1.out HG.out.1 HG.out.2 HX.out hw; have HA2 := Aside0.mk hA2; have HB2 := Aside0.mk hB2; have hys0 : ws.cell? ⟨gb, 0, none⟩ = some (.int .i64 (eS s.E x)) := (blk_cell hX2 0).trans rfl; have hys1 : ws.cell? ⟨gb, 1, none⟩ = some (.int .i64 (eE s.E x)) := (blk_cell hX2 1).trans rfl; have d0 := hA2.c0; have d2 := hA2.c2; have d5 := hA2.cE b HBB.out.1 HBB.out.2; clear hA2 hB2 hX2 hw HX HA1 HB1 hcx0 hcx1 hfx0 hfx1))
              repeat (go_quiet (fail); try go_wp2)
              go_roundg (d + 1)
              case measure => have := HK.out; omega
              case rel => exact ⟨_, x + 1, d, rfl, by rw [HW.out], ⟨by have := Hn.out; omega, by have := Hn.out; omega⟩, ⟨rfl⟩, ⟨by have := Hn.out; have := HBE.out; omega⟩, HF2, ⟨HA2.out.below (pw_below_drewN (Below.refl _ _) _)⟩, ⟨pw_below_drewN HB2.out _⟩⟩
        · have c5b : (eS s.E x == 0) = false := beq_eq_false_iff_ne.mpr c5
          rw [if_neg c5] at hf
          clear c5
          have HF2 := Aside0.mk hf
          clear hf
          go_wp2_with (first | ((with_reducible refine gate_dst (N := 6) rfl ?_); refine box_event ?hg (N := 6) ?hd (cs := #[.int .i64 0, .int .i64 0]) (t := 55) ?hr ?_; (case hd => rfl); (case hg => rfl); (case hr => first | (go_simp; done) | (go_simp; rfl)); intro gb hg wb hbox hb; have HA1 := Aside0.mk (HA.out.below hb); have HB1 := Aside0.mk (below_step HB.out hb); have HG := Aside0.mk (show g < gb ∧ w.heap.size ≤ gb from ⟨by rw [hg]; exact blk_lt HA.out.blk, by rw [hg]; exact HB.out.size⟩); have HX := Aside0.mk hbox; have hcx0 : wb.cell? ⟨gb, 0, none⟩ = some (.int .i64 0) := (blk_cell hbox 0).trans rfl; have hcx1 : wb.cell? ⟨gb, 1, none⟩ = some (.int .i64 0) := (blk_cell hbox 1).trans rfl; have hfx0 := blk_frozen hbox 0; have hfx1 := blk_frozen hbox 1; clear hbox hb hg HA HB) | ((with_reducible refine gate_store (t := 55) (p := 6) rfl ?_); refine store_event (t := 55) (p := 6) (v := .tmp 26) (w1 := (wb.setCell ⟨gb, 0, none⟩ (.int .i64 (eS s.E x))).setCell ⟨gb, 1, none⟩ (.int .i64 (eE s.E x))) ?hg ?ho ?hn ?hr ?_; (case ho => rfl); (case hg => rfl); (case hn => rfl); (case hr => first | (go_simp; done) | (go_simp; rfl)); intro ws hw; obtain ⟨hA2, hB2, hX2⟩ := box_put (lo := lo) HA1.out HB1.out HG.out.1 HG.out.2 HX.out hw; have HA2 := Aside0.mk hA2; have HB2 := Aside0.mk hB2; have hys0 : ws.cell? ⟨gb, 0, none⟩ = some (.int .i64 (eS s.E x)) := (blk_cell hX2 0).trans rfl; have hys1 : ws.cell? ⟨gb, 1, none⟩ = some (.int .i64 (eE s.E x)) := (blk_cell hX2 1).trans rfl; have d0 := hA2.c0; have d2 := hA2.c2; clear hA2 hB2 hX2 hw HX HA1 HB1 hcx0 hcx1 hfx0 hfx1))
          repeat (go_quiet (fail); try go_wp2)
          go_roundg (d + 1)
          case measure => have := HK.out; omega
          case rel => exact ⟨_, x + 1, d, rfl, by rw [HW.out], ⟨by have := Hn.out; omega, by have := Hn.out; omega⟩, ⟨rfl⟩, ⟨by have := Hn.out; have := HBE.out; omega⟩, HF2, ⟨HA2.out.below (pw_below_drewN (Below.refl _ _) _)⟩, ⟨pw_below_drewN HB2.out _⟩⟩

end Go.Proofs.Ytpjmmmgjiaallaa.M
