/-
  l2p's map and the reference's, both in memory: what each function answers and leaves, told of the pair.
-/
import Derived.Test.YtjcmpfiklmpoaaaRa
namespace Go.Proofs.Ytjcmpfiklmpoaaa.M
open Go.RowKit Go.Maps Go.Proofs.YtjcmpfiklmpoaaaW.PrintWords Go.Proofs.YtjcmpfiklmpoaaaW.PrintLast Go.Proofs.YtjcmpfiklmpoaaaW.PrintMore
set_option linter.unusedVariables false
set_option linter.unusedSimpArgs false
structure P where
  m : St
  r : Rs
def IsP (w0 W : World) (g h : Nat) (p : P) : Prop := IsS49 w0 W g p.m ∧ IsR (g + 1) W h p.r
theorem IsP.below {w0 W : World} {g h : Nat} {s : P} {W1 : World} (H : IsP w0 W g h s) (hw : Below W.heap.size W W1) : IsP w0 W1 g h s := ⟨H.1.below hw, H.2.below hw⟩
theorem IsP.alloc {w0 W : World} {g h : Nat} {s : P} (H : IsP w0 W g h s) (o : Obj) : IsP w0 (W.alloc o) g h s := ⟨H.1.alloc o, H.2.alloc o⟩
theorem IsP.drewN {w0 W : World} {g h : Nat} {s : P} (H : IsP w0 W g h s) (m : Nat) : IsP w0 (W.drewN m) g h s := ⟨H.1.drewN m, H.2.drewN m⟩
theorem IsP.drew {w0 W : World} {g h : Nat} {s : P} (H : IsP w0 W g h s) : IsP w0 W.drew g h s := ⟨H.1.drew, H.2.drew⟩
theorem IsP.ge {w0 W : World} {g h : Nat} {s : P} (H : IsP w0 W g h s) : w0.heap.size ≤ g := H.1.ge
theorem IsP.lt {w0 W : World} {g h : Nat} {s : P} (H : IsP w0 W g h s) : g < W.heap.size := H.1.lt
theorem IsP.ne_blk {w0 W : World} {g h : Nat} {s : P} {a : Nat} {cs : Array Value} {t : TypeId} {fr : Nat × Nat} (H : IsP w0 W g h s) (hb2 : W.heap[a]? = some (.cells cs t fr)) (ht : t ≠ 49) : g ≠ a := H.1.ne_blk hb2 ht
theorem IsR.far {lo : Nat} {W : World} {h : Nat} {s : Rs} (H : IsR lo W h s) {a : Nat} {cs : Array Value} {t : TypeId} {fr : Nat × Nat} (hb : W.heap[a]? = some (.cells cs t fr)) (ht : t ≠ 51) (ht' : t ≠ 3) (j : Nat) (u : Value) : IsR lo (W.setCell ⟨a, j, none⟩ u) h s := by
  obtain ⟨hl, v, hv, hr⟩ := H
  refine ⟨hl, v, ?_, ?_⟩
  · exact (Below.heap_setCell _ ⟨a, j, none⟩ u h (cells_ty hv hb ht)).trans hv
  · refine Kd.R_mono (Kd.R_move (Kd.R_bound hr) (fun k ⟨_, h1, h2, q, hq, cells, hc⟩ => ?_)) (fun _ _ => trivial)
    obtain rfl : q = 3 := by
      have : q ∈ [3] := hq
      simpa using this
    exact Below.heap_setCell _ ⟨a, j, none⟩ u k (cells_ty hc hb ht')
theorem IsP.far3 {w0 W : World} {g h : Nat} {s : P} (H : IsP w0 W g h s) {a : Nat} {cs : Array Value} {t : TypeId} (hb : W.heap[a]? = some (.cells cs t (0, 0))) (ht : t ≠ 49) (ht' : t ≠ 3) (ht2 : t ≠ 51) (u0 u1 u2 : Value) :
    IsP w0 (((W.setCell ⟨a, 0, none⟩ u0).setCell ⟨a, 1, none⟩ u1).setCell ⟨a, 2, none⟩ u2) g h s := by
  refine ⟨H.1.far3 hb ht ht' u0 u1 u2, ?_⟩
  have b1 := blk_set hb 0 u0
  have b2 := blk_set b1 1 u1
  exact ((H.2.far hb ht2 ht' 0 u0).far b1 ht2 ht' 1 u1).far b2 ht2 ht' 2 u2
/-- What they all leave: blocks of other types. -/
def KeepP (w w' : World) : Prop := w.heap.size ≤ w'.heap.size ∧ ∀ (i : Nat) cs t fr, w.heap[i]? = some (.cells cs t fr) → t ≠ 49 → t ≠ 3 → t ≠ 51 → w'.heap[i]? = some (.cells cs t fr)
theorem KeepP.blk {w w' : World} (h : KeepP w w') {i : Nat} {cs : Array Value} {t : TypeId} {fr : Nat × Nat} (hb : w.heap[i]? = some (.cells cs t fr)) (ht : t ≠ 49) (ht' : t ≠ 3) (ht2 : t ≠ 51) : w'.heap[i]? = some (.cells cs t fr) := h.2 i cs t fr hb ht ht' ht2
theorem KeepP.ofT {g : Nat} {w w' : World} (h : KeepT g w w') : KeepP w w' := ⟨h.1, fun i cs t fr hb h1 h2 _ => h.2.1 i cs t fr hb h1 h2⟩
theorem KeepP.ofR {lo : Nat} {w w' : World} (h : KeepR lo w w') : KeepP w w' := ⟨h.1, fun i cs t fr hb _ h2 h3 => h.2.1 i cs t fr hb h3 h2⟩
theorem IsP.ofT {w0 w w' : World} {g h : Nat} {p : P} {m : St} (H : IsP w0 w g h p) (hi : IsS49 w0 w' g m) (hk : KeepT g w w') : IsP w0 w' g h ⟨m, p.r⟩ := ⟨hi, H.2.high fun i h1 h2 => hk.2.2 i (by omega) h2⟩
theorem IsP.ofR {w0 w w' : World} {g h : Nat} {p : P} {r : Rs} (H : IsP w0 w g h p) (hi : IsR (g + 1) w' h r) (hk : KeepR (g + 1) w w') : IsP w0 w' g h ⟨p.m, r⟩ := by
  refine ⟨?_, hi⟩
  obtain ⟨b0, b1, gv, R, S, hA⟩ := H.1
  refine ⟨b0, b1, gv, R, S, hA.kept fun i hi => ?_⟩
  have hlt := hA.lts i hi
  have := hA.lo
  exact hk.2.2 i (by omega) hlt
/- the map's -/
def pm_Set.f (p : P) (a b : Int) : Option (Int × P) := (l2p_Map_Set.f p.m a b).bind fun x => some (x.1, ⟨x.2, p.r⟩)
def pm_Drop.f (p : P) (a : Int) : Option (Bool × P) := (l2p_Map_Drop.f p.m a).bind fun x => some (x.1, ⟨x.2, p.r⟩)
def pm_Row.f (p : P) (a : Int) : Option (Int × Bool × P) := (l2p_Map_Row.f p.m a).bind fun x => some (x.1, x.2.1, ⟨x.2.2, p.r⟩)
def pm_Valid.f (p : P) (a : Int) : Option (Int × P) := (l2p_Map_Valid.f p.m a).bind fun x => some (x.1, ⟨x.2, p.r⟩)
def pm_Len.f (p : P) : Option (Int × P) := (l2p_Map_Len.f p.m).bind fun x => some (x.1, ⟨x.2, p.r⟩)
def pm_Rows.f (k : Nat) (p : P) (a : Int) : Option (List Int × P) := (l2p_Map_Rows.f k p.m a).bind fun x => some (x.1, ⟨x.2, p.r⟩)
theorem pm_Set.calls (g h : Nat) (p : P) (a1 a2 r1 : Int) (r2 : P) (w0 w : World) (hI : IsP w0 w g h p) (hB : Below w0.heap.size w0 w) (hf : pm_Set.f p a1 a2 = some (r1, r2)) :
    Calls Try.prog 9 #[.pointer (some ⟨g, 0, none⟩), .int .i64 a1, .int .i64 a2] w fun e w' => e = .returned (.int .i64 r1) ∧ IsP w0 w' g h r2 ∧ Below w0.heap.size w0 w' ∧ KeepP w w' := by
  obtain ⟨⟨x1, x2⟩, hx, he⟩ := Option.bind_eq_some_iff.mp hf
  obtain ⟨rfl, rfl⟩ : x1 = r1 ∧ ⟨x2, p.r⟩ = r2 := by simpa using he
  refine (l2p_Map_Set.calls g p.m a1 a2 x1 x2 w0 w hI.1 hB hx).mono ?_
  rintro e w' ⟨h1, h2, h3, h4⟩
  exact ⟨h1, hI.ofT h2 h4, h3, .ofT h4⟩
theorem pm_Drop.calls (g h : Nat) (p : P) (a1 : Int) (r1 : Bool) (r2 : P) (w0 w : World) (hI : IsP w0 w g h p) (hB : Below w0.heap.size w0 w) (hf : pm_Drop.f p a1 = some (r1, r2)) :
    Calls Try.prog 11 #[.pointer (some ⟨g, 0, none⟩), .int .i64 a1] w fun e w' => e = .returned (.bool r1) ∧ IsP w0 w' g h r2 ∧ Below w0.heap.size w0 w' ∧ KeepP w w' := by
  obtain ⟨⟨x1, x2⟩, hx, he⟩ := Option.bind_eq_some_iff.mp hf
  obtain ⟨rfl, rfl⟩ : x1 = r1 ∧ ⟨x2, p.r⟩ = r2 := by simpa using he
  refine (l2p_Map_Drop.calls g p.m a1 x1 x2 w0 w hI.1 hB hx).mono ?_
  rintro e w' ⟨h1, h2, h3, h4⟩
  exact ⟨h1, hI.ofT h2 h4, h3, .ofT h4⟩
theorem row_same {s : St} {a : Int} {x : Int × Bool × St} (h : l2p_Map_Row.f s a = some x) : x = ((s.f a).getD 0, (s.f a).isSome, s) ∧ (-9223372036854775808 ≤ a ∧ a ≤ 9223372036854775807) := by
  unfold l2p_Map_Row.f at h
  split at h
  · rename_i c
    exact ⟨(Option.some.inj h).symm, c⟩
  · cases h
theorem pm_Row.calls (g h : Nat) (p : P) (a1 : Int) (r1 : Int) (r2 : Bool) (r3 : P) (w0 w : World) (hI : IsP w0 w g h p) (hB : Below w0.heap.size w0 w) (hf : pm_Row.f p a1 = some (r1, r2, r3)) :
    Calls Try.prog 13 #[.pointer (some ⟨g, 0, none⟩), .int .i64 a1] w fun e w' => e = .returned (.tuple #[.int .i64 r1, .bool r2]) ∧ IsP w0 w' g h r3 ∧ Below w0.heap.size w0 w' ∧ KeepBut w w' g none := by
  obtain ⟨x, hx, he⟩ := Option.bind_eq_some_iff.mp hf
  obtain ⟨rfl, hr⟩ := row_same hx
  obtain ⟨rfl, rfl, rfl⟩ : (p.m.f a1).getD 0 = r1 ∧ (p.m.f a1).isSome = r2 ∧ ⟨p.m, p.r⟩ = r3 := by simpa using he
  refine (l2p_Row_drawn a1 hI.1 hr).mono ?_
  rintro e w' ⟨rfl, ⟨nd, rfl⟩⟩
  exact ⟨rfl, hI.drewN nd, pw_below_drewN hB nd, keep_drewN (KeepBut.refl w g none) nd⟩
theorem pm_Valid.calls (g h : Nat) (p : P) (a1 : Int) (r1 : Int) (r2 : P) (w0 w : World) (hI : IsP w0 w g h p) (hB : Below w0.heap.size w0 w) (hf : pm_Valid.f p a1 = some (r1, r2)) :
    Calls Try.prog 18 #[.pointer (some ⟨g, 0, none⟩), .int .i64 a1] w fun e w' => e = .returned (.int .i64 r1) ∧ IsP w0 w' g h r2 ∧ Below w0.heap.size w0 w' ∧ KeepBut w w' g none := by
  obtain ⟨x, hx, he⟩ := Option.bind_eq_some_iff.mp hf
  obtain rfl := Option.some.inj hx
  obtain ⟨rfl, rfl⟩ : _ = r1 ∧ ⟨p.m, p.r⟩ = r2 := by simpa using he
  refine (l2p_Valid_drawn a1 hI.1).mono ?_
  rintro e w' ⟨rfl, ⟨nd, rfl⟩⟩
  exact ⟨rfl, hI.drewN nd, pw_below_drewN hB nd, keep_drewN (KeepBut.refl w g none) nd⟩
theorem pm_Len.calls (g h : Nat) (p : P) (r1 : Int) (r2 : P) (w0 w : World) (hI : IsP w0 w g h p) (hB : Below w0.heap.size w0 w) (hf : pm_Len.f p = some (r1, r2)) :
    Calls Try.prog 19 #[.pointer (some ⟨g, 0, none⟩)] w fun e w' => e = .returned (.int .i64 r1) ∧ IsP w0 w' g h r2 ∧ Below w0.heap.size w0 w' ∧ KeepBut w w' g none := by
  obtain ⟨x, hx, he⟩ := Option.bind_eq_some_iff.mp hf
  obtain rfl := Option.some.inj hx
  obtain ⟨rfl, rfl⟩ : _ = r1 ∧ ⟨p.m, p.r⟩ = r2 := by simpa using he
  refine (l2p_Len_drawn hI.1).mono ?_
  rintro e w' ⟨rfl, ⟨nd, rfl⟩⟩
  exact ⟨rfl, hI.drewN nd, pw_below_drewN hB nd, keep_drewN (KeepBut.refl w g none) nd⟩
theorem pm_Rows.calls (k : Nat) (g h : Nat) (p : P) (a1 : Int) (r1 : List Int) (r2 : P) (w0 w : World) (hI : IsP w0 w g h p) (hB : Below w0.heap.size w0 w) (hf : pm_Rows.f k p a1 = some (r1, r2)) :
    Calls Try.prog 16 #[.pointer (some ⟨g, 0, none⟩), .int .i64 a1] w fun e w' => ∃ v0_ : Value, e = .returned (v0_) ∧ Kd.R (Kd.int .i64) 3 w' w.heap.size (fun _ => True) v0_ r1 ∧ IsP w0 w' g h r2 ∧ Below w0.heap.size w0 w' ∧ KeepBut w w' g none := by
  obtain ⟨⟨x1, x2⟩, hx, he⟩ := Option.bind_eq_some_iff.mp hf
  obtain ⟨rfl, rfl⟩ : x1 = r1 ∧ ⟨x2, p.r⟩ = r2 := by simpa using he
  refine (l2p_Map_Rows.calls k g p.m a1 x1 x2 w0 w hI.1 hB hx).mono ?_
  rintro e w' ⟨v, h1, h2, h3, h4, h5⟩
  exact ⟨v, h1, h2, ⟨h3, hI.2.high fun i k1 k2 => h5.2 i k2 (by omega) (by simp)⟩, h4, h5⟩
/- the reference's -/
theorem IsR.lower {lo lo' : Nat} {W : World} {h : Nat} {s : Rs} (H : IsR lo W h s) (hl : lo' ≤ lo) : IsR lo' W h s := by
  obtain ⟨h1, v, hv, hr⟩ := H
  exact ⟨by omega, v, hv, Kd.R_lower hr hl⟩
instance (a0 a1 a2 : Int) : Decidable (rNewOk a0 a1 a2) := by unfold rNewOk; infer_instance
def pr_New.f (s : St) (a0 a1 a2 : Int) : Option (Int × P) := if rNewOk a0 a1 a2 then some (0, ⟨s, rNew a0 a1 a2⟩) else none
theorem pr_New.calls (g : Nat) (s : St) (a0 a1 a2 r1 : Int) (r2 : P) (w0 w : World) (hI : IsS49 w0 w g s) (hB : Below w0.heap.size w0 w) (hf : pr_New.f s a0 a1 a2 = some (r1, r2)) :
    Calls Try.prog 8 #[.int .i64 a0, .int .i64 a1, .int .i64 a2] w fun e w' => ∃ h : Nat, e = .returned (.pointer (some ⟨h, 0, none⟩)) ∧ IsP w0 w' g h r2 ∧ Below w0.heap.size w0 w' ∧ Below w.heap.size w w' := by
  unfold pr_New.f at hf
  split at hf
  · rename_i hok
    obtain ⟨rfl, rfl⟩ : 0 = r1 ∧ ⟨s, rNew a0 a1 a2⟩ = r2 := by simpa using hf
    refine (r_New_calls a0 a1 a2 hok).mono ?_
    rintro e w' ⟨h, h1, h2, h3⟩
    exact ⟨h, h1, ⟨hI.below h3, h2.lower hI.lt⟩, below_step hB h3, h3⟩
  · cases hf
def pr_Set.f (p : P) (a b : Int) : Option (Int × P) := if p.r.A.length < 1000000 then some ((rSet p.r a b).1, ⟨p.m, (rSet p.r a b).2⟩) else none
def pr_Drop.f (p : P) (a : Int) : Option (Bool × P) := if p.r.A.length < 1000000 then some (decide (rRow p.r.A a ≥ 0), ⟨p.m, { p.r with A := rDrop p.r.A a }⟩) else none
def pr_Row.f (p : P) (a : Int) : Option (Int × P) := if p.r.A.length < 1000000 then some (rRow p.r.A a, p) else none
def pr_Rows.f (p : P) (a : Int) : Option (List Int × P) := if p.r.A.length < 1000000 ∧ p.r.n2 ≠ 0 then some (rRows p.r a, p) else none
theorem below_lo {lo : Nat} {w0 w w' : World} (hB : Below w0.heap.size w0 w) (h : Below lo w w') (hl : w0.heap.size ≤ lo) : Below w0.heap.size w0 w' :=
  ⟨h.os.trans hB.os, h.tape.trans hB.tape, h.output.trans hB.output, Nat.le_trans hB.size h.size, fun k hk => (h.block k (by omega)).trans (hB.block k hk)⟩
theorem pr_Set.calls (g h : Nat) (p : P) (a1 a2 r1 : Int) (r2 : P) (w0 w : World) (hI : IsP w0 w g h p) (hB : Below w0.heap.size w0 w) (hf : pr_Set.f p a1 a2 = some (r1, r2)) :
    Calls Try.prog 10 #[.pointer (some ⟨h, 0, none⟩), .int .i64 a1, .int .i64 a2] w fun e w' => e = .returned (.int .i64 r1) ∧ IsP w0 w' g h r2 ∧ Below w0.heap.size w0 w' ∧ KeepP w w' := by
  unfold pr_Set.f at hf
  split at hf
  · rename_i hok
    obtain ⟨rfl, rfl⟩ : (rSet p.r a1 a2).1 = r1 ∧ ⟨p.m, (rSet p.r a1 a2).2⟩ = r2 := by simpa using hf
    refine (r_Set_calls a1 a2 hI.2 hok).mono ?_
    rintro e w' ⟨h1, h2, h3, h4⟩
    exact ⟨h1, hI.ofR h2 h4, below_lo hB h3 (by have := hI.ge; omega), .ofR h4⟩
  · cases hf
theorem pr_Drop.calls (g h : Nat) (p : P) (a1 : Int) (r1 : Bool) (r2 : P) (w0 w : World) (hI : IsP w0 w g h p) (hB : Below w0.heap.size w0 w) (hf : pr_Drop.f p a1 = some (r1, r2)) :
    Calls Try.prog 12 #[.pointer (some ⟨h, 0, none⟩), .int .i64 a1] w fun e w' => e = .returned (.bool r1) ∧ IsP w0 w' g h r2 ∧ Below w0.heap.size w0 w' ∧ KeepP w w' := by
  unfold pr_Drop.f at hf
  split at hf
  · rename_i hok
    obtain ⟨rfl, rfl⟩ : decide (rRow p.r.A a1 ≥ 0) = r1 ∧ ⟨p.m, { p.r with A := rDrop p.r.A a1 }⟩ = r2 := by simpa using hf
    refine (r_Drop_calls a1 hI.2 hok).mono ?_
    rintro e w' ⟨h1, h2, h3, h4⟩
    exact ⟨h1, hI.ofR h2 h4, below_lo hB h3 (by have := hI.ge; omega), .ofR h4⟩
  · cases hf
theorem pr_Row.calls (g h : Nat) (p : P) (a1 : Int) (r1 : Int) (r2 : P) (w0 w : World) (hI : IsP w0 w g h p) (hB : Below w0.heap.size w0 w) (hf : pr_Row.f p a1 = some (r1, r2)) :
    Calls Try.prog 14 #[.pointer (some ⟨h, 0, none⟩), .int .i64 a1] w fun e w' => e = .returned (.int .i64 r1) ∧ IsP w0 w' g h r2 ∧ Below w0.heap.size w0 w' ∧ KeepBut w w' g none := by
  unfold pr_Row.f at hf
  split at hf
  · rename_i hok
    obtain ⟨rfl, rfl⟩ : rRow p.r.A a1 = r1 ∧ p = r2 := by simpa using hf
    refine (r_Row_drawn a1 hI.2 hok).mono ?_
    rintro e w' ⟨rfl, ⟨nd, rfl⟩⟩
    exact ⟨rfl, hI.drewN nd, pw_below_drewN hB nd, keep_drewN (KeepBut.refl w g none) nd⟩
  · cases hf
theorem pr_Rows.calls (g h : Nat) (p : P) (a1 : Int) (r1 : List Int) (r2 : P) (w0 w : World) (hI : IsP w0 w g h p) (hB : Below w0.heap.size w0 w) (hf : pr_Rows.f p a1 = some (r1, r2)) :
    Calls Try.prog 17 #[.pointer (some ⟨h, 0, none⟩), .int .i64 a1] w fun e w' => ∃ v0_ : Value, e = .returned (v0_) ∧ Kd.R (Kd.int .i64) 3 w' w.heap.size (fun _ => True) v0_ r1 ∧ IsP w0 w' g h r2 ∧ Below w0.heap.size w0 w' ∧ KeepBut w w' g none := by
  unfold pr_Rows.f at hf
  split at hf
  · rename_i hok
    obtain ⟨rfl, rfl⟩ : rRows p.r a1 = r1 ∧ p = r2 := by simpa using hf
    refine (r_Rows_fresh a1 hI.2 hok.1 hok.2).mono ?_
    rintro e w' ⟨v, h1, h2, h3⟩
    exact ⟨v, h1, h2, hI.below h3, below_step hB h3, KeepBut.of_below h3 g none⟩
  · cases hf
end Go.Proofs.Ytjcmpfiklmpoaaa.M
