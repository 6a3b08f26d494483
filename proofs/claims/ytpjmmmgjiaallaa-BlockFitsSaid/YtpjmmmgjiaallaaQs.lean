/-
  The reference's ledger in memory: its struct, its two rows of numbers; Is, Advance, Set, Free, End: what they answer and leave.
-/
import Derived.Test.YtpjmmmgjiaallaaLt
namespace Go.Proofs.Ytpjmmmgjiaallaa.M
open Go.RowKit Go.Proofs.YtpjmmmgjiaallaaW.PrintWords Go.Proofs.YtpjmmmgjiaallaaW.PrintLast Go.Proofs.YtpjmmmgjiaallaaW.PrintMore
set_option linter.unusedVariables false
set_option linter.unusedSimpArgs false
structure Rg where
  S : List Int
  E : List Int
  pages : Int
  opn : Int
  cur : Int
abbrev RowI (W : World) (lo : Nat) (v : Value) (xs : List Int) : Prop := Kd.R (Kd.int .i64) 3 W lo (fun _ => True) v xs
structure QAt (lo : Nat) (W : World) (h a1 k1 a2 k2 : Nat) (r : Rg) : Prop where
  blk : W.heap[h]? = some (.cells #[.slice (some ⟨a1, 0, none⟩) r.S.length k1, .slice (some ⟨a2, 0, none⟩) r.S.length k2, .int .i64 r.pages, .int .i64 r.opn, .int .i64 r.cur] 37 (0, 0))
  r1 : RowI W lo (.slice (some ⟨a1, 0, none⟩) r.S.length k1) r.S
  r2 : RowI W lo (.slice (some ⟨a2, 0, none⟩) r.S.length k2) r.E
  ne : a1 ≠ a2
  lo : lo ≤ h
def IsQ (lo : Nat) (W : World) (h : Nat) (r : Rg) : Prop := ∃ a1 k1 a2 k2, QAt lo W h a1 k1 a2 k2 r
theorem row_blk {lo : Nat} {w : World} {a n k : Nat} {xs : List Int} (hr : RowI w lo (.slice (some ⟨a, 0, none⟩) n k) xs) : lo ≤ a ∧ a < w.heap.size ∧ ∃ cells, w.heap[a]? = some (.cells cells 3 (0, 0)) := by
  obtain ⟨_, h1, h2, q, hq, cells, hc⟩ := (Kd.R_bound hr).1 a rfl
  obtain rfl : q = 3 := by
    have : q ∈ [3] := hq
    simpa using this
  exact ⟨h1, h2, cells, hc⟩
theorem QAt.len {lo : Nat} {W : World} {h a1 k1 a2 k2 : Nat} {r : Rg} (H : QAt lo W h a1 k1 a2 k2 r) : r.S.length = r.E.length := (Kd.R_reads' H.r2).1
theorem QAt.high {lo : Nat} {W W1 : World} {h a1 k1 a2 k2 : Nat} {r : Rg} (H : QAt lo W h a1 k1 a2 k2 r) (hk : ∀ i, lo ≤ i → i < W.heap.size → W1.heap[i]? = W.heap[i]?) : QAt lo W1 h a1 k1 a2 k2 r :=
  ⟨(hk h H.lo (blk_lt H.blk)).trans H.blk, Kd.R_mono (Kd.R_move (Kd.R_bound H.r1) (fun k ⟨_, h1, h2, _⟩ => hk k h1 h2)) (fun _ _ => trivial), Kd.R_mono (Kd.R_move (Kd.R_bound H.r2) (fun k ⟨_, h1, h2, _⟩ => hk k h1 h2)) (fun _ _ => trivial), H.ne, H.lo⟩
theorem QAt.below {lo : Nat} {W W1 : World} {h a1 k1 a2 k2 : Nat} {r : Rg} (H : QAt lo W h a1 k1 a2 k2 r) (hb : Below W.heap.size W W1) : QAt lo W1 h a1 k1 a2 k2 r := H.high fun i _ hi => hb.block i hi
theorem IsQ.high {lo : Nat} {W W1 : World} {h : Nat} {r : Rg} (H : IsQ lo W h r) (hk : ∀ i, lo ≤ i → i < W.heap.size → W1.heap[i]? = W.heap[i]?) : IsQ lo W1 h r := by
  obtain ⟨a1, k1, a2, k2, H⟩ := H
  exact ⟨a1, k1, a2, k2, H.high hk⟩
theorem IsQ.below {lo : Nat} {W W1 : World} {h : Nat} {r : Rg} (H : IsQ lo W h r) (hb : Below W.heap.size W W1) : IsQ lo W1 h r := H.high fun i _ hi => hb.block i hi
theorem IsQ.drewN {lo : Nat} {W : World} {h : Nat} {r : Rg} (H : IsQ lo W h r) (m : Nat) : IsQ lo (W.drewN m) h r := H.below (pw_below_drewN (Below.refl _ _) m)
theorem IsQ.lt {lo : Nat} {W : World} {h : Nat} {r : Rg} (H : IsQ lo W h r) : h < W.heap.size := by
  obtain ⟨a1, k1, a2, k2, H⟩ := H
  exact blk_lt H.blk
/-- Another block, of another type, is written. -/
theorem QAt.far {lo : Nat} {W : World} {h a1 k1 a2 k2 : Nat} {r : Rg} (H : QAt lo W h a1 k1 a2 k2 r) {a : Nat} {cs : Array Value} {t : TypeId} {fr : Nat × Nat} (hb : W.heap[a]? = some (.cells cs t fr)) (ht : t ≠ 37) (ht' : t ≠ 3) (j : Nat) (u : Value) : QAt lo (W.setCell ⟨a, j, none⟩ u) h a1 k1 a2 k2 r := by
  have ne : ∀ {b : Nat} {cs' : Array Value} {t' : TypeId} {fr' : Nat × Nat}, W.heap[b]? = some (.cells cs' t' fr') → t' ≠ t → b ≠ a := by
    rintro b cs' t' fr' hb' hne rfl
    rw [hb] at hb'
    injection hb' with hb'
    injection hb' with _ e
    exact hne e.symm
  have mv : ∀ {v xs}, RowI W lo v xs → RowI (W.setCell ⟨a, j, none⟩ u) lo v xs := by
    intro v xs hr
    refine Kd.R_mono (Kd.R_move (Kd.R_bound hr) (fun k ⟨_, h1, h2, q, hq, cells, hc⟩ => ?_)) (fun _ _ => trivial)
    obtain rfl : q = 3 := by
      have : q ∈ [3] := hq
      simpa using this
    exact Below.heap_setCell _ ⟨a, j, none⟩ u k (ne hc (Ne.symm ht'))
  exact ⟨(Below.heap_setCell _ ⟨a, j, none⟩ u h (ne H.blk (Ne.symm ht))).trans H.blk, mv H.r1, mv H.r2, H.ne, H.lo⟩
theorem QAt.cS {lo : Nat} {W : World} {h a1 k1 a2 k2 : Nat} {r : Rg} (H : QAt lo W h a1 k1 a2 k2 r) (i : Int) (h0 : 0 ≤ i) (h1 : i < (r.S.length : Int)) : W.cell? ⟨a1, i.toNat, none⟩ = some (.int .i64 (rd r.S i)) := (Kd.R_celln 0 H.r1 i h0 h1).1
theorem QAt.fS {lo : Nat} {W : World} {h a1 k1 a2 k2 : Nat} {r : Rg} (H : QAt lo W h a1 k1 a2 k2 r) (i : Int) (h0 : 0 ≤ i) (h1 : i < (r.S.length : Int)) : W.frozen? ⟨a1, i.toNat, none⟩ = false := (Kd.R_celln 0 H.r1 i h0 h1).2
theorem QAt.cE {lo : Nat} {W : World} {h a1 k1 a2 k2 : Nat} {r : Rg} (H : QAt lo W h a1 k1 a2 k2 r) (i : Int) (h0 : 0 ≤ i) (h1 : i < (r.S.length : Int)) : W.cell? ⟨a2, i.toNat, none⟩ = some (.int .i64 (rd r.E i)) := (Kd.R_celln 0 H.r2 i h0 h1).1
theorem QAt.fE {lo : Nat} {W : World} {h a1 k1 a2 k2 : Nat} {r : Rg} (H : QAt lo W h a1 k1 a2 k2 r) (i : Int) (h0 : 0 ≤ i) (h1 : i < (r.S.length : Int)) : W.frozen? ⟨a2, i.toNat, none⟩ = false := (Kd.R_celln 0 H.r2 i h0 h1).2
theorem QAt.c0 {lo : Nat} {W : World} {h a1 k1 a2 k2 : Nat} {r : Rg} (H : QAt lo W h a1 k1 a2 k2 r) : W.cell? ⟨h, 0, none⟩ = some (.slice (some ⟨a1, 0, none⟩) r.S.length k1) := (blk_cell H.blk 0).trans rfl
theorem QAt.c1 {lo : Nat} {W : World} {h a1 k1 a2 k2 : Nat} {r : Rg} (H : QAt lo W h a1 k1 a2 k2 r) : W.cell? ⟨h, 1, none⟩ = some (.slice (some ⟨a2, 0, none⟩) r.S.length k2) := (blk_cell H.blk 1).trans rfl
theorem QAt.c2 {lo : Nat} {W : World} {h a1 k1 a2 k2 : Nat} {r : Rg} (H : QAt lo W h a1 k1 a2 k2 r) : W.cell? ⟨h, 2, none⟩ = some (.int .i64 r.pages) := (blk_cell H.blk 2).trans rfl
theorem QAt.c3 {lo : Nat} {W : World} {h a1 k1 a2 k2 : Nat} {r : Rg} (H : QAt lo W h a1 k1 a2 k2 r) : W.cell? ⟨h, 3, none⟩ = some (.int .i64 r.opn) := (blk_cell H.blk 3).trans rfl
theorem QAt.c4 {lo : Nat} {W : World} {h a1 k1 a2 k2 : Nat} {r : Rg} (H : QAt lo W h a1 k1 a2 k2 r) : W.cell? ⟨h, 4, none⟩ = some (.int .i64 r.cur) := (blk_cell H.blk 4).trans rfl
theorem QAt.hne {lo : Nat} {W : World} {h a1 k1 a2 k2 : Nat} {r : Rg} (H : QAt lo W h a1 k1 a2 k2 r) : h ≠ a1 ∧ h ≠ a2 := by
  obtain ⟨_, _, c1, e1⟩ := row_blk H.r1
  obtain ⟨_, _, c2, e2⟩ := row_blk H.r2
  constructor
  · rintro rfl
    rw [H.blk] at e1
    injection e1 with e1
    injection e1 with _ e1
    cases e1
  · rintro rfl
    rw [H.blk] at e2
    injection e2 with e2
    injection e2 with _ e2
    cases e2
theorem row_far {lo : Nat} {W : World} {a n k b j : Nat} {xs : List Int} {u : Value} (hr : RowI W lo (.slice (some ⟨a, 0, none⟩) n k) xs) (hne : a ≠ b) : RowI (W.setCell ⟨b, j, none⟩ u) lo (.slice (some ⟨a, 0, none⟩) n k) xs := by
  refine Kd.R_mono (Kd.R_move (Kd.R_tight2 rfl hr) fun i hi => ?_) (fun _ _ => trivial)
  have : i = a := by
    have := hi.1
    simpa [Value.ownBlock] using this
  subst this
  exact Below.heap_setCell W ⟨b, j, none⟩ u i hne
theorem QAt.putS {lo : Nat} {W : World} {h a1 k1 a2 k2 : Nat} {r : Rg} (H : QAt lo W h a1 k1 a2 k2 r) (i x : Int) : QAt lo (W.setCell ⟨a1, i.toNat, none⟩ (.int .i64 x)) h a1 k1 a2 k2 { r with S := r.S.set i.toNat x } := by
  refine ⟨?_, ?_, ?_, H.ne, H.lo⟩
  · show _ = some (Obj.cells #[.slice (some ⟨a1, 0, none⟩) (r.S.set i.toNat x).length k1, .slice (some ⟨a2, 0, none⟩) (r.S.set i.toNat x).length k2, _, _, _] 37 (0, 0))
    rw [List.length_set]
    exact blk_far (p := ⟨a1, i.toNat, none⟩) H.blk H.hne.1 _
  · show RowI _ lo (.slice (some ⟨a1, 0, none⟩) (r.S.set i.toNat x).length k1) (r.S.set i.toNat x)
    rw [List.length_set]
    exact Kd.R_putn H.r1 i x
  · show RowI _ lo (.slice (some ⟨a2, 0, none⟩) (r.S.set i.toNat x).length k2) r.E
    rw [List.length_set]
    exact row_far H.r2 (Ne.symm H.ne)
theorem QAt.putE {lo : Nat} {W : World} {h a1 k1 a2 k2 : Nat} {r : Rg} (H : QAt lo W h a1 k1 a2 k2 r) (i x : Int) : QAt lo (W.setCell ⟨a2, i.toNat, none⟩ (.int .i64 x)) h a1 k1 a2 k2 { r with E := r.E.set i.toNat x } :=
  ⟨blk_far (p := ⟨a2, i.toNat, none⟩) H.blk H.hne.2 _, row_far H.r1 H.ne, Kd.R_putn H.r2 i x, H.ne, H.lo⟩
theorem QAt.putO {lo : Nat} {W : World} {h a1 k1 a2 k2 : Nat} {r : Rg} (H : QAt lo W h a1 k1 a2 k2 r) (x : Int) : QAt lo (W.setCell ⟨h, 3, none⟩ (.int .i64 x)) h a1 k1 a2 k2 { r with opn := x } :=
  ⟨blk_put H.blk 3 _ rfl, row_far H.r1 (Ne.symm H.hne.1), row_far H.r2 (Ne.symm H.hne.2), H.ne, H.lo⟩
theorem QAt.putC {lo : Nat} {W : World} {h a1 k1 a2 k2 : Nat} {r : Rg} (H : QAt lo W h a1 k1 a2 k2 r) (x : Int) : QAt lo (W.setCell ⟨h, 4, none⟩ (.int .i64 x)) h a1 k1 a2 k2 { r with cur := x } :=
  ⟨blk_put H.blk 4 _ rfl, row_far H.r1 (Ne.symm H.hne.1), row_far H.r2 (Ne.symm H.hne.2), H.ne, H.lo⟩
/-- What the reference's functions leave: whatever is older than lo, and blocks of other types. -/
def KeepR (lo : Nat) (w w' : World) : Prop := w.heap.size ≤ w'.heap.size ∧ (∀ (i : Nat) cs t fr, w.heap[i]? = some (.cells cs t fr) → t ≠ 37 → t ≠ 3 → w'.heap[i]? = some (.cells cs t fr)) ∧ ∀ i, i < lo → i < w.heap.size → w'.heap[i]? = w.heap[i]?
theorem KeepR.of_below {lo : Nat} {w w' : World} (h : Below w.heap.size w w') : KeepR lo w w' := ⟨h.size, fun i _ _ _ hb _ _ => (h.block i (blk_lt hb)).trans hb, fun i _ hi => h.block i hi⟩
theorem KeepR.trans {lo : Nat} {w w1 w2 : World} (h : KeepR lo w w1) (k : KeepR lo w1 w2) : KeepR lo w w2 :=
  ⟨Nat.le_trans h.1 k.1, fun i cs t fr hb h1 h2 => k.2.1 i cs t fr (h.2.1 i cs t fr hb h1 h2) h1 h2, fun i hi hl => (k.2.2 i hi (Nat.lt_of_lt_of_le hl h.1)).trans (h.2.2 i hi hl)⟩
theorem KeepR.put {lo : Nat} {w w1 : World} (h : KeepR lo w w1) {a : Nat} {cs : Array Value} {t : TypeId} (hb : w1.heap[a]? = some (.cells cs t (0, 0))) (ht : t = 37 ∨ t = 3) (hl : lo ≤ a) (j : Nat) (u : Value) : KeepR lo w (w1.setCell ⟨a, j, none⟩ u) := by
  refine h.trans ⟨by simp [World.setCell], fun i cs' t' fr hi h1 h2 => ?_, fun i hi _ => ?_⟩
  · refine (Below.heap_setCell w1 ⟨a, j, none⟩ u i ?_).trans hi
    rintro rfl
    rw [hb] at hi
    injection hi with hi
    injection hi with _ e
    rcases ht with ht | ht
    · exact h1 (e ▸ ht)
    · exact h2 (e ▸ ht)
  · exact Below.heap_setCell w1 ⟨a, j, none⟩ u i (show i ≠ a by omega)
set_option maxHeartbeats 8000000 in
theorem qIs_calls {lo : Nat} {w : World} {h : Nat} {r : Rg} (i : Int) (H : IsQ lo w h r) :
    Calls Try.prog 13 #[.pointer (some ⟨h, 0, none⟩), .int .i64 i] w fun e w' => e = .returned (.bool (decide (0 ≤ i ∧ i < (r.S.length : Int)))) ∧ Drawn0 w w' := by
  obtain ⟨a1, k1, a2, k2, H⟩ := H
  have c0_ := H.c0
  clear H
  by_cases p0 : 0 ≤ i
  · have b0 : decide (0 ≤ i) = true := decide_eq_true p0
    by_cases p1 : i < (r.S.length : Int)
    · rw [decide_eq_true (And.intro p0 p1)]
      have b1 : decide (i < (r.S.length : Int)) = true := decide_eq_true p1
      clear p0 p1
      go_enter Try.func13, Try.ntmps13
      go_wp2
      go_ret
      exact ⟨by first | rfl | (simp; done), by repeat (first | exact Drawn0.refl _ | apply Drawn0.step | exact ⟨_, rfl⟩)⟩
    · rw [decide_eq_false (fun h : 0 ≤ i ∧ i < (r.S.length : Int) => p1 h.2)]
      have b1 : decide (i < (r.S.length : Int)) = false := decide_eq_false p1
      clear p0 p1
      go_enter Try.func13, Try.ntmps13
      go_wp2
      go_ret
      exact ⟨by first | rfl | (simp; done), by repeat (first | exact Drawn0.refl _ | apply Drawn0.step | exact ⟨_, rfl⟩)⟩
  · rw [decide_eq_false (fun h : 0 ≤ i ∧ i < (r.S.length : Int) => p0 h.1)]
    have b0 : decide (0 ≤ i) = false := decide_eq_false p0
    clear p0
    go_enter Try.func13, Try.ntmps13
    go_wp2
    go_ret
    exact ⟨by first | rfl | (simp; done), by repeat (first | exact Drawn0.refl _ | apply Drawn0.step | exact ⟨_, rfl⟩)⟩
/- Advance -/
def qAdv (r : Rg) (n : Int) : Int × Rg := if r.opn < 0 then (33, r) else (if n < 0 ∨ wrap64 (r.pages - r.cur) < n then (2, r) else (0, { r with cur := wrap64 (r.cur + n) }))
set_option maxHeartbeats 8000000 in
theorem qAdv_calls {lo : Nat} {w : World} {h : Nat} {r : Rg} (n : Int) (H : IsQ lo w h r) :
    Calls Try.prog 23 #[.pointer (some ⟨h, 0, none⟩), .int .i64 n] w fun e w' => e = .returned (.int .i64 (qAdv r n).1) ∧ IsQ lo w' h (qAdv r n).2 ∧ Below lo w w' ∧ KeepR lo w w' := by
  obtain ⟨a1, k1, a2, k2, H⟩ := H
  have HQ := Aside0.mk H
  have c2_ := H.c2
  have c3_ := H.c3
  have c4_ := H.c4
  have f4_ := blk_frozen H.blk 4
  have same : ∀ nd : Nat, IsQ lo (w.drewN nd) h r ∧ Below lo w (w.drewN nd) ∧ KeepR lo w (w.drewN nd) := fun nd => ⟨⟨a1, k1, a2, k2, HQ.out.below (pw_below_drewN (Below.refl _ _) nd)⟩, pw_below_drewN (Below.refl _ _) nd, KeepR.of_below (pw_below_drewN (Below.refl _ _) nd)⟩
  have HS := Aside0.mk same
  clear H same
  by_cases p0 : r.opn < 0
  · rw [show qAdv r n = (33, r) from if_pos p0]
    have b0 : decide (r.opn < 0) = true := decide_eq_true p0
    clear p0
    go_enter Try.func23, Try.ntmps23
    go_wp2
    go_ret
    exact ⟨by first | rfl | (simp; done), HS.out 0⟩
  have b0 : decide (r.opn < 0) = false := decide_eq_false p0
  rw [show qAdv r n = if n < 0 ∨ wrap64 (r.pages - r.cur) < n then (2, r) else (0, { r with cur := wrap64 (r.cur + n) }) from if_neg p0]
  clear p0
  by_cases p1 : n < 0
  · rw [if_pos (.inl p1)]
    have b1 : decide (n < 0) = true := decide_eq_true p1
    clear p1
    go_enter Try.func23, Try.ntmps23
    go_wp2
    repeat (go_quiet (fail); try go_wp2)
    go_ret
    exact ⟨by first | rfl | (simp; done), HS.out _⟩
  have b1 : decide (n < 0) = false := decide_eq_false p1
  by_cases p2 : wrap64 (r.pages - r.cur) < n
  · rw [if_pos (.inr p2)]
    have b2 : decide (wrap64 (r.pages - r.cur) < n) = true := decide_eq_true p2
    clear p1 p2
    go_enter Try.func23, Try.ntmps23
    go_wp2
    repeat (go_quiet (fail); try go_wp2)
    go_ret
    exact ⟨by first | rfl | (simp; done), HS.out _⟩
  rw [if_neg (by rintro (h | h); exact p1 h; exact p2 h)]
  have b2 : decide (wrap64 (r.pages - r.cur) < n) = false := decide_eq_false p2
  clear p1 p2
  go_enter Try.func23, Try.ntmps23
  go_wp2
  repeat (go_quiet (fail); try go_wp2)
  go_ret
  exact ⟨by first | rfl | (simp; done), ⟨a1, k1, a2, k2, (HQ.out.below (pw_below_drewN (Below.refl _ _) _)).putC _⟩, (pw_below_drewN (Below.refl _ _) _).setCell HQ.out.lo _, (KeepR.of_below (pw_below_drewN (Below.refl _ _) _)).put (HQ.out.below (pw_below_drewN (Below.refl _ _) _)).blk (.inl rfl) HQ.out.lo _ _⟩
/- End -/
def qEnd (r : Rg) (st : Int) : Int × Rg := if r.opn < 0 then (33, r) else (0, { r with S := r.S.set r.opn.toNat st, opn := -1, cur := 0 })
def qend.T3 : Bool × List (List Nat × List Nat) := (true, [([], []), ([0], [0]), ([1], [1]), ([2], [2]), ([], []), ([4], [4]), ([5], [5]), ([6], [6]), ([], []), ([3, 7, 0, 1, 2, 3, 4, 5, 6, 7, 8], [3, 7]), ([9, 8, 0, 1, 2, 3, 4, 5, 6, 7, 8], [8, 9])])
def qend.B3 : List Nat := [0, 1, 3, 7, 0, 16, 48, 112, 0, 511, 1023]
theorem qend.tab3 : rtab .any (opsOf Try.f24 3) = qend.T3 := by kernel_rfl
theorem qend.bits3 : waitsOk qend.T3.2 qend.B3 = true := by kernel_rfl
set_option maxHeartbeats 8000000 in
set_option maxRecDepth 100000 in
theorem qEnd_calls {lo : Nat} {w : World} {h : Nat} {r : Rg} (st : Int) (H : IsQ lo w h r) (ho : r.opn < (r.S.length : Int)) :
    Calls Try.prog 24 #[.pointer (some ⟨h, 0, none⟩), .int .i64 st] w fun e w' => e = .returned (.int .i64 (qEnd r st).1) ∧ IsQ lo w' h (qEnd r st).2 ∧ Below lo w w' ∧ KeepR lo w w' := by
  obtain ⟨a1, k1, a2, k2, H⟩ := H
  have HQ := Aside0.mk H
  have c0_ := H.c0
  have c3_ := H.c3
  have HO := Aside0.mk ho
  clear H ho
  by_cases p0 : r.opn < 0
  · rw [show qEnd r st = (33, r) from if_pos p0]
    have b0 : decide (r.opn < 0) = true := decide_eq_true p0
    clear p0
    go_enter Try.func24, Try.ntmps24
    go_wp2
    go_ret
    exact ⟨by first | rfl | (simp; done), ⟨a1, k1, a2, k2, HQ.out⟩, Below.refl _ _, KeepR.of_below (Below.refl _ _)⟩
  rw [show qEnd r st = (0, { r with S := r.S.set r.opn.toNat st, opn := -1, cur := 0 }) from if_neg p0]
  have b0 : decide (r.opn < 0) = false := decide_eq_false p0
  have HOB := Aside0.mk (show 0 ≤ r.opn ∧ r.opn < (r.S.length : Int) by have := HO.out; omega)
  have q1 := eq_true HOB.out.1
  have q2 := eq_true HOB.out.2
  have cS_ := HQ.out.cS _ HOB.out.1 HOB.out.2
  have f1_ := HQ.out.fS _ HOB.out.1 HOB.out.2
  clear p0
  go_enter Try.func24, Try.ntmps24
  go_wp2
  refine start_ (n := 11) (S := fun w' => w'.cell? ⟨h, 0, none⟩ = some (.slice (some ⟨a1, 0, none⟩) r.S.length k1) ∧ w'.cell? ⟨h, 3, none⟩ = some (.int .i64 r.opn)) (ds := [10]) #[false, false, false, false, false, false, false, false, false, false, false] (by kernel_rfl) rfl rfl (⟨c0_, c3_⟩) (fun hHeld => ?_); refine with_tabW qend.tab3 qend.bits3 (fun HT_ HW_ => ?_)
  clear c0_ c3_ cS_ f1_
  have HQ6 := Aside0.mk (HQ.out.below (W1 := w.drew) (below_drew1 (Below.refl _ _)))
  have HB6 := Aside0.mk (show Below lo w w.drew from below_drew1 (Below.refl _ _))
  have HK6 := Aside0.mk (KeepR.of_below (lo := lo) (show Below w.heap.size w w.drew from below_drew1 (Below.refl _ _)))
  generalize w.drew = w6 at HQ6 HB6 HK6 hHeld ⊢
  have f1_ := HQ6.out.fS _ HOB.out.1 HOB.out.2
  have cS_ := HQ6.out.cS _ HOB.out.1 HOB.out.2
  refine pure_ (i := 0) (N := some 10) (v := ?_) (a' := ?_) #[true, false, false, false, false, false, false, false, false, false, false] rfl rfl (any_of HT_.out (by kernel_rfl)) (fun _ _ _ h => h) (Or.inl ⟨by rfl, ?_⟩) ?_ ?_
  rotate_left
  · intro w'
    go_simp
    with_reducible rfl
  rotate_left
  · simp only [Act.put, List.setIfInBounds_toArray, List.set_cons_zero, List.set_cons_succ, i64_w, i32_w]
    rfl
  refine pure_ (i := 1) (N := some 11) (v := ?_) (a' := ?_) #[true, true, false, false, false, false, false, false, false, false, false] rfl rfl (any_of HT_.out (by kernel_rfl)) (fun _ _ _ h => h) (Or.inl ⟨by rfl, ?_⟩) ?_ ?_
  rotate_left
  · intro w'
    go_simp
    with_reducible rfl
  rotate_left
  · simp only [Act.put, List.setIfInBounds_toArray, List.set_cons_zero, List.set_cons_succ, i64_w, i32_w]
    rfl
  refine pure_ (i := 2) (N := some 12) (v := ?_) (a' := ?_) #[true, true, true, false, false, false, false, false, false, false, false] rfl rfl (any_of HT_.out (by kernel_rfl)) (fun _ _ _ h => h) (Or.inl ⟨by rfl, ?_⟩) ?_ ?_
  rotate_left
  · intro w'
    go_simp
    with_reducible rfl
  rotate_left
  · simp only [Act.put, List.setIfInBounds_toArray, List.set_cons_zero, List.set_cons_succ, i64_w, i32_w]
    rfl
  refine pure_ (i := 4) (N := some 14) (v := ?_) (a' := ?_) #[true, true, true, false, true, false, false, false, false, false, false] rfl rfl (any_of HT_.out (by kernel_rfl)) (fun _ _ _ h => h) (Or.inl ⟨by rfl, ?_⟩) ?_ ?_
  rotate_left
  · intro w'
    go_simp
    with_reducible rfl
  rotate_left
  · simp only [Act.put, List.setIfInBounds_toArray, List.set_cons_zero, List.set_cons_succ, i64_w, i32_w]
    rfl
  refine pure_ (i := 5) (N := some 15) (v := ?_) (a' := ?_) #[true, true, true, false, true, true, false, false, false, false, false] rfl rfl (any_of HT_.out (by kernel_rfl)) (fun _ _ _ h => h) (Or.inl ⟨by rfl, ?_⟩) ?_ ?_
  rotate_left
  · intro w'
    go_simp
    with_reducible rfl
  rotate_left
  · simp only [Act.put, List.setIfInBounds_toArray, List.set_cons_zero, List.set_cons_succ, i64_w, i32_w]
    rfl
  refine pure_ (i := 6) (N := some 16) (v := ?_) (a' := ?_) #[true, true, true, false, true, true, true, false, false, false, false] rfl rfl (any_of HT_.out (by kernel_rfl)) (fun _ _ _ h => h) (Or.inl ⟨by rfl, ?_⟩) ?_ ?_
  rotate_left
  · intro w'
    go_simp
    with_reducible rfl
  rotate_left
  · simp only [Act.put, List.setIfInBounds_toArray, List.set_cons_zero, List.set_cons_succ, i64_w, i32_w]
    rfl
  refine pure_ (i := 8) (N := some 18) (v := ?_) (a' := ?_) #[true, true, true, false, true, true, true, false, true, false, false] rfl rfl (any_of HT_.out (by kernel_rfl)) (fun _ _ _ h => h) (Or.inl ⟨by rfl, ?_⟩) ?_ ?_
  rotate_left
  · intro w'
    go_simp
    with_reducible rfl
  rotate_left
  · simp only [Act.put, List.setIfInBounds_toArray, List.set_cons_zero, List.set_cons_succ, i64_w, i32_w]
    rfl
  refine take_ (i := 3) (N := some 13) (v := ?_) (a' := ?_) #[true, true, true, true, true, true, true, false, true, false, false] rfl rfl (take_ofW HT_.out HW_.out (by kernel_rfl)) (fun _ _ _ h => h) (Or.inl ⟨by rfl, ?_⟩) hHeld ?_ ?_
  rotate_left
  · rintro w' ⟨s0, s1⟩
    go_simp
    with_reducible rfl
  rotate_left
  · simp only [Act.put, List.setIfInBounds_toArray, List.set_cons_zero, List.set_cons_succ, i64_w, i32_w]
    rfl
  refine take_ (i := 7) (N := some 17) (v := ?_) (a' := ?_) #[true, true, true, true, true, true, true, true, true, false, false] rfl rfl (take_ofW HT_.out HW_.out (by kernel_rfl)) (fun _ _ _ h => h) (Or.inl ⟨by rfl, ?_⟩) hHeld ?_ ?_
  rotate_left
  · rintro w' ⟨s0, s1⟩
    go_simp
    with_reducible rfl
  rotate_left
  · simp only [Act.put, List.setIfInBounds_toArray, List.set_cons_zero, List.set_cons_succ, i64_w, i32_w]
    rfl
  refine pure_ (i := 9) (N := some 19) (v := ?_) (a' := ?_) #[true, true, true, true, true, true, true, true, true, true, false] rfl rfl (any_of HT_.out (by kernel_rfl)) (fun _ _ _ h => h) (Or.inl ⟨by rfl, ?_⟩) ?_ ?_
  rotate_left
  · intro w'
    go_simp
    with_reducible rfl
  rotate_left
  · simp only [Act.put, List.setIfInBounds_toArray, List.set_cons_zero, List.set_cons_succ, i64_w, i32_w]
    rfl
  refine last_ (i := 10) (N := none) #[true, true, true, true, true, true, true, true, true, true, true] rfl rfl (one_of HT_.out (by kernel_rfl)) (by decide) (fun K hK => ?_)
  refine skip_ (w1 := w6.setCell ⟨a1, r.opn.toNat, none⟩ (.int .i64 st)) (by rfl) rfl ?_ ?_
  · go_simp
  refine hK.out _ _ ?_
  clear hK K
  refine done_ (done_of HT_.out (by kernel_rfl)) ?_
  have HQ7 := Aside0.mk (HQ6.out.putS r.opn st)
  have HB7 := Aside0.mk (show Below lo w (w6.setCell ⟨a1, r.opn.toNat, none⟩ (.int .i64 st)) from HB6.out.setCell (row_blk HQ6.out.r1).1 _)
  have HK7 := Aside0.mk (show KeepR lo w (w6.setCell ⟨a1, r.opn.toNat, none⟩ (.int .i64 st)) by obtain ⟨z1, _, z2, z3⟩ := row_blk HQ6.out.r1; exact HK6.out.put z3 (.inr rfl) z1 _ _)
  clear HQ6 HB6 HK6 f1_ cS_
  generalize w6.setCell ⟨a1, r.opn.toNat, none⟩ (.int .i64 st) = w7 at HQ7 HB7 HK7 ⊢
  have d3_ := HQ7.out.c3
  have e3_ := blk_frozen HQ7.out.blk 3
  go_wp2_with (first | ((with_reducible refine gate_store (t := 3) (p := 22) rfl ?_); refine store_event (t := 3) (p := 22) (v := .const (.int .i64 (-1))) (w1 := w7.setCell ⟨h, 3, none⟩ (.int .i64 (-1))) ?hg ?ho ?hn ?hr ?_; (case ho => rfl); (case hg => rfl); (case hn => rfl); (case hr => first | (go_simp; done) | (go_simp; rfl)); intro w8 hw; have HQ8 := Aside0.mk (show QAt lo w8 h a1 k1 a2 k2 _ from by rw [hw]; exact HQ7.out.putO (-1)); have HB8 := Aside0.mk (show Below lo w w8 from by rw [hw]; exact HB7.out.setCell HQ7.out.lo _); have HK8 := Aside0.mk (show KeepR lo w w8 from by rw [hw]; exact HK7.out.put HQ7.out.blk (.inl rfl) HQ7.out.lo _ _); have d4_ := HQ8.out.c4; have e4_ := blk_frozen HQ8.out.blk 4; clear hw HQ7 HB7 HK7 d3_ e3_) | ((with_reducible refine gate_store (t := 3) (p := 25) rfl ?_); refine store_event (t := 3) (p := 25) (v := .const (.int .i64 0)) (w1 := w8.setCell ⟨h, 4, none⟩ (.int .i64 0)) ?hg ?ho ?hn ?hr ?_; (case ho => rfl); (case hg => rfl); (case hn => rfl); (case hr => first | (go_simp; done) | (go_simp; rfl)); intro w9 hw; have HQ9 := Aside0.mk (show QAt lo w9 h a1 k1 a2 k2 _ from by rw [hw]; exact HQ8.out.putC 0); have HB9 := Aside0.mk (show Below lo w w9 from by rw [hw]; exact HB8.out.setCell HQ8.out.lo _); have HK9 := Aside0.mk (show KeepR lo w w9 from by rw [hw]; exact HK8.out.put HQ8.out.blk (.inl rfl) HQ8.out.lo _ _); clear hw HQ8 HB8 HK8 d4_ e4_))
  go_ret
  exact ⟨by first | rfl | (simp; done), ⟨a1, k1, a2, k2, HQ9.out⟩, HB9.out, HK9.out⟩
/- Set -/
def qBad (r : Rg) (b st er : Int) : Prop := ¬ (0 ≤ b ∧ b < (r.S.length : Int)) ∨ ¬ (st = 0 ∨ st = 2 ∨ st = 3) ∨ er < 0 ∨ 2147483647 < er ∨ r.opn = b
instance (r : Rg) (b st er : Int) : Decidable (qBad r b st er) := by unfold qBad; infer_instance
def qSet (r : Rg) (b st er : Int) : Int × Rg := if qBad r b st er then (2, r) else (0, { r with S := r.S.set b.toNat st, E := r.E.set b.toNat er })
set_option maxHeartbeats 8000000 in
set_option maxRecDepth 100000 in
theorem qSet_calls {lo : Nat} {w : World} {h : Nat} {r : Rg} (b st er : Int) (H : IsQ lo w h r) :
    Calls Try.prog 21 #[.pointer (some ⟨h, 0, none⟩), .int .i64 b, .int .i64 st, .int .i64 er] w fun e w' => e = .returned (.int .i64 (qSet r b st er).1) ∧ IsQ lo w' h (qSet r b st er).2 ∧ Below lo w w' ∧ KeepR lo w w' := by
  have HI := Aside0.mk H
  obtain ⟨a1, k1, a2, k2, H⟩ := H
  have HQ := Aside0.mk H
  have c0_ := H.c0
  have c3_ := H.c3
  have same : ∀ nd : Nat, IsQ lo (w.drewN nd) h r ∧ Below lo w (w.drewN nd) ∧ KeepR lo w (w.drewN nd) := fun nd => ⟨⟨a1, k1, a2, k2, HQ.out.below (pw_below_drewN (Below.refl _ _) nd)⟩, pw_below_drewN (Below.refl _ _) nd, KeepR.of_below (pw_below_drewN (Below.refl _ _) nd)⟩
  have HS := Aside0.mk same
  clear H same
  by_cases hbb : 0 ≤ b ∧ b < (r.S.length : Int)
  case neg =>
    rw [show qSet r b st er = (2, r) from if_pos (.inl hbb)]
    have g := decide_eq_false hbb
    clear hbb
    go_enter Try.func21, Try.ntmps21
    go_wp2_with (first | (go_at_call 13; (with_reducible refine (qIs_calls b (HI.out)).mono ?_); rintro e w' ⟨rfl, ⟨nd, rfl⟩⟩; rw [g]))
    go_ret
    exact ⟨by first | rfl | (simp; done), HS.out _⟩
  have g := decide_eq_true hbb
  have HBB := Aside0.mk hbb
  have q1 := eq_true hbb.1
  have q2 := eq_true hbb.2
  clear hbb
  by_cases p0 : st = 0
  · have g0 : (st != 0) = false := bne_eq_false_iff_eq.mpr p0
    by_cases e0 : er < 0
    · have f0 : decide (er < 0) = true := decide_eq_true e0
      rw [show qSet r b st er = (2, r) from if_pos (.inr (.inr (.inl e0)))]
      clear e0 p0
      go_enter Try.func21, Try.ntmps21
      go_wp2_with (first | (go_at_call 13; (with_reducible refine (qIs_calls b (HI.out)).mono ?_); rintro e w' ⟨rfl, ⟨nd, rfl⟩⟩; rw [g]))
      go_ret
      exact ⟨by first | rfl | (simp; done), HS.out _⟩
    have f0 : decide (er < 0) = false := decide_eq_false e0
    by_cases e1 : 2147483647 < er
    · have f1 : decide (2147483647 < er) = true := decide_eq_true e1
      rw [show qSet r b st er = (2, r) from if_pos (.inr (.inr (.inr (.inl e1))))]
      clear e0 e1 p0
      go_enter Try.func21, Try.ntmps21
      go_wp2_with (first | (go_at_call 13; (with_reducible refine (qIs_calls b (HI.out)).mono ?_); rintro e w' ⟨rfl, ⟨nd, rfl⟩⟩; rw [g]))
      go_ret
      exact ⟨by first | rfl | (simp; done), HS.out _⟩
    have f1 : decide (2147483647 < er) = false := decide_eq_false e1
    by_cases e2 : r.opn = b
    · have f2 : (r.opn == b) = true := beq_iff_eq.mpr e2
      rw [show qSet r b st er = (2, r) from if_pos (.inr (.inr (.inr (.inr e2))))]
      clear e0 e1 e2 p0
      go_enter Try.func21, Try.ntmps21
      go_wp2_with (first | (go_at_call 13; (with_reducible refine (qIs_calls b (HI.out)).mono ?_); rintro e w' ⟨rfl, ⟨nd, rfl⟩⟩; rw [g]))
      go_ret
      exact ⟨by first | rfl | (simp; done), HS.out _⟩
    have f2 : (r.opn == b) = false := beq_eq_false_iff_ne.mpr e2
    rw [show qSet r b st er = (0, { r with S := r.S.set b.toNat st, E := r.E.set b.toNat er }) from if_neg (by rintro (h | h | h | h | h); exact h HBB.out; exact h (by first | exact .inl p0 | exact .inr (.inl p1) | exact .inr (.inr p2)); exact e0 h; exact e1 h; exact e2 h)]
    have cS_ := HQ.out.cS b HBB.out.1 HBB.out.2
    have fS_ := HQ.out.fS b HBB.out.1 HBB.out.2
    clear e0 e1 e2 p0
    go_enter Try.func21, Try.ntmps21
    go_wp2_with (first | (go_at_call 13; (with_reducible refine (qIs_calls b (HI.out)).mono ?_); rintro e w' ⟨rfl, ⟨nd, rfl⟩⟩; rw [g]) | ((with_reducible refine gate_store (t := 3) (p := 47) rfl ?_); refine store_event (t := 3) (p := 47) (v := .tmp 46) (w1 := (w.drewN nd).setCell ⟨a1, b.toNat, none⟩ (.int .i64 st)) ?hg ?ho ?hn ?hr ?_; (case ho => rfl); (case hg => rfl); (case hn => rfl); (case hr => first | (go_simp; done) | (go_simp; rfl)); intro w6 hw; have HQ6 := Aside0.mk (show QAt lo w6 h a1 k1 a2 k2 _ from by rw [hw]; exact (HQ.out.below (pw_below_drewN (Below.refl _ _) nd)).putS b st); have HB6 := Aside0.mk (show Below lo w w6 from by rw [hw]; exact (pw_below_drewN (Below.refl _ _) nd).setCell (row_blk (HQ.out.below (pw_below_drewN (Below.refl _ _) nd)).r1).1 _); have HK6 := Aside0.mk (show KeepR lo w w6 from by rw [hw]; exact (let z := row_blk (HQ.out.below (pw_below_drewN (Below.refl _ _) nd)).r1; (KeepR.of_below (pw_below_drewN (Below.refl _ _) nd)).put z.2.2.choose_spec (.inr rfl) z.1 _ _)); clear hw; have d1_ := HQ6.out.c1; have dE_ := HQ6.out.cE b HBB.out.1 (by show b < ((r.S.set b.toNat st).length : Int); rw [List.length_set]; exact HBB.out.2); have eE_ := HQ6.out.fE b HBB.out.1 (by show b < ((r.S.set b.toNat st).length : Int); rw [List.length_set]; exact HBB.out.2); simp only [List.length_set] at d1_) | ((with_reducible refine gate_store (t := 3) (p := 54) rfl ?_); refine store_event (t := 3) (p := 54) (v := .tmp 53) (w1 := w6.setCell ⟨a2, b.toNat, none⟩ (.int .i64 er)) ?hg ?ho ?hn ?hr ?_; (case ho => rfl); (case hg => rfl); (case hn => rfl); (case hr => first | (go_simp; done) | (go_simp; rfl)); intro w7 hw; have HQ7 := Aside0.mk (show QAt lo w7 h a1 k1 a2 k2 _ from by rw [hw]; exact HQ6.out.putE b er); have HB7 := Aside0.mk (show Below lo w w7 from by rw [hw]; exact HB6.out.setCell (row_blk HQ6.out.r2).1 _); have HK7 := Aside0.mk (show KeepR lo w w7 from by rw [hw]; exact (let z := row_blk HQ6.out.r2; HK6.out.put z.2.2.choose_spec (.inr rfl) z.1 _ _)); clear hw))
    go_ret
    exact ⟨by first | rfl | (simp; done), ⟨a1, k1, a2, k2, HQ7.out⟩, HB7.out, HK7.out⟩
  have g0 : (st != 0) = true := bne_iff_ne.mpr p0
  by_cases p1 : st = 2
  · have g1 : (st != 2) = false := bne_eq_false_iff_eq.mpr p1
    by_cases e0 : er < 0
    · have f0 : decide (er < 0) = true := decide_eq_true e0
      rw [show qSet r b st er = (2, r) from if_pos (.inr (.inr (.inl e0)))]
      clear e0 p0 p1
      go_enter Try.func21, Try.ntmps21
      go_wp2_with (first | (go_at_call 13; (with_reducible refine (qIs_calls b (HI.out)).mono ?_); rintro e w' ⟨rfl, ⟨nd, rfl⟩⟩; rw [g]))
      go_ret
      exact ⟨by first | rfl | (simp; done), HS.out _⟩
    have f0 : decide (er < 0) = false := decide_eq_false e0
    by_cases e1 : 2147483647 < er
    · have f1 : decide (2147483647 < er) = true := decide_eq_true e1
      rw [show qSet r b st er = (2, r) from if_pos (.inr (.inr (.inr (.inl e1))))]
      clear e0 e1 p0 p1
      go_enter Try.func21, Try.ntmps21
      go_wp2_with (first | (go_at_call 13; (with_reducible refine (qIs_calls b (HI.out)).mono ?_); rintro e w' ⟨rfl, ⟨nd, rfl⟩⟩; rw [g]))
      go_ret
      exact ⟨by first | rfl | (simp; done), HS.out _⟩
    have f1 : decide (2147483647 < er) = false := decide_eq_false e1
    by_cases e2 : r.opn = b
    · have f2 : (r.opn == b) = true := beq_iff_eq.mpr e2
      rw [show qSet r b st er = (2, r) from if_pos (.inr (.inr (.inr (.inr e2))))]
      clear e0 e1 e2 p0 p1
      go_enter Try.func21, Try.ntmps21
      go_wp2_with (first | (go_at_call 13; (with_reducible refine (qIs_calls b (HI.out)).mono ?_); rintro e w' ⟨rfl, ⟨nd, rfl⟩⟩; rw [g]))
      go_ret
      exact ⟨by first | rfl | (simp; done), HS.out _⟩
    have f2 : (r.opn == b) = false := beq_eq_false_iff_ne.mpr e2
    rw [show qSet r b st er = (0, { r with S := r.S.set b.toNat st, E := r.E.set b.toNat er }) from if_neg (by rintro (h | h | h | h | h); exact h HBB.out; exact h (by first | exact .inl p0 | exact .inr (.inl p1) | exact .inr (.inr p2)); exact e0 h; exact e1 h; exact e2 h)]
    have cS_ := HQ.out.cS b HBB.out.1 HBB.out.2
    have fS_ := HQ.out.fS b HBB.out.1 HBB.out.2
    clear e0 e1 e2 p0 p1
    go_enter Try.func21, Try.ntmps21
    go_wp2_with (first | (go_at_call 13; (with_reducible refine (qIs_calls b (HI.out)).mono ?_); rintro e w' ⟨rfl, ⟨nd, rfl⟩⟩; rw [g]) | ((with_reducible refine gate_store (t := 3) (p := 47) rfl ?_); refine store_event (t := 3) (p := 47) (v := .tmp 46) (w1 := (w.drewN nd).setCell ⟨a1, b.toNat, none⟩ (.int .i64 st)) ?hg ?ho ?hn ?hr ?_; (case ho => rfl); (case hg => rfl); (case hn => rfl); (case hr => first | (go_simp; done) | (go_simp; rfl)); intro w6 hw; have HQ6 := Aside0.mk (show QAt lo w6 h a1 k1 a2 k2 _ from by rw [hw]; exact (HQ.out.below (pw_below_drewN (Below.refl _ _) nd)).putS b st); have HB6 := Aside0.mk (show Below lo w w6 from by rw [hw]; exact (pw_below_drewN (Below.refl _ _) nd).setCell (row_blk (HQ.out.below (pw_below_drewN (Below.refl _ _) nd)).r1).1 _); have HK6 := Aside0.mk (show KeepR lo w w6 from by rw [hw]; exact (let z := row_blk (HQ.out.below (pw_below_drewN (Below.refl _ _) nd)).r1; (KeepR.of_below (pw_below_drewN (Below.refl _ _) nd)).put z.2.2.choose_spec (.inr rfl) z.1 _ _)); clear hw; have d1_ := HQ6.out.c1; have dE_ := HQ6.out.cE b HBB.out.1 (by show b < ((r.S.set b.toNat st).length : Int); rw [List.length_set]; exact HBB.out.2); have eE_ := HQ6.out.fE b HBB.out.1 (by show b < ((r.S.set b.toNat st).length : Int); rw [List.length_set]; exact HBB.out.2); simp only [List.length_set] at d1_) | ((with_reducible refine gate_store (t := 3) (p := 54) rfl ?_); refine store_event (t := 3) (p := 54) (v := .tmp 53) (w1 := w6.setCell ⟨a2, b.toNat, none⟩ (.int .i64 er)) ?hg ?ho ?hn ?hr ?_; (case ho => rfl); (case hg => rfl); (case hn => rfl); (case hr => first | (go_simp; done) | (go_simp; rfl)); intro w7 hw; have HQ7 := Aside0.mk (show QAt lo w7 h a1 k1 a2 k2 _ from by rw [hw]; exact HQ6.out.putE b er); have HB7 := Aside0.mk (show Below lo w w7 from by rw [hw]; exact HB6.out.setCell (row_blk HQ6.out.r2).1 _); have HK7 := Aside0.mk (show KeepR lo w w7 from by rw [hw]; exact (let z := row_blk HQ6.out.r2; HK6.out.put z.2.2.choose_spec (.inr rfl) z.1 _ _)); clear hw))
    go_ret
    exact ⟨by first | rfl | (simp; done), ⟨a1, k1, a2, k2, HQ7.out⟩, HB7.out, HK7.out⟩
  have g1 : (st != 2) = true := bne_iff_ne.mpr p1
  by_cases p2 : st = 3
  · have g2 : (st != 3) = false := bne_eq_false_iff_eq.mpr p2
    by_cases e0 : er < 0
    · have f0 : decide (er < 0) = true := decide_eq_true e0
      rw [show qSet r b st er = (2, r) from if_pos (.inr (.inr (.inl e0)))]
      clear e0 p0 p1 p2
      go_enter Try.func21, Try.ntmps21
      go_wp2_with (first | (go_at_call 13; (with_reducible refine (qIs_calls b (HI.out)).mono ?_); rintro e w' ⟨rfl, ⟨nd, rfl⟩⟩; rw [g]))
      go_ret
      exact ⟨by first | rfl | (simp; done), HS.out _⟩
    have f0 : decide (er < 0) = false := decide_eq_false e0
    by_cases e1 : 2147483647 < er
    · have f1 : decide (2147483647 < er) = true := decide_eq_true e1
      rw [show qSet r b st er = (2, r) from if_pos (.inr (.inr (.inr (.inl e1))))]
      clear e0 e1 p0 p1 p2
      go_enter Try.func21, Try.ntmps21
      go_wp2_with (first | (go_at_call 13; (with_reducible refine (qIs_calls b (HI.out)).mono ?_); rintro e w' ⟨rfl, ⟨nd, rfl⟩⟩; rw [g]))
      go_ret
      exact ⟨by first | rfl | (simp; done), HS.out _⟩
    have f1 : decide (2147483647 < er) = false := decide_eq_false e1
    by_cases e2 : r.opn = b
    · have f2 : (r.opn == b) = true := beq_iff_eq.mpr e2
      rw [show qSet r b st er = (2, r) from if_pos (.inr (.inr (.inr (.inr e2))))]
      clear e0 e1 e2 p0 p1 p2
      go_enter Try.func21, Try.ntmps21
      go_wp2_with (first | (go_at_call 13; (with_reducible refine (qIs_calls b (HI.out)).mono ?_); rintro e w' ⟨rfl, ⟨nd, rfl⟩⟩; rw [g]))
      go_ret
      exact ⟨by first | rfl | (simp; done), HS.out _⟩
    have f2 : (r.opn == b) = false := beq_eq_false_iff_ne.mpr e2
    rw [show qSet r b st er = (0, { r with S := r.S.set b.toNat st, E := r.E.set b.toNat er }) from if_neg (by rintro (h | h | h | h | h); exact h HBB.out; exact h (by first | exact .inl p0 | exact .inr (.inl p1) | exact .inr (.inr p2)); exact e0 h; exact e1 h; exact e2 h)]
    have cS_ := HQ.out.cS b HBB.out.1 HBB.out.2
    have fS_ := HQ.out.fS b HBB.out.1 HBB.out.2
    clear e0 e1 e2 p0 p1 p2
    go_enter Try.func21, Try.ntmps21
    go_wp2_with (first | (go_at_call 13; (with_reducible refine (qIs_calls b (HI.out)).mono ?_); rintro e w' ⟨rfl, ⟨nd, rfl⟩⟩; rw [g]) | ((with_reducible refine gate_store (t := 3) (p := 47) rfl ?_); refine store_event (t := 3) (p := 47) (v := .tmp 46) (w1 := (w.drewN nd).setCell ⟨a1, b.toNat, none⟩ (.int .i64 st)) ?hg ?ho ?hn ?hr ?_; (case ho => rfl); (case hg => rfl); (case hn => rfl); (case hr => first | (go_simp; done) | (go_simp; rfl)); intro w6 hw; have HQ6 := Aside0.mk (show QAt lo w6 h a1 k1 a2 k2 _ from by rw [hw]; exact (HQ.out.below (pw_below_drewN (Below.refl _ _) nd)).putS b st); have HB6 := Aside0.mk (show Below lo w w6 from by rw [hw]; exact (pw_below_drewN (Below.refl _ _) nd).setCell (row_blk (HQ.out.below (pw_below_drewN (Below.refl _ _) nd)).r1).1 _); have HK6 := Aside0.mk (show KeepR lo w w6 from by rw [hw]; exact (let z := row_blk (HQ.out.below (pw_below_drewN (Below.refl _ _) nd)).r1; (KeepR.of_below (pw_below_drewN (Below.refl _ _) nd)).put z.2.2.choose_spec (.inr rfl) z.1 _ _)); clear hw; have d1_ := HQ6.out.c1; have dE_ := HQ6.out.cE b HBB.out.1 (by show b < ((r.S.set b.toNat st).length : Int); rw [List.length_set]; exact HBB.out.2); have eE_ := HQ6.out.fE b HBB.out.1 (by show b < ((r.S.set b.toNat st).length : Int); rw [List.length_set]; exact HBB.out.2); simp only [List.length_set] at d1_) | ((with_reducible refine gate_store (t := 3) (p := 54) rfl ?_); refine store_event (t := 3) (p := 54) (v := .tmp 53) (w1 := w6.setCell ⟨a2, b.toNat, none⟩ (.int .i64 er)) ?hg ?ho ?hn ?hr ?_; (case ho => rfl); (case hg => rfl); (case hn => rfl); (case hr => first | (go_simp; done) | (go_simp; rfl)); intro w7 hw; have HQ7 := Aside0.mk (show QAt lo w7 h a1 k1 a2 k2 _ from by rw [hw]; exact HQ6.out.putE b er); have HB7 := Aside0.mk (show Below lo w w7 from by rw [hw]; exact HB6.out.setCell (row_blk HQ6.out.r2).1 _); have HK7 := Aside0.mk (show KeepR lo w w7 from by rw [hw]; exact (let z := row_blk HQ6.out.r2; HK6.out.put z.2.2.choose_spec (.inr rfl) z.1 _ _)); clear hw))
    go_ret
    exact ⟨by first | rfl | (simp; done), ⟨a1, k1, a2, k2, HQ7.out⟩, HB7.out, HK7.out⟩
  have g2 : (st != 3) = true := bne_iff_ne.mpr p2
  rw [show qSet r b st er = (2, r) from if_pos (.inr (.inl (by rintro (h | h | h); exact p0 h; exact p1 h; exact p2 h)))]
  clear p0 p1 p2
  go_enter Try.func21, Try.ntmps21
  go_wp2_with (first | (go_at_call 13; (with_reducible refine (qIs_calls b (HI.out)).mono ?_); rintro e w' ⟨rfl, ⟨nd, rfl⟩⟩; rw [g]))
  go_ret
  exact ⟨by first | rfl | (simp; done), HS.out _⟩
/- Free -/
def qFree (r : Rg) (b : Int) : Int × Rg := if ¬ (0 ≤ b ∧ b < (r.S.length : Int)) then (2, r) else (if rd r.S b ≠ 2 then (33, r) else (0, { r with S := r.S.set b.toNat 0 }))
set_option maxHeartbeats 8000000 in
set_option maxRecDepth 100000 in
theorem qFree_calls {lo : Nat} {w : World} {h : Nat} {r : Rg} (b : Int) (H : IsQ lo w h r) :
    Calls Try.prog 25 #[.pointer (some ⟨h, 0, none⟩), .int .i64 b] w fun e w' => e = .returned (.int .i64 (qFree r b).1) ∧ IsQ lo w' h (qFree r b).2 ∧ Below lo w w' ∧ KeepR lo w w' := by
  have HI := Aside0.mk H
  obtain ⟨a1, k1, a2, k2, H⟩ := H
  have HQ := Aside0.mk H
  have c0_ := H.c0
  have same : ∀ nd : Nat, IsQ lo (w.drewN nd) h r ∧ Below lo w (w.drewN nd) ∧ KeepR lo w (w.drewN nd) := fun nd => ⟨⟨a1, k1, a2, k2, HQ.out.below (pw_below_drewN (Below.refl _ _) nd)⟩, pw_below_drewN (Below.refl _ _) nd, KeepR.of_below (pw_below_drewN (Below.refl _ _) nd)⟩
  have HS := Aside0.mk same
  clear H same
  by_cases hbb : 0 ≤ b ∧ b < (r.S.length : Int)
  case neg =>
    rw [show qFree r b = (2, r) from if_pos hbb]
    have g := decide_eq_false hbb
    clear hbb
    go_enter Try.func25, Try.ntmps25
    go_wp2_with (first | (go_at_call 13; (with_reducible refine (qIs_calls b (HI.out)).mono ?_); rintro e w' ⟨rfl, ⟨nd, rfl⟩⟩; rw [g]))
    go_ret
    exact ⟨by first | rfl | (simp; done), HS.out _⟩
  rw [show qFree r b = if rd r.S b ≠ 2 then (33, r) else (0, { r with S := r.S.set b.toNat 0 }) from if_neg (fun z => z hbb)]
  have g := decide_eq_true hbb
  have HBB := Aside0.mk hbb
  have q1 := eq_true hbb.1
  have q2 := eq_true hbb.2
  have cS_ := HQ.out.cS b hbb.1 hbb.2
  have fS_ := HQ.out.fS b hbb.1 hbb.2
  clear hbb
  by_cases p0 : rd r.S b = 2
  · rw [if_neg (fun z => z p0)]
    have g0 : (rd r.S b != 2) = false := bne_eq_false_iff_eq.mpr p0
    clear p0
    go_enter Try.func25, Try.ntmps25
    go_wp2_with (first | (go_at_call 13; (with_reducible refine (qIs_calls b (HI.out)).mono ?_); rintro e w' ⟨rfl, ⟨nd, rfl⟩⟩; rw [g]) | ((with_reducible refine gate_store (t := 3) (p := 22) rfl ?_); refine store_event (t := 3) (p := 22) (v := .const (.int .i64 0)) (w1 := (w.drewN nd).setCell ⟨a1, b.toNat, none⟩ (.int .i64 0)) ?hg ?ho ?hn ?hr ?_; (case ho => rfl); (case hg => rfl); (case hn => rfl); (case hr => first | (go_simp; done) | (go_simp; rfl)); intro w6 hw; have HQ6 := Aside0.mk (show QAt lo w6 h a1 k1 a2 k2 _ from by rw [hw]; exact (HQ.out.below (pw_below_drewN (Below.refl _ _) nd)).putS b 0); have HB6 := Aside0.mk (show Below lo w w6 from by rw [hw]; exact (pw_below_drewN (Below.refl _ _) nd).setCell (row_blk (HQ.out.below (pw_below_drewN (Below.refl _ _) nd)).r1).1 _); have HK6 := Aside0.mk (show KeepR lo w w6 from by rw [hw]; exact (let z := row_blk (HQ.out.below (pw_below_drewN (Below.refl _ _) nd)).r1; (KeepR.of_below (pw_below_drewN (Below.refl _ _) nd)).put z.2.2.choose_spec (.inr rfl) z.1 _ _)); clear hw))
    go_ret
    exact ⟨by first | rfl | (simp; done), ⟨a1, k1, a2, k2, HQ6.out⟩, HB6.out, HK6.out⟩
  · rw [if_pos p0]
    have g0 : (rd r.S b != 2) = true := bne_iff_ne.mpr p0
    clear p0
    go_enter Try.func25, Try.ntmps25
    go_wp2_with (first | (go_at_call 13; (with_reducible refine (qIs_calls b (HI.out)).mono ?_); rintro e w' ⟨rfl, ⟨nd, rfl⟩⟩; rw [g]))
    go_ret
    exact ⟨by first | rfl | (simp; done), HS.out _⟩
end Go.Proofs.Ytpjmmmgjiaallaa.M
