/-
  block's ledger in memory: its struct, the row of its entries; what they say, as a list and numbers.
-/
import Derived.Test.YtpjmmmgjiaallaaMx0
namespace Go.Proofs.Ytpjmmmgjiaallaa.M
open Go.RowKit Go.Proofs.YtpjmmmgjiaallaaW.PrintWords Go.Proofs.YtpjmmmgjiaallaaW.PrintLast Go.Proofs.YtpjmmmgjiaallaaW.PrintMore
set_option linter.unusedVariables false
set_option linter.unusedSimpArgs false
structure En where
  s : Int
  e : Int
structure Lg where
  E : List En
  pages : Int
  opn : Int
  cur : Int
def flat : List En → List Value
  | [] => []
  | x :: l => .int .i64 x.s :: .int .i64 x.e :: flat l
def en (E : List En) (i : Int) : En := E.getD i.toNat ⟨0, 0⟩
abbrev eS (E : List En) (i : Int) : Int := (en E i).s
abbrev eE (E : List En) (i : Int) : Int := (en E i).e
theorem flat_len : ∀ E : List En, (flat E).length = 2 * E.length
  | [] => rfl
  | x :: l => by simp only [flat, List.length_cons, flat_len l]; omega
theorem flat_get0 : ∀ (E : List En) (i : Nat), i < E.length → (flat E)[2 * i]? = some (.int .i64 (E.getD i ⟨0, 0⟩).s)
  | [], i, h => by cases h
  | x :: l, 0, _ => rfl
  | x :: l, i + 1, h => by
    rw [show 2 * (i + 1) = 2 * i + 1 + 1 by omega]
    simp only [flat, List.getElem?_cons_succ, List.getD_cons_succ]
    exact flat_get0 l i (by simpa using h)
theorem flat_get1 : ∀ (E : List En) (i : Nat), i < E.length → (flat E)[2 * i + 1]? = some (.int .i64 (E.getD i ⟨0, 0⟩).e)
  | [], i, h => by cases h
  | x :: l, 0, _ => rfl
  | x :: l, i + 1, h => by
    rw [show 2 * (i + 1) + 1 = 2 * i + 1 + 1 + 1 by omega]
    simp only [flat, List.getElem?_cons_succ, List.getD_cons_succ]
    exact flat_get1 l i (by simpa using h)
theorem flat_set0 : ∀ (E : List En) (i : Nat) (x : Int), (flat E).set (2 * i) (.int .i64 x) = flat (E.set i ⟨x, (E.getD i ⟨0, 0⟩).e⟩)
  | [], i, x => by simp [flat]
  | y :: l, 0, x => rfl
  | y :: l, i + 1, x => by
    rw [show 2 * (i + 1) = 2 * i + 1 + 1 by omega]
    simp only [flat, List.set_cons_succ, List.getD_cons_succ]
    rw [flat_set0 l i x]
theorem flat_set1 : ∀ (E : List En) (i : Nat) (x : Int), (flat E).set (2 * i + 1) (.int .i64 x) = flat (E.set i ⟨(E.getD i ⟨0, 0⟩).s, x⟩)
  | [], i, x => by simp [flat]
  | y :: l, 0, x => rfl
  | y :: l, i + 1, x => by
    rw [show 2 * (i + 1) + 1 = 2 * i + 1 + 1 + 1 by omega]
    simp only [flat, List.set_cons_succ, List.getD_cons_succ]
    rw [flat_set1 l i x]
/-- The ledger lies in memory: its struct in block g, its entries in block ge, no older than lo. -/
structure LAt (lo : Nat) (W : World) (g ge : Nat) (s : Lg) : Prop where
  blk : W.heap[g]? = some (.cells #[.slice (some ⟨ge, 0, none⟩) s.E.length s.E.length, .int .i64 s.pages, .int .i64 s.opn, .int .i64 s.cur] 52 (0, 0))
  row : W.heap[ge]? = some (.cells (flat s.E).toArray 55 (0, 0))
  lo : lo ≤ ge
  lt : ge < g
  pos : 0 < s.E.length
def IsL (lo : Nat) (W : World) (g : Nat) (s : Lg) : Prop := ∃ ge, LAt lo W g ge s
theorem LAt.kept {lo : Nat} {W W1 : World} {g ge : Nat} {s : Lg} (h : LAt lo W g ge s) (e : ∀ i, i ≤ g → i < W.heap.size → W1.heap[i]? = W.heap[i]?) : LAt lo W1 g ge s :=
  ⟨(e g (Nat.le_refl _) (blk_lt h.blk)).trans h.blk, (e ge (Nat.le_of_lt h.lt) (blk_lt h.row)).trans h.row, h.lo, h.lt, h.pos⟩
theorem IsL.kept {lo : Nat} {W W1 : World} {g : Nat} {s : Lg} (h : IsL lo W g s) (e : ∀ i, i ≤ g → i < W.heap.size → W1.heap[i]? = W.heap[i]?) : IsL lo W1 g s := by
  obtain ⟨ge, h⟩ := h
  exact ⟨ge, h.kept e⟩
theorem LAt.below {lo : Nat} {W W1 : World} {g ge : Nat} {s : Lg} (h : LAt lo W g ge s) (hb : Below W.heap.size W W1) : LAt lo W1 g ge s := h.kept fun i _ hi => hb.block i hi
theorem IsL.below {lo : Nat} {W W1 : World} {g : Nat} {s : Lg} (h : IsL lo W g s) (hb : Below W.heap.size W W1) : IsL lo W1 g s := h.kept fun i _ hi => hb.block i hi
theorem IsL.drewN {lo : Nat} {W : World} {g : Nat} {s : Lg} (h : IsL lo W g s) (m : Nat) : IsL lo (W.drewN m) g s := h.below (pw_below_drewN (Below.refl _ _) m)
theorem IsL.drew {lo : Nat} {W : World} {g : Nat} {s : Lg} (h : IsL lo W g s) : IsL lo W.drew g s := h.below (below_drew1 (Below.refl _ _))
theorem IsL.lt {lo : Nat} {W : World} {g : Nat} {s : Lg} (h : IsL lo W g s) : g < W.heap.size := by
  obtain ⟨ge, h⟩ := h
  exact blk_lt h.blk
theorem IsL.lo_le {lo : Nat} {W : World} {g : Nat} {s : Lg} (h : IsL lo W g s) : lo ≤ g := by
  obtain ⟨ge, h⟩ := h
  have := h.lo
  have := h.lt
  omega
theorem LAt.cS {lo : Nat} {W : World} {g ge : Nat} {s : Lg} (h : LAt lo W g ge s) (i : Int) (h0 : 0 ≤ i) (h1 : i < (s.E.length : Int)) : W.cell? ⟨ge, i.toNat * 2, none⟩ = some (.int .i64 (eS s.E i)) := by
  refine (blk_cell h.row (i.toNat * 2)).trans ?_
  rw [List.getElem?_toArray, Nat.mul_comm]
  exact flat_get0 s.E i.toNat (by omega)
theorem LAt.cE {lo : Nat} {W : World} {g ge : Nat} {s : Lg} (h : LAt lo W g ge s) (i : Int) (h0 : 0 ≤ i) (h1 : i < (s.E.length : Int)) : W.cell? ⟨ge, i.toNat * 2 + 1, none⟩ = some (.int .i64 (eE s.E i)) := by
  refine (blk_cell h.row (i.toNat * 2 + 1)).trans ?_
  rw [List.getElem?_toArray, Nat.mul_comm]
  exact flat_get1 s.E i.toNat (by omega)
def setS (E : List En) (i x : Int) : List En := E.set i.toNat ⟨x, eE E i⟩
def setE (E : List En) (i x : Int) : List En := E.set i.toNat ⟨eS E i, x⟩
theorem setS_len (E : List En) (i x : Int) : (setS E i x).length = E.length := List.length_set
theorem setE_len (E : List En) (i x : Int) : (setE E i x).length = E.length := List.length_set
theorem LAt.putS {lo : Nat} {W : World} {g ge : Nat} {s : Lg} (h : LAt lo W g ge s) (i x : Int) : LAt lo (W.setCell ⟨ge, i.toNat * 2, none⟩ (.int .i64 x)) g ge { s with E := setS s.E i x } := by
  have hne : g ≠ ge := by have := h.lt; omega
  refine ⟨?_, ?_, h.lo, h.lt, by rw [setS_len]; exact h.pos⟩
  · rw [setS_len]
    exact blk_far (p := ⟨ge, i.toNat * 2, none⟩) h.blk hne _
  · refine blk_put h.row (i.toNat * 2) _ ?_
    rw [List.setIfInBounds_toArray, Nat.mul_comm, flat_set0]
    rfl
theorem LAt.putE {lo : Nat} {W : World} {g ge : Nat} {s : Lg} (h : LAt lo W g ge s) (i x : Int) : LAt lo (W.setCell ⟨ge, i.toNat * 2 + 1, none⟩ (.int .i64 x)) g ge { s with E := setE s.E i x } := by
  have hne : g ≠ ge := by have := h.lt; omega
  refine ⟨?_, ?_, h.lo, h.lt, by rw [setE_len]; exact h.pos⟩
  · rw [setE_len]
    exact blk_far (p := ⟨ge, i.toNat * 2 + 1, none⟩) h.blk hne _
  · refine blk_put h.row (i.toNat * 2 + 1) _ ?_
    rw [List.setIfInBounds_toArray, Nat.mul_comm, flat_set1]
    rfl
theorem LAt.putO {lo : Nat} {W : World} {g ge : Nat} {s : Lg} (h : LAt lo W g ge s) (x : Int) : LAt lo (W.setCell ⟨g, 2, none⟩ (.int .i64 x)) g ge { s with opn := x } :=
  ⟨blk_put h.blk 2 _ rfl, blk_far (p := ⟨g, 2, none⟩) h.row (Nat.ne_of_lt h.lt) _, h.lo, h.lt, h.pos⟩
theorem LAt.putC {lo : Nat} {W : World} {g ge : Nat} {s : Lg} (h : LAt lo W g ge s) (x : Int) : LAt lo (W.setCell ⟨g, 3, none⟩ (.int .i64 x)) g ge { s with cur := x } :=
  ⟨blk_put h.blk 3 _ rfl, blk_far (p := ⟨g, 3, none⟩) h.row (Nat.ne_of_lt h.lt) _, h.lo, h.lt, h.pos⟩
theorem LAt.c0 {lo : Nat} {W : World} {g ge : Nat} {s : Lg} (h : LAt lo W g ge s) : W.cell? ⟨g, 0, none⟩ = some (.slice (some ⟨ge, 0, none⟩) s.E.length s.E.length) := (blk_cell h.blk 0).trans rfl
theorem LAt.c1 {lo : Nat} {W : World} {g ge : Nat} {s : Lg} (h : LAt lo W g ge s) : W.cell? ⟨g, 1, none⟩ = some (.int .i64 s.pages) := (blk_cell h.blk 1).trans rfl
theorem LAt.c2 {lo : Nat} {W : World} {g ge : Nat} {s : Lg} (h : LAt lo W g ge s) : W.cell? ⟨g, 2, none⟩ = some (.int .i64 s.opn) := (blk_cell h.blk 2).trans rfl
theorem LAt.c3 {lo : Nat} {W : World} {g ge : Nat} {s : Lg} (h : LAt lo W g ge s) : W.cell? ⟨g, 3, none⟩ = some (.int .i64 s.cur) := (blk_cell h.blk 3).trans rfl
/-- What a change of the ledger leaves: whatever is younger than its struct. -/
def KeepL (g : Nat) (w w' : World) : Prop := w.heap.size ≤ w'.heap.size ∧ ∀ i, g < i → i < w.heap.size → w'.heap[i]? = w.heap[i]?
theorem KeepL.of_below {g : Nat} {w w' : World} (h : Below w.heap.size w w') : KeepL g w w' := ⟨h.size, fun i _ hi => h.block i hi⟩
theorem KeepL.trans {g : Nat} {w w1 w2 : World} (h : KeepL g w w1) (k : KeepL g w1 w2) : KeepL g w w2 := ⟨Nat.le_trans h.1 k.1, fun i hi hl => (k.2 i hi (Nat.lt_of_lt_of_le hl h.1)).trans (h.2 i hi hl)⟩
theorem KeepL.put {g : Nat} {w w1 : World} (h : KeepL g w w1) {p : Addr} (hp : p.block ≤ g) (u : Value) : KeepL g w (w1.setCell p u) :=
  ⟨by simpa [World.setCell] using h.1, fun i hi hl => (Below.heap_setCell w1 p u i (by omega)).trans (h.2 i hi hl)⟩
set_option maxHeartbeats 8000000 in
theorem is_calls {lo : Nat} {w : World} {g : Nat} {s : Lg} (hI : IsL lo w g s) :
    Calls Try.prog 26 #[.pointer (some ⟨g, 0, none⟩)] w fun e w' => e = .returned (.bool true) ∧ Drawn0 w w' := by
  obtain ⟨ge, h⟩ := hI
  have c0 := h.c0
  have hp : decide (0 < (s.E.length : Int)) = true := decide_eq_true (by have := h.pos; omega)
  have hq := eq_true h.pos
  go_enter Try.func26, Try.ntmps26
  go_wp2
  go_ret
  exact ⟨by first | rfl | (simp; done) | (simp [*]; done), by repeat (first | exact Drawn0.refl _ | apply Drawn0.step)⟩
set_option maxHeartbeats 8000000 in
theorem is_nil (w : World) : Calls Try.prog 26 #[.pointer none] w fun e w' => e = .returned (.bool false) ∧ Drawn0 w w' := by
  go_enter Try.func26, Try.ntmps26
  go_wp2
  go_ret
  exact ⟨by first | rfl | (simp; done) | (simp [*]; done), by repeat (first | exact Drawn0.refl _ | apply Drawn0.step)⟩
set_option maxHeartbeats 8000000 in
theorem at_in {lo : Nat} {w : World} {g ge : Nat} {s : Lg} (h : LAt lo w g ge s) (i : Int) (h0 : 0 ≤ i) (h1 : i < (s.E.length : Int)) :
    Calls Try.prog 27 #[.pointer (some ⟨g, 0, none⟩), .int .i64 i] w fun e w' => e = .returned (.tuple #[.pointer (some ⟨ge, i.toNat * 2, none⟩), .bool true]) ∧ Drawn0 w w' := by
  have hI : IsL lo w g s := ⟨ge, h⟩
  have HI := Aside0.mk hI
  clear hI
  have c0 := h.c0
  have b0 : decide (i < 0) = false := decide_eq_false (by omega)
  have b1 : decide ((s.E.length : Int) ≤ i) = false := decide_eq_false (by omega)
  have p0 := eq_true h0
  have p1 := eq_true h1
  clear h h0 h1
  go_enter Try.func27, Try.ntmps27
  go_wp2_with (first | (go_at_call 26; (with_reducible refine (is_calls HI.out).mono ?_); rintro e w' ⟨rfl, ⟨nd, rfl⟩⟩))
  go_ret2
  exact ⟨by first | rfl | (simp; done) | (simp [*]; done), by repeat (first | exact Drawn0.refl _ | apply Drawn0.step | exact ⟨_, rfl⟩)⟩
set_option maxHeartbeats 8000000 in
theorem at_out {lo : Nat} {w : World} {g : Nat} {s : Lg} (hI : IsL lo w g s) (i : Int) (ho : i < 0 ∨ (s.E.length : Int) ≤ i) :
    Calls Try.prog 27 #[.pointer (some ⟨g, 0, none⟩), .int .i64 i] w fun e w' => e = .returned (.tuple #[.pointer none, .bool false]) ∧ Drawn0 w w' := by
  have HI := Aside0.mk hI
  obtain ⟨ge, h⟩ := hI
  have c0 := h.c0
  clear h
  by_cases h0 : i < 0
  · have b0 : decide (i < 0) = true := decide_eq_true h0
    clear h0 ho
    go_enter Try.func27, Try.ntmps27
    go_wp2_with (first | (go_at_call 26; (with_reducible refine (is_calls HI.out).mono ?_); rintro e w' ⟨rfl, ⟨nd, rfl⟩⟩))
    go_ret2
    exact ⟨by first | rfl | (simp; done) | (simp [*]; done), by repeat (first | exact Drawn0.refl _ | apply Drawn0.step | exact ⟨_, rfl⟩)⟩
  · have b0 : decide (i < 0) = false := decide_eq_false h0
    have b1 : decide ((s.E.length : Int) ≤ i) = true := decide_eq_true (by omega)
    clear h0 ho
    go_enter Try.func27, Try.ntmps27
    go_wp2_with (first | (go_at_call 26; (with_reducible refine (is_calls HI.out).mono ?_); rintro e w' ⟨rfl, ⟨nd, rfl⟩⟩))
    go_ret2
    exact ⟨by first | rfl | (simp; done) | (simp [*]; done), by repeat (first | exact Drawn0.refl _ | apply Drawn0.step | exact ⟨_, rfl⟩)⟩
end Go.Proofs.Ytpjmmmgjiaallaa.M
