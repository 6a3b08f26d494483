/-
  The reference's map in memory: its struct and its row of numbers; what its functions answer, told of a list.
-/
import Derived.Test.YtjcmpfiklmpoaaaL5
namespace Go.Proofs.Ytjcmpfiklmpoaaa.M
open Go.RowKit Go.Maps Go.Proofs.YtjcmpfiklmpoaaaW.PrintWords Go.Proofs.YtjcmpfiklmpoaaaW.PrintLast Go.Proofs.YtjcmpfiklmpoaaaW.PrintMore
set_option linter.unusedVariables false
set_option linter.unusedSimpArgs false
structure Rs where
  A : List Int
  n1 : Int
  n2 : Int
abbrev RowI (W : World) (lo : Nat) (v : Value) (xs : List Int) : Prop := Kd.R (Kd.int .i64) 3 W lo (fun _ => True) v xs
/-- It lies in memory: its struct in block h, its row in a block that is no older than lo. -/
def IsR (lo : Nat) (W : World) (h : Nat) (s : Rs) : Prop := lo ≤ h ∧ ∃ v, W.heap[h]? = some (.cells #[v, .int .i64 s.n1, .int .i64 s.n2] 51 (0, 0)) ∧ RowI W lo v s.A
theorem IsR.below {lo : Nat} {W W1 : World} {h : Nat} {s : Rs} (H : IsR lo W h s) (hb : Below W.heap.size W W1) : IsR lo W1 h s := by
  obtain ⟨hl, v, hv, hr⟩ := H
  exact ⟨hl, v, blk_below hv hb, Kd.R_below hr hb⟩
theorem IsR.alloc {lo : Nat} {W : World} {h : Nat} {s : Rs} (H : IsR lo W h s) (o : Obj) : IsR lo (W.alloc o) h s := H.below (below_alloc (Below.refl _ _) o)
theorem IsR.drewN {lo : Nat} {W : World} {h : Nat} {s : Rs} (H : IsR lo W h s) (m : Nat) : IsR lo (W.drewN m) h s := H.below (pw_below_drewN (Below.refl _ _) m)
theorem IsR.drew {lo : Nat} {W : World} {h : Nat} {s : Rs} (H : IsR lo W h s) : IsR lo W.drew h s := H.below (below_drew1 (Below.refl _ _))
theorem IsR.lt {lo : Nat} {W : World} {h : Nat} {s : Rs} (H : IsR lo W h s) : h < W.heap.size := by
  obtain ⟨_, v, hv, hr⟩ := H
  exact blk_lt hv
/-- Blocks of lo and behind it stay. -/
theorem IsR.high {lo : Nat} {W W1 : World} {h : Nat} {s : Rs} (H : IsR lo W h s) (hk : ∀ i, lo ≤ i → i < W.heap.size → W1.heap[i]? = W.heap[i]?) : IsR lo W1 h s := by
  obtain ⟨hl, v, hv, hr⟩ := H
  refine ⟨hl, v, (hk h hl (blk_lt hv)).trans hv, ?_⟩
  exact Kd.R_mono (Kd.R_move (Kd.R_bound hr) (fun k ⟨_, h1, h2, _⟩ => hk k h1 h2)) (fun _ _ => trivial)
/-- What the reference's functions leave: whatever is older than lo, and blocks of other types. -/
def KeepR (lo : Nat) (w w' : World) : Prop := w.heap.size ≤ w'.heap.size ∧ (∀ (i : Nat) cs t fr, w.heap[i]? = some (.cells cs t fr) → t ≠ 51 → t ≠ 3 → w'.heap[i]? = some (.cells cs t fr)) ∧ ∀ i, i < lo → i < w.heap.size → w'.heap[i]? = w.heap[i]?
theorem KeepR.of_below {lo : Nat} {w w' : World} (h : Below w.heap.size w w') : KeepR lo w w' := ⟨h.size, fun i _ _ _ hb _ _ => (h.block i (blk_lt hb)).trans hb, fun i _ hi => h.block i hi⟩
theorem KeepR.trans {lo : Nat} {w w1 w2 : World} (h : KeepR lo w w1) (k : KeepR lo w1 w2) : KeepR lo w w2 :=
  ⟨Nat.le_trans h.1 k.1, fun i cs t fr hb h1 h2 => k.2.1 i cs t fr (h.2.1 i cs t fr hb h1 h2) h1 h2, fun i hi hl => (k.2.2 i hi (Nat.lt_of_lt_of_le hl h.1)).trans (h.2.2 i hi hl)⟩
theorem KeepR.put {lo : Nat} {w : World} {ra : Nat} {cs : Array Value} (hb : w.heap[ra]? = some (.cells cs 3 (0, 0))) (hl : lo ≤ ra) (j : Nat) (u : Value) : KeepR lo w (w.setCell ⟨ra, j, none⟩ u) := by
  refine ⟨by simp [World.setCell], fun i cs' t fr hi h1 h2 => ?_, fun i hi _ => ?_⟩
  · exact (Below.heap_setCell w ⟨ra, j, none⟩ u i (cells_ty hi hb (Ne.symm h2))).trans hi
  · exact Below.heap_setCell w ⟨ra, j, none⟩ u i (show i ≠ ra by omega)
/-- Row -/
def rFrom (A : List Int) (a : Int) : Nat → Int → Int
  | 0, _ => -1
  | d + 1, i => if rd A i > 0 then (if wrap64 (rd A i - 1) = a then i else rFrom A a d (i + 1)) else rFrom A a d (i + 1)
def rRow (A : List Int) (a : Int) : Int := rFrom A a A.length 0
theorem w64s {x : Int} (h : -9223372036854775808 ≤ x) (h' : x ≤ 9223372036854775807) : wrap64 x = x := by unfold wrap64; omega
theorem row_len {W : World} {lo : Nat} {v : Value} {xs : List Int} (h : RowI W lo v xs) : ∃ A c, v = .slice A xs.length c ∧ xs.length ≤ c ∧ (Kd.int .i64).C W A xs.length xs := Kd.R_reads h
set_option maxHeartbeats 8000000 in
set_option maxRecDepth 100000 in
theorem r_Row_drawn {lo : Nat} {w : World} {h : Nat} {s : Rs} (a1 : Int) (hI : IsR lo w h s) (hlen : s.A.length < 1000000) :
    Calls Try.prog 14 #[.pointer (some ⟨h, 0, none⟩), .int .i64 a1] w fun e w' => e = .returned (.int .i64 (rRow s.A a1)) ∧ Drawn0 w w' := by
  obtain ⟨_, v, hv, hr⟩ := hI
  obtain ⟨A0, c0, rfl, hlc, hC⟩ := row_len hr
  have HC := Aside0.mk hC
  have HV := Aside0.mk hv
  have HL := Aside0.mk hlen
  obtain ⟨res, hres⟩ : ∃ res, res = rRow s.A a1 := ⟨_, rfl⟩
  rw [← hres]
  have HR := Aside0.mk hres
  clear hlen hlc hC hv hr hres
  go_enter Try.func14, Try.ntmps14
  go_wp2
  go_loopg [5] (s.A.length + 1) (fun kq v5 w' => ∃ (x : Int) (d : Nat), v5 = .int .i64 x ∧ Aside0 (0 ≤ x ∧ x + d = s.A.length) ∧ Aside0 (kq = d + 1) ∧ Aside0 (rFrom s.A a1 d x = res) ∧ Aside0 (Drawn0 w w'))
  case atStart => exact ⟨0, s.A.length, rfl, ⟨Int.le_refl _, Int.zero_add _⟩, ⟨rfl⟩, ⟨HR.out.symm⟩, ⟨Drawn0.refl w⟩⟩
  case round =>
    obtain ⟨x, d, rfl, Hn, HK, HF, HD⟩ := hrel
    have hvr : wr.heap[h]? = some (.cells #[.slice A0 s.A.length c0, .int .i64 s.n1, .int .i64 s.n2] 51 (0, 0)) := blk_below HV.out HD.out.below
    have c0_ : wr.cell? ⟨h, 0, none⟩ = some (.slice A0 s.A.length c0) := (blk_cell hvr 0).trans rfl
    have HVR := Aside0.mk hvr
    clear hvr
    cases d with
    | zero =>
      have hb : decide (x < (s.A.length : Int)) = false := decide_eq_false (by have := Hn.out; omega)
      obtain rfl : (-1 : Int) = res := HF.out
      go_wp2
      go_ret
      obtain ⟨nd, rfl⟩ := HD.out
      exact ⟨by first | rfl | (simp; done), by repeat (first | exact Drawn0.refl _ | apply Drawn0.step | exact ⟨_, rfl⟩)⟩
    | succ d =>
      have hb : decide (x < (s.A.length : Int)) = true := decide_eq_true (by have := Hn.out; omega)
      have hz : decide (0 ≤ x) = true := decide_eq_true Hn.out.1
      obtain ⟨ad, e1, hx⟩ := Kd.at_int HC.out x Hn.out.1 (by have := Hn.out; omega)
      cases e1
      have p1 := eq_true Hn.out.1
      have p2 := eq_true (show x < (s.A.length : Int) by have := Hn.out; omega)
      replace hx := pw_cell_below HD.out.below hx
      have hf := HF.out
      simp only [rFrom] at hf
      have hw : wrap64 (x + 1) = x + 1 := w64s (by have := Hn.out; omega) (by have := Hn.out; have := HL.out; omega)
      have HW := Aside0.mk hw
      clear hw
      have fin : ∀ (W' : World), Drawn0 w W' → rFrom s.A a1 d (x + 1) = res → ∃ (x_1 : Int) (d_1 : Nat), Value.int IntKind.i64 (wrap64 (x + 1)) = .int .i64 x_1 ∧ Aside0 (0 ≤ x_1 ∧ x_1 + d_1 = s.A.length) ∧ Aside0 (d + 1 = d_1 + 1) ∧ Aside0 (rFrom s.A a1 d_1 x_1 = res) ∧ Aside0 (Drawn0 w W') := by
        intro W' hd hf'
        exact ⟨x + 1, d, by rw [HW.out], ⟨by have := Hn.out; omega, by have := Hn.out; omega⟩, ⟨rfl⟩, ⟨hf'⟩, ⟨hd⟩⟩
      have FIN := Aside0.mk fin
      clear fin
      by_cases c5 : rd s.A x > 0
      · rw [if_pos c5] at hf
        have c5b : decide (0 < rd s.A x) = true := decide_eq_true c5
        clear c5
        by_cases c6 : wrap64 (rd s.A x - 1) = a1
        · rw [if_pos c6] at hf
          have c6b : (wrap64 (rd s.A x - 1) == a1) = true := beq_iff_eq.mpr c6
          clear c6
          have HF2 := Aside0.mk hf
          clear hf HF
          go_wp2
          go_ret
          obtain ⟨nd, rfl⟩ := HD.out
          exact ⟨by obtain rfl := HF2.out; first | rfl | (simp; done), by repeat (first | exact Drawn0.refl _ | apply Drawn0.step | exact ⟨_, rfl⟩)⟩
        · rw [if_neg c6] at hf
          have c6b : (wrap64 (rd s.A x - 1) == a1) = false := beq_eq_false_iff_ne.mpr c6
          have HF2 := Aside0.mk hf
          clear hf HF c6
          go_wp2
          go_roundg (d + 1)
          case measure => have := HK.out; omega
          case rel => exact FIN.out _ (by obtain ⟨nd, rfl⟩ := HD.out; repeat (first | exact Drawn0.refl _ | apply Drawn0.step | exact ⟨_, rfl⟩)) HF2.out
      · rw [if_neg c5] at hf
        have c5b : decide (0 < rd s.A x) = false := decide_eq_false c5
        have HF2 := Aside0.mk hf
        clear hf HF c5
        go_wp2
        go_roundg (d + 1)
        case measure => have := HK.out; omega
        case rel => exact FIN.out _ (by obtain ⟨nd, rfl⟩ := HD.out; repeat (first | exact Drawn0.refl _ | apply Drawn0.step | exact ⟨_, rfl⟩)) HF2.out
/-- Rows -/
def rRowsFrom (A : List Int) (P b : Int) : Nat → Int → List Int → List Int
  | 0, _, out => out
  | d + 1, i, out => if rd A i > 0 then (if wrap64 (Int.tdiv i P) = b then rRowsFrom A P b d (i + 1) (out ++ [i]) else rRowsFrom A P b d (i + 1) out) else rRowsFrom A P b d (i + 1) out
def rRows (s : Rs) (b : Int) : List Int := rRowsFrom s.A s.n2 b s.A.length 0 []
set_option maxHeartbeats 8000000 in
set_option maxRecDepth 100000 in
theorem r_Rows_fresh {lo : Nat} {w : World} {h : Nat} {s : Rs} (a1 : Int) (hI : IsR lo w h s) (hlen : s.A.length < 1000000) (h2 : s.n2 ≠ 0) :
    Calls Try.prog 17 #[.pointer (some ⟨h, 0, none⟩), .int .i64 a1] w fun e w' => ∃ v0_ : Value, e = .returned (v0_) ∧ Kd.R (Kd.int .i64) 3 w' w.heap.size (fun _ => True) v0_ (rRows s a1) ∧ Below w.heap.size w w' := by
  obtain ⟨_, v, hv, hr⟩ := hI
  obtain ⟨A0, c0, rfl, hlc, hC⟩ := row_len hr
  have HC := Aside0.mk hC
  have HV := Aside0.mk hv
  have HL := Aside0.mk hlen
  obtain ⟨res, hres⟩ : ∃ res, res = rRows s a1 := ⟨_, rfl⟩
  rw [← hres]
  have HR := Aside0.mk hres
  have h2b : (s.n2 == 0) = false := beq_eq_false_iff_ne.mpr h2
  clear hlen hlc hC hv hr hres
  go_enter Try.func17, Try.ntmps17
  go_wp2
  go_loopg [5, 6] (s.A.length + 1) (fun kq v5 v6 w' => ∃ (x : Int) (d : Nat) (out : List Int), v6 = .int .i64 x ∧ Aside0 (0 ≤ x ∧ x + d = s.A.length) ∧ Aside0 (kq = d + 1) ∧ Aside0 ((out.length : Int) ≤ x) ∧ Aside0 (rRowsFrom s.A s.n2 a1 d x out = res) ∧ Aside0 (Kd.R (Kd.int .i64) 3 w' w.heap.size (fun _ => True) v5 out) ∧ Aside0 (Below w.heap.size w w'))
  case atStart => exact ⟨0, s.A.length, [], rfl, ⟨Int.le_refl _, Int.zero_add _⟩, ⟨rfl⟩, ⟨by simp⟩, ⟨HR.out.symm⟩, ⟨Kd.R_nil _ _ _ _ _⟩, ⟨Below.refl _ _⟩⟩
  case round =>
    obtain ⟨x, d, out, rfl, Hn, HK, HOL, HF, HO, HB⟩ := hrel
    have hvr : wr.heap[h]? = some (.cells #[.slice A0 s.A.length c0, .int .i64 s.n1, .int .i64 s.n2] 51 (0, 0)) := blk_below HV.out HB.out
    have c0_ : wr.cell? ⟨h, 0, none⟩ = some (.slice A0 s.A.length c0) := (blk_cell hvr 0).trans rfl
    have c2_ : wr.cell? ⟨h, 2, none⟩ = some (.int .i64 s.n2) := (blk_cell hvr 2).trans rfl
    have HVR := Aside0.mk hvr
    clear hvr
    cases d with
    | zero =>
      have hb : decide (x < (s.A.length : Int)) = false := decide_eq_false (by have := Hn.out; omega)
      obtain rfl : out = res := HF.out
      go_wp2
      go_ret
      exact ⟨_, rfl, by exact (by (with_reducible repeat (first | apply Kd.R_alloc | apply Kd.R_drewN | apply Kd.R_drew)); exact HO.out), by exact (by repeat (first | (with_reducible first | exact HB.out | apply below_alloc | apply pw_below_drewN | apply below_drew1) | exact HB.out))⟩
    | succ d =>
      have hb : decide (x < (s.A.length : Int)) = true := decide_eq_true (by have := Hn.out; omega)
      have hz : decide (0 ≤ x) = true := decide_eq_true Hn.out.1
      obtain ⟨ad, e1, hx⟩ := Kd.at_int HC.out x Hn.out.1 (by have := Hn.out; omega)
      cases e1
      have p1 := eq_true Hn.out.1
      have p2 := eq_true (show x < (s.A.length : Int) by have := Hn.out; omega)
      replace hx := pw_cell_below HB.out hx
      have hf := HF.out
      simp only [rRowsFrom] at hf
      have hw : wrap64 (x + 1) = x + 1 := w64s (by have := Hn.out; omega) (by have := Hn.out; have := HL.out; omega)
      have HW := Aside0.mk hw
      clear hw
      have fin : ∀ (v : Value) (W' : World) (o2 : List Int), (o2.length : Int) ≤ x + 1 → rRowsFrom s.A s.n2 a1 d (x + 1) o2 = res → Kd.R (Kd.int .i64) 3 W' w.heap.size (fun _ => True) v o2 → Below w.heap.size w W' → ∃ (x_1 : Int) (d_1 : Nat) (out : List Int), Value.int IntKind.i64 (wrap64 (x + 1)) = .int .i64 x_1 ∧ Aside0 (0 ≤ x_1 ∧ x_1 + d_1 = s.A.length) ∧ Aside0 (d + 1 = d_1 + 1) ∧ Aside0 ((out.length : Int) ≤ x_1) ∧ Aside0 (rRowsFrom s.A s.n2 a1 d_1 x_1 out = res) ∧ Aside0 (Kd.R (Kd.int .i64) 3 W' w.heap.size (fun _ => True) v out) ∧ Aside0 (Below w.heap.size w W') := by
        intro v W' o2 ho hf' hr hb
        exact ⟨x + 1, d, o2, by rw [HW.out], ⟨by have := Hn.out; omega, by have := Hn.out; omega⟩, ⟨rfl⟩, ⟨ho⟩, ⟨hf'⟩, ⟨hr⟩, ⟨hb⟩⟩
      have FIN := Aside0.mk fin
      clear fin
      by_cases c5 : rd s.A x > 0
      · rw [if_pos c5] at hf
        have c5b : decide (0 < rd s.A x) = true := decide_eq_true c5
        clear c5
        by_cases c6 : wrap64 (Int.tdiv x s.n2) = a1
        · rw [if_pos c6] at hf
          have c6b : (wrap64 (Int.tdiv x s.n2) == a1) = true := beq_iff_eq.mpr c6
          clear c6
          have HF2 := Aside0.mk hf
          clear hf HF
          go_wp2_with (first | ((with_reducible refine gate_builtin (b := .append) (xs := #[.tmp 34, .tmp 36]) rfl ?_); at_builtin; refine Kd.R_append (Kd.int .i64) w.heap.size rfl (.tmp 34) (.tmp 36) 40 3 (.int .i64 0) 8 rfl Try.underlying40 inf3 rfl (by decide) (by omega) u5 out x [.int .i64 x] (fun _ => True) (fun _ => False) rfl rfl ?aP (fun _ hk => hk.elim) ?aF ?aO (w0 := w) ?aB ?aS ?aL ?_; (case aP => exact rfl); (case aF => exact (fun _ _ => trivial)); (case aB => repeat (first | (with_reducible first | exact HB.out | apply below_alloc | apply pw_below_drewN | apply below_drew1) | exact HB.out)); (case aO => exact (by (with_reducible repeat (first | apply Kd.R_alloc | apply Kd.R_drewN | apply Kd.R_drew)); exact HO.out)); (case aS => exact below_size (by repeat (first | (with_reducible first | exact HB.out | apply below_alloc | apply pw_below_drewN | apply below_drew1) | exact HB.out))); (case aL => have := HOL.out; have := HL.out; have := Hn.out; omega); intro v1 w1 ho hb hg hat; clear HO HB; have HO := Aside0.mk ho; have HB := Aside0.mk hb; clear ho hb hg hat))
          go_roundg (d + 1)
          case measure => have := HK.out; omega
          case rel => exact FIN.out _ _ _ (by have := HOL.out; simp only [List.length_append, List.length_singleton]; omega) HF2.out (by (with_reducible repeat (first | apply Kd.R_alloc | apply Kd.R_drewN | apply Kd.R_drew)); exact HO.out) (by repeat (first | (with_reducible first | exact HB.out | apply below_alloc | apply pw_below_drewN | apply below_drew1) | exact HB.out))
        · rw [if_neg c6] at hf
          have c6b : (wrap64 (Int.tdiv x s.n2) == a1) = false := beq_eq_false_iff_ne.mpr c6
          have HF2 := Aside0.mk hf
          clear hf HF c6
          go_wp2
          go_roundg (d + 1)
          case measure => have := HK.out; omega
          case rel => exact FIN.out _ _ _ (by have := HOL.out; omega) HF2.out (by (with_reducible repeat (first | apply Kd.R_alloc | apply Kd.R_drewN | apply Kd.R_drew)); exact HO.out) (by repeat (first | (with_reducible first | exact HB.out | apply below_alloc | apply pw_below_drewN | apply below_drew1) | exact HB.out))
      · rw [if_neg c5] at hf
        have c5b : decide (0 < rd s.A x) = false := decide_eq_false c5
        have HF2 := Aside0.mk hf
        clear hf HF c5
        go_wp2
        go_roundg (d + 1)
        case measure => have := HK.out; omega
        case rel => exact FIN.out _ _ _ (by have := HOL.out; omega) HF2.out (by (with_reducible repeat (first | apply Kd.R_alloc | apply Kd.R_drewN | apply Kd.R_drew)); exact HO.out) (by repeat (first | (with_reducible first | exact HB.out | apply below_alloc | apply pw_below_drewN | apply below_drew1) | exact HB.out))
theorem rFrom_rng (A : List Int) (a : Int) : ∀ (d : Nat) (x : Int), 0 ≤ x → rFrom A a d x = -1 ∨ (x ≤ rFrom A a d x ∧ rFrom A a d x < x + d)
  | 0, _, _ => .inl rfl
  | d + 1, x, h => by
    have ih := rFrom_rng A a d (x + 1) (by omega)
    unfold rFrom
    split
    · split
      · exact .inr ⟨Int.le_refl _, by omega⟩
      · rcases ih with ih | ih
        · exact .inl ih
        · exact .inr ⟨by omega, by omega⟩
    · rcases ih with ih | ih
      · exact .inl ih
      · exact .inr ⟨by omega, by omega⟩
theorem rRow_rng (A : List Int) (a : Int) : rRow A a = -1 ∨ (0 ≤ rRow A a ∧ rRow A a < A.length) := by
  rcases rFrom_rng A a A.length 0 (Int.le_refl _) with h | h
  · exact .inl h
  · exact .inr ⟨h.1, by have := h.2; unfold rRow; omega⟩
/-- A number of the row is written. -/
theorem IsR.put {lo : Nat} {w0 w : World} (hbw : Below lo w0 w) {h ra cap : Nat} {s : Rs} (hl : lo ≤ h) (hv : w.heap[h]? = some (.cells #[.slice (some ⟨ra, 0, none⟩) s.A.length cap, .int .i64 s.n1, .int .i64 s.n2] 51 (0, 0))) (hr : RowI w lo (.slice (some ⟨ra, 0, none⟩) s.A.length cap) s.A) (i x : Int) :
    IsR lo (w.setCell ⟨ra, i.toNat, none⟩ (.int .i64 x)) h { s with A := s.A.set i.toNat x } ∧ Below lo w0 (w.setCell ⟨ra, i.toNat, none⟩ (.int .i64 x)) ∧ KeepR lo w (w.setCell ⟨ra, i.toNat, none⟩ (.int .i64 x)) := by
  obtain ⟨_, h1, h2, q, hq, cells, hc⟩ := (Kd.R_bound hr).1 ra rfl
  obtain rfl : q = 3 := by
    have : q ∈ [3] := hq
    simpa using this
  refine ⟨⟨hl, _, ?_, Kd.R_putn hr i x⟩, hbw.setCell h1 _, KeepR.put hc h1 _ _⟩
  have := blk_far (p := ⟨ra, i.toNat, none⟩) hv (cells_ty hv hc (by decide)) (.int .i64 x)
  simpa using this
/-- Drop -/
def rDrop (A : List Int) (a : Int) : List Int := if rRow A a ≥ 0 then A.set (rRow A a).toNat 0 else A
set_option maxHeartbeats 8000000 in
set_option maxRecDepth 100000 in
theorem r_Drop_calls {lo : Nat} {w : World} {h : Nat} {s : Rs} (a1 : Int) (hI : IsR lo w h s) (hlen : s.A.length < 1000000) :
    Calls Try.prog 12 #[.pointer (some ⟨h, 0, none⟩), .int .i64 a1] w fun e w' => e = .returned (.bool (decide (rRow s.A a1 ≥ 0))) ∧ IsR lo w' h { s with A := rDrop s.A a1 } ∧ Below lo w w' ∧ KeepR lo w w' := by
  have hI' := Aside0.mk hI
  have HL := Aside0.mk hlen
  have hrow : ∀ W : World, IsR lo W h s → Calls Try.prog 14 #[.pointer (some ⟨h, 0, none⟩), .int .i64 a1] W fun e w' => e = .returned (.int .i64 (rRow s.A a1)) ∧ Drawn0 W w' := fun W hW => r_Row_drawn a1 hW hlen
  unfold rDrop
  have hrg := rRow_rng s.A a1
  obtain ⟨i, hi⟩ : ∃ i, i = rRow s.A a1 := ⟨_, rfl⟩
  rw [← hi] at hrow hrg ⊢
  clear hi hlen hI
  have HROW := Aside0.mk hrow
  clear hrow
  by_cases c : i ≥ 0
  · have c1 : decide (0 ≤ i) = true := decide_eq_true c
    rw [if_pos c, show decide (i ≥ 0) = true from c1]
    have p1 := eq_true c
    have q0 : i < (s.A.length : Int) := by omega
    have q1 := eq_true q0
    obtain ⟨hl, v, hv, hr⟩ := hI'.out
    obtain ⟨A0, c0, rfl, hlc, hC⟩ := row_len hr
    obtain ⟨ad, e1, _⟩ := Kd.at_int hC i c q0
    cases e1
    obtain ⟨ra, rfl⟩ := Kd.R_head hr
    obtain ⟨hx, hfz⟩ := Kd.R_celln 0 hr i c q0
    have HV := Aside0.mk hv
    have HR := Aside0.mk hr
    have HLo := Aside0.mk hl
    have c0_ : w.cell? ⟨h, 0, none⟩ = some (.slice (some ⟨ra, 0, none⟩) s.A.length c0) := (blk_cell hv 0).trans rfl
    clear hv hr hl hrg hC q0 hlc c
    go_enter Try.func12, Try.ntmps12
    go_wp2_with (first | (go_at_call 14; (with_reducible refine (HROW.out _ hI'.out).mono ?_); rintro e w' ⟨rfl, ⟨nd, rfl⟩⟩))
    go_ret
    obtain ⟨k1, k2, k3⟩ := IsR.put (w := w.drewN nd) (pw_below_drewN (Below.refl lo w) nd) HLo.out HV.out HR.out i 0
    exact ⟨by first | rfl | (simp; done), k1, k2, k3⟩
  · have c1 : decide (0 ≤ i) = false := decide_eq_false c
    rw [if_neg c, show decide (i ≥ 0) = false from c1]
    clear hrg c
    go_enter Try.func12, Try.ntmps12
    go_wp2_with (first | (go_at_call 14; (with_reducible refine (HROW.out _ hI'.out).mono ?_); rintro e w' ⟨rfl, ⟨nd, rfl⟩⟩))
    go_ret
    exact ⟨by first | rfl | (simp; done), hI'.out.drewN nd, pw_below_drewN (Below.refl _ _) nd, KeepR.of_below (pw_below_drewN (Below.refl _ _) nd)⟩
/-- Set -/
def rBad (s : Rs) (a b : Int) : Prop := a < 0 ∨ s.n1 ≤ a ∨ b < 0 ∨ (s.A.length : Int) ≤ b ∨ (rd s.A b > 0 ∧ wrap64 (rd s.A b - 1) ≠ a)
instance (s : Rs) (a b : Int) : Decidable (rBad s a b) := by unfold rBad; infer_instance
def rSet (s : Rs) (a b : Int) : Int × Rs := if rBad s a b then (2, s) else (0, { s with A := (rDrop s.A a).set b.toNat (wrap64 (a + 1)) })
theorem rDrop_len (A : List Int) (a : Int) : (rDrop A a).length = A.length := by unfold rDrop; split <;> simp
set_option maxHeartbeats 8000000 in
set_option maxRecDepth 100000 in
theorem r_Set_calls {lo : Nat} {w : World} {h : Nat} {s : Rs} (a1 a2 : Int) (hI : IsR lo w h s) (hlen : s.A.length < 1000000) :
    Calls Try.prog 10 #[.pointer (some ⟨h, 0, none⟩), .int .i64 a1, .int .i64 a2] w fun e w' => e = .returned (.int .i64 (rSet s a1 a2).1) ∧ IsR lo w' h (rSet s a1 a2).2 ∧ Below lo w w' ∧ KeepR lo w w' := by
  have hI' := Aside0.mk hI
  have HL := Aside0.mk hlen
  have hdrop : ∀ W : World, IsR lo W h s → Calls Try.prog 12 #[.pointer (some ⟨h, 0, none⟩), .int .i64 a1] W fun e w' => e = .returned (.bool (decide (rRow s.A a1 ≥ 0))) ∧ IsR lo w' h { s with A := rDrop s.A a1 } ∧ Below lo W w' ∧ KeepR lo W w' := fun W hW => r_Drop_calls a1 hW hlen
  have HDROP := Aside0.mk hdrop
  clear hdrop
  obtain ⟨hl, v, hv, hr⟩ := hI
  obtain ⟨A0, c0, rfl, hlc, hC⟩ := row_len hr
  have HC := Aside0.mk hC
  have HV := Aside0.mk hv
  have HLo := Aside0.mk hl
  have HR := Aside0.mk hr
  have c0_ : w.cell? ⟨h, 0, none⟩ = some (.slice A0 s.A.length c0) := (blk_cell hv 0).trans rfl
  have c1_ : w.cell? ⟨h, 1, none⟩ = some (.int .i64 s.n1) := (blk_cell hv 1).trans rfl
  clear hl hv hr hlc hC hlen
  have BADF : rBad s a1 a2 → Aside0 (Ending.returned (Value.int .i64 2) = .returned (.int .i64 (rSet s a1 a2).1) ∧ IsR lo w h (rSet s a1 a2).2 ∧ Below lo w w ∧ KeepR lo w w) := by
    intro hb
    refine ⟨?_⟩
    rw [show rSet s a1 a2 = (2, s) from if_pos hb]
    exact ⟨rfl, hI'.out, Below.refl _ _, KeepR.of_below (Below.refl _ _)⟩
  by_cases h1 : a1 < 0
  · replace BADF := BADF (.inl h1)
    have b1 : decide (a1 < 0) = true := decide_eq_true h1
    clear h1
    go_enter Try.func10, Try.ntmps10
    go_wp2
    go_ret
    exact BADF.out
  have b1 : decide (a1 < 0) = false := decide_eq_false h1
  by_cases h2 : s.n1 ≤ a1
  · replace BADF := BADF (.inr (.inl h2))
    have b2 : decide (s.n1 ≤ a1) = true := decide_eq_true h2
    clear h1 h2
    go_enter Try.func10, Try.ntmps10
    go_wp2
    go_ret
    exact BADF.out
  have b2 : decide (s.n1 ≤ a1) = false := decide_eq_false h2
  by_cases h3 : a2 < 0
  · replace BADF := BADF (.inr (.inr (.inl h3)))
    have b3 : decide (a2 < 0) = true := decide_eq_true h3
    clear h1 h2 h3
    go_enter Try.func10, Try.ntmps10
    go_wp2
    go_ret
    exact BADF.out
  have b3 : decide (a2 < 0) = false := decide_eq_false h3
  by_cases h4 : (s.A.length : Int) ≤ a2
  · replace BADF := BADF (.inr (.inr (.inr (.inl h4))))
    have b4 : decide ((s.A.length : Int) ≤ a2) = true := decide_eq_true h4
    clear h1 h2 h3 h4
    go_enter Try.func10, Try.ntmps10
    go_wp2
    go_ret
    exact BADF.out
  have b4 : decide ((s.A.length : Int) ≤ a2) = false := decide_eq_false h4
  have i0 : 0 ≤ a2 := by omega
  have i1 : a2 < (s.A.length : Int) := by omega
  obtain ⟨ad, e1, hx⟩ := Kd.at_int HC.out a2 i0 i1
  cases e1
  have p1 := eq_true i0
  have p2 := eq_true i1
  have hgood : (rd s.A a2 > 0 → wrap64 (rd s.A a2 - 1) = a1) → Aside0 (¬ rBad s a1 a2) := by
    intro hz
    refine ⟨?_⟩
    unfold rBad
    rintro (x | x | x | x | ⟨x, y⟩)
    · exact h1 x
    · exact h2 x
    · exact h3 x
    · exact h4 x
    · exact y (hz x)
  by_cases h5 : rd s.A a2 > 0
  · have b5 : decide (0 < rd s.A a2) = true := decide_eq_true h5
    by_cases h6 : wrap64 (rd s.A a2 - 1) = a1
    · have b6 : (wrap64 (rd s.A a2 - 1) != a1) = false := bne_eq_false_iff_eq.mpr h6
      have HG := hgood (fun _ => h6)
      have HI01 := Aside0.mk (And.intro i0 i1)
      clear BADF h1 h2 h3 h4 h5 h6 hgood i0 i1
      go_enter Try.func10, Try.ntmps10
      go_wp2_with (first | (go_at_call 12; (with_reducible refine (HDROP.out _ hI'.out).mono ?_); rintro e w4 ⟨rfl, hi, hb, hk⟩; obtain ⟨hl4, v4, hv4, hr4⟩ := hi; obtain ⟨A4, c4, rfl, hlc4, hC4⟩ := row_len hr4; obtain ⟨ad4, e4, _⟩ := Kd.at_int hC4 a2 HI01.out.1 (by have := HI01.out.2; simpa [rDrop_len] using this); cases e4; obtain ⟨ra, rfl⟩ := Kd.R_head hr4; obtain ⟨hx4, hfz4⟩ := Kd.R_celln 0 hr4 a2 HI01.out.1 (by have := HI01.out.2; simpa [rDrop_len] using this); simp only [rDrop_len] at hv4 hr4; have d0_ : w4.cell? ⟨h, 0, none⟩ = some (.slice (some ⟨ra, 0, none⟩) s.A.length c4) := (blk_cell hv4 0).trans rfl; have HV4 := Aside0.mk hv4; have HR4 := Aside0.mk hr4; have HB4 := Aside0.mk hb; have HK4 := Aside0.mk hk; clear hv4 hr4 hb hk hl4 hlc4 hC4))
      go_ret
      rw [show rSet s a1 a2 = (0, { s with A := (rDrop s.A a1).set a2.toNat (wrap64 (a1 + 1)) }) from if_neg HG.out]
      obtain ⟨k1, k2, k3⟩ := IsR.put (s := { s with A := rDrop s.A a1 }) HB4.out HLo.out (by rw [rDrop_len]; exact HV4.out) (by rw [rDrop_len]; exact HR4.out) a2 (wrap64 (a1 + 1))
      exact ⟨by first | rfl | (simp; done), k1, k2, HK4.out.trans k3⟩
    · have b6 : (wrap64 (rd s.A a2 - 1) != a1) = true := bne_iff_ne.mpr h6
      replace BADF := BADF (.inr (.inr (.inr (.inr ⟨h5, h6⟩))))
      clear h1 h2 h3 h4 h5 h6 hgood i0 i1
      go_enter Try.func10, Try.ntmps10
      go_wp2
      go_ret
      exact BADF.out
  · have b5 : decide (0 < rd s.A a2) = false := decide_eq_false h5
    have HG := hgood (fun h => absurd h h5)
    have HI01 := Aside0.mk (And.intro i0 i1)
    clear BADF h1 h2 h3 h4 h5  hgood i0 i1
    go_enter Try.func10, Try.ntmps10
    go_wp2_with (first | (go_at_call 12; (with_reducible refine (HDROP.out _ hI'.out).mono ?_); rintro e w4 ⟨rfl, hi, hb, hk⟩; obtain ⟨hl4, v4, hv4, hr4⟩ := hi; obtain ⟨A4, c4, rfl, hlc4, hC4⟩ := row_len hr4; obtain ⟨ad4, e4, _⟩ := Kd.at_int hC4 a2 HI01.out.1 (by have := HI01.out.2; simpa [rDrop_len] using this); cases e4; obtain ⟨ra, rfl⟩ := Kd.R_head hr4; obtain ⟨hx4, hfz4⟩ := Kd.R_celln 0 hr4 a2 HI01.out.1 (by have := HI01.out.2; simpa [rDrop_len] using this); simp only [rDrop_len] at hv4 hr4; have d0_ : w4.cell? ⟨h, 0, none⟩ = some (.slice (some ⟨ra, 0, none⟩) s.A.length c4) := (blk_cell hv4 0).trans rfl; have HV4 := Aside0.mk hv4; have HR4 := Aside0.mk hr4; have HB4 := Aside0.mk hb; have HK4 := Aside0.mk hk; clear hv4 hr4 hb hk hl4 hlc4 hC4))
    go_ret
    rw [show rSet s a1 a2 = (0, { s with A := (rDrop s.A a1).set a2.toNat (wrap64 (a1 + 1)) }) from if_neg HG.out]
    obtain ⟨k1, k2, k3⟩ := IsR.put (s := { s with A := rDrop s.A a1 }) HB4.out HLo.out (by rw [rDrop_len]; exact HV4.out) (by rw [rDrop_len]; exact HR4.out) a2 (wrap64 (a1 + 1))
    exact ⟨by first | rfl | (simp; done), k1, k2, HK4.out.trans k3⟩
theorem RowI.ne_block {lo : Nat} {w : World} {v : Value} {xs : List Int} (hr : RowI w lo v xs) {h : Nat} {cs : Array Value} {t : TypeId} {fr : Nat × Nat} (hv : w.heap[h]? = some (.cells cs t fr)) (ht : t ≠ 3) : some h ≠ v.ownBlock := by
  intro e
  obtain ⟨_, h1, h2, q, hq, cells, hc⟩ := (Kd.R_bound hr).1 h e.symm
  obtain rfl : q = 3 := by
    have : q ∈ [3] := hq
    simpa using this
  rw [hv] at hc
  injection hc with hc
  injection hc with _ e2
  exact ht e2
/-- New -/
def rNewOk (a0 a1 a2 : Int) : Prop := 0 ≤ a1 * a2 ∧ a1 * a2 < 1000000
def rNew (a0 a1 a2 : Int) : Rs := ⟨List.replicate (a1 * a2).toNat 0, a0, a2⟩
theorem IsR.store {N : Nat} {w1 : World} {h : Nat} {v v1 : Value} {n1 n2 : Int} (hv : w1.heap[h]? = some (.cells #[v, .int .i64 n1, .int .i64 n2] 51 (0, 0))) {xs : List Int} (hr : RowI w1 N v1 xs) :
    (w1.setCell ⟨h, 0, none⟩ v1).heap[h]? = some (.cells #[v1, .int .i64 n1, .int .i64 n2] 51 (0, 0)) ∧ RowI (w1.setCell ⟨h, 0, none⟩ v1) N v1 xs :=
  ⟨blk_put hv 0 v1 rfl, Kd.R_set hr hv (fun q hq => by
    have : q ∈ [3] := hq
    simp at this
    subst this
    decide) 0 v1⟩
set_option maxHeartbeats 8000000 in
set_option maxRecDepth 100000 in
theorem r_New_calls {w : World} (a0 a1 a2 : Int) (hok : rNewOk a0 a1 a2) :
    Calls Try.prog 8 #[.int .i64 a0, .int .i64 a1, .int .i64 a2] w fun e w' => ∃ h : Nat, e = .returned (.pointer (some ⟨h, 0, none⟩)) ∧ IsR w.heap.size w' h (rNew a0 a1 a2) ∧ Below w.heap.size w w' := by
  obtain ⟨k0, k1⟩ := hok
  obtain ⟨m, hm⟩ : ∃ m : Nat, (m : Int) = a1 * a2 := ⟨(a1 * a2).toNat, by omega⟩
  have hw : wrap64 (a1 * a2) = (m : Int) := by rw [hm]; exact w64s (by omega) (by omega)
  have hnew : rNew a0 a1 a2 = ⟨List.replicate m 0, a0, a2⟩ := by unfold rNew; rw [← hm]; rfl
  rw [hnew]
  have HL := Aside0.mk (show m < 1000000 by omega)
  clear k0 k1 hm hnew
  go_enter Try.func8, Try.ntmps8
  go_wp2
  go_loopg [8] (m + 1) (fun kq v8 w' => ∃ (x : Int) (n d : Nat) (v : Value), v8 = .int .i64 x ∧ Aside0 (x = n ∧ n + d = m) ∧ Aside0 (kq = d + 1) ∧ Aside0 (w'.heap[w.heap.size]? = some (.cells #[v, .int .i64 a0, .int .i64 a2] 51 (0, 0))) ∧ Aside0 (RowI w' w.heap.size v (List.replicate n 0)) ∧ Aside0 (Below w.heap.size w w'))
  case atStart => exact ⟨0, 0, m, .slice none 0 0, rfl, ⟨rfl, Nat.zero_add _⟩, ⟨rfl⟩, ⟨heap_alloc_new w _⟩, ⟨Kd.R_nil _ _ _ _ _⟩, ⟨below_alloc (Below.refl _ _) _⟩⟩
  case round =>
    obtain ⟨x, n, d, v, rfl, Hn, HK, HVR, HO, HB⟩ := hrel
    cases d with
    | zero =>
      have hb : decide (x < wrap64 (a1 * a2)) = false := decide_eq_false (by rw [hw]; have := Hn.out; omega)
      have hnm : n = m := by have := Hn.out; omega
      have HNM := Aside0.mk hnm
      have HWM := Aside0.mk hw
      clear hw hnm
      go_wp2
      go_ret
      exact ⟨_, by first | rfl | (simp; done), ⟨Nat.le_refl _, v, HVR.out, by rw [← HNM.out]; exact HO.out⟩, HB.out⟩
    | succ d =>
      have hb : decide (x < wrap64 (a1 * a2)) = true := decide_eq_true (by rw [hw]; have := Hn.out; omega)
      obtain ⟨A0, cc0, hvs⟩ := Kd.R_slice HO.out
      rw [List.length_replicate] at hvs
      subst hvs
      have HNE := Aside0.mk (RowI.ne_block HO.out HVR.out (by decide))
      have c0_ : wr.cell? ⟨w.heap.size, 0, none⟩ = some (.slice A0 n cc0) := (blk_cell HVR.out 0).trans rfl
      have hx1 : wrap64 (x + 1) = x + 1 := w64s (by have := Hn.out; omega) (by have := HL.out; have := Hn.out; omega)
      have HX := Aside0.mk hx1
      have HWM := Aside0.mk hw
      clear hw hx1
      go_wp2_with (first | ((with_reducible refine gate_builtin (b := .append) (xs := #[.tmp 24, .tmp 25]) rfl ?_); at_builtin; refine Kd.R_append (Kd.int .i64) w.heap.size rfl (.tmp 24) (.tmp 25) 40 3 (.int .i64 0) 8 rfl Try.underlying40 inf3 rfl (by decide) (by omega) (.slice A0 n cc0) (List.replicate n 0) 0 [.int .i64 0] (fun _ => True) (fun _ => False) rfl rfl ?aP (fun _ hk => hk.elim) ?aF ?aO (w0 := w) ?aB ?aS ?aL ?_; (case aP => exact rfl); (case aF => exact (fun _ _ => trivial)); (case aB => repeat (first | (with_reducible first | exact HB.out | apply below_alloc | apply pw_below_drewN | apply below_drew1) | exact HB.out)); (case aO => exact (by (with_reducible repeat (first | apply Kd.R_alloc | apply Kd.R_drewN | apply Kd.R_drew)); exact HO.out)); (case aS => exact below_size (by repeat (first | (with_reducible first | exact HB.out | apply below_alloc | apply pw_below_drewN | apply below_drew1) | exact HB.out))); (case aL => rw [List.length_replicate]; have := HL.out; have := Hn.out; omega); intro v1 w1 ho hb hg hat; have hv1 := blk_grown HVR.out hg HNE.out; obtain ⟨A1, cc1, hvs1⟩ := Kd.R_slice ho; have hll : (List.replicate n (0 : Int) ++ [0]).length = n + 1 := (by rw [List.length_append, List.length_replicate]; rfl); rw [hll] at hvs1; clear hll; subst hvs1; clear HO HB; have HO := Aside0.mk ho; have HB := Aside0.mk hb; clear ho hb hg hat; have f0_ := blk_frozen hv1 0; have g0_ : w1.cell? ⟨w.heap.size, 0, none⟩ = some (.slice A0 n cc0) := (blk_cell hv1 0).trans rfl; have HV1 := Aside0.mk hv1; clear hv1))
      go_roundg (d + 1)
      case measure => have := HK.out; omega
      case rel =>
        obtain ⟨q1, q2⟩ := IsR.store HV1.out HO.out
        exact ⟨x + 1, n + 1, d, _, by rw [HX.out], ⟨by have := Hn.out; omega, by have := Hn.out; omega⟩, ⟨rfl⟩, ⟨q1⟩, ⟨by rw [List.replicate_succ']; exact q2⟩, ⟨HB.out.setCell (Nat.le_refl _) _⟩⟩
end Go.Proofs.Ytjcmpfiklmpoaaa.M
