/-
  block's functions that read the ledger, and New: what they answer.
-/
import Derived.Test.YtpjmmmgjiaallaaLs
namespace Go.Proofs.Ytpjmmmgjiaallaa.M
open Go.RowKit Go.Proofs.YtpjmmmgjiaallaaW.PrintWords Go.Proofs.YtpjmmmgjiaallaaW.PrintLast Go.Proofs.YtpjmmmgjiaallaaW.PrintMore
attribute [local go_sem] max2_int min2_int max_two min_two
set_option linter.unusedVariables false
set_option linter.unusedSimpArgs false
theorem w64s {x : Int} (h : -9223372036854775808 ≤ x) (h' : x ≤ 9223372036854775807) : wrap64 x = x := by unfold wrap64; omega
/-- A local copy of an entry is laid. -/
theorem box_put {lo : Nat} {w wb ws : World} {g ge gb : Nat} {s : Lg} {u v : Value} (hA : LAt lo wb g ge s) (hB : Below w.heap.size w wb) (h1 : g < gb) (h2 : w.heap.size ≤ gb) (hX : wb.heap[gb]? = some (.cells #[.int .i64 0, .int .i64 0] 55 (0, 0))) (hw : ws = (wb.setCell ⟨gb, 0, none⟩ u).setCell ⟨gb, 1, none⟩ v) :
    LAt lo ws g ge s ∧ Below w.heap.size w ws ∧ ws.heap[gb]? = some (.cells #[u, v] 55 (0, 0)) := by
  subst hw
  refine ⟨hA.kept fun i hi hl => ?_, below_set (below_set hB h2) h2, blk_put (blk_put hX 0 u rfl) 1 v rfl⟩
  rw [Below.heap_setCell _ ⟨gb, 1, none⟩ v i (show i ≠ gb by omega), Below.heap_setCell _ ⟨gb, 0, none⟩ u i (show i ≠ gb by omega)]
set_option maxHeartbeats 8000000 in
theorem State_in {lo : Nat} {w : World} {g : Nat} {s : Lg} (hI : IsL lo w g s) (i : Int) (h0 : 0 ≤ i) (h1 : i < (s.E.length : Int)) :
    Calls Try.prog 12 #[.pointer (some ⟨g, 0, none⟩), .int .i64 i] w fun e w' => e = .returned (.tuple #[.int .i64 (eS s.E i), .int .i64 (eE s.E i), .bool true]) ∧ Drawn0 w w' := by
  obtain ⟨ge, h⟩ := hI
  have HA := Aside0.mk h
  have cS_ := h.cS i h0 h1
  have cE_ := h.cE i h0 h1
  have hat := at_in h i h0 h1
  have HT := Aside0.mk hat
  clear hat h h0 h1
  go_enter Try.func12, Try.ntmps12
  go_wp2_with (first | (go_at_call 27; (with_reducible refine HT.out.mono ?_); rintro e w' ⟨rfl, ⟨nd, rfl⟩⟩))
  repeat (go_quiet (fail); try go_wp2)
  go_ret3
  exact ⟨by first | rfl | (simp; done) | (simp [*]; done), by repeat (first | exact Drawn0.refl _ | apply Drawn0.step | exact ⟨_, rfl⟩)⟩
set_option maxHeartbeats 8000000 in
theorem State_out {lo : Nat} {w : World} {g : Nat} {s : Lg} (hI : IsL lo w g s) (i : Int) (ho : i < 0 ∨ (s.E.length : Int) ≤ i) :
    Calls Try.prog 12 #[.pointer (some ⟨g, 0, none⟩), .int .i64 i] w fun e w' => e = .returned (.tuple #[.int .i64 0, .int .i64 0, .bool false]) ∧ Drawn0 w w' := by
  have hat := at_out hI i ho
  have HT := Aside0.mk hat
  clear hat hI ho
  go_enter Try.func12, Try.ntmps12
  go_wp2_with (first | (go_at_call 27; (with_reducible refine HT.out.mono ?_); rintro e w' ⟨rfl, ⟨nd, rfl⟩⟩))
  go_ret3
  exact ⟨by first | rfl | (simp; done) | (simp [*]; done), by repeat (first | exact Drawn0.refl _ | apply Drawn0.step | exact ⟨_, rfl⟩)⟩
set_option maxHeartbeats 8000000 in
theorem Open_calls {lo : Nat} {w : World} {g : Nat} {s : Lg} (hI : IsL lo w g s) :
    Calls Try.prog 9 #[.pointer (some ⟨g, 0, none⟩)] w fun e w' => e = .returned (.tuple #[.int .i64 (if s.opn = 0 then 0 else wrap64 (s.opn - 1)), .int .i64 (if s.opn = 0 then 0 else s.cur), .bool (!decide (s.opn = 0))]) ∧ Drawn0 w w' := by
  have HI := Aside0.mk hI
  obtain ⟨ge, h⟩ := hI
  have c2_ := h.c2
  have c3_ := h.c3
  clear h
  by_cases c : s.opn = 0
  · have b : (s.opn == 0) = true := beq_iff_eq.mpr c
    rw [if_pos c, if_pos c, decide_eq_true c]
    clear c
    go_enter Try.func9, Try.ntmps9
    go_wp2_with (first | (go_at_call 26; (with_reducible refine (is_calls HI.out).mono ?_); rintro e w' ⟨rfl, ⟨nd, rfl⟩⟩))
    go_ret3
    exact ⟨by first | rfl | (simp; done) | (simp [*]; done), by repeat (first | exact Drawn0.refl _ | apply Drawn0.step | exact ⟨_, rfl⟩)⟩
  · have b : (s.opn == 0) = false := beq_eq_false_iff_ne.mpr c
    rw [if_neg c, if_neg c, decide_eq_false c]
    clear c
    go_enter Try.func9, Try.ntmps9
    go_wp2_with (first | (go_at_call 26; (with_reducible refine (is_calls HI.out).mono ?_); rintro e w' ⟨rfl, ⟨nd, rfl⟩⟩))
    repeat (go_quiet (fail); try go_wp2)
    go_ret3
    exact ⟨by first | rfl | (simp; done) | (simp [*]; done), by repeat (first | exact Drawn0.refl _ | apply Drawn0.step | exact ⟨_, rfl⟩)⟩
/-- how many of d entries from place x on are in a state -/
def cnt (E : List En) (st : Int) : Nat → Int → Int
  | 0, _ => 0
  | d + 1, x => (if eS E x = st then 1 else 0) + cnt E st d (x + 1)
theorem cnt_rng (E : List En) (st : Int) : ∀ (d : Nat) (x : Int), 0 ≤ cnt E st d x ∧ cnt E st d x ≤ d
  | 0, _ => ⟨Int.le_refl _, Int.le_refl _⟩
  | d + 1, x => by
    have := cnt_rng E st d (x + 1)
    unfold cnt
    split <;> omega
set_option maxHeartbeats 8000000 in
set_option maxRecDepth 100000 in
theorem Count_calls {lo : Nat} {w : World} {g : Nat} {s : Lg} (st : Int) (hI : IsL lo w g s) (hlen : s.E.length < 1000000) :
    Calls Try.prog 14 #[.pointer (some ⟨g, 0, none⟩), .int .i64 st] w fun e w' => e = .returned (.int .i64 (cnt s.E st s.E.length 0)) ∧ Below w.heap.size w w' := by
  have HI := Aside0.mk hI
  obtain ⟨ge, h⟩ := hI
  have HA0 := Aside0.mk h
  have c0_ := h.c0
  have HL := Aside0.mk hlen
  obtain ⟨res, hres⟩ : ∃ res, res = cnt s.E st s.E.length 0 := ⟨_, rfl⟩
  rw [← hres]
  have HR := Aside0.mk hres
  clear h hlen hres
  go_enter Try.func14, Try.ntmps14
  go_wp2_with (first | (go_at_call 26; (with_reducible refine (is_calls HI.out).mono ?_); rintro e w' ⟨rfl, ⟨nd, rfl⟩⟩))
  go_loopg [5, 15] (s.E.length + 1) (fun kq v5 v15 w' => ∃ (n x : Int) (d : Nat), v5 = .int .i64 n ∧ v15 = .int .i64 x ∧ Aside0 (0 ≤ x ∧ x + d = s.E.length) ∧ Aside0 (kq = d + 1) ∧ Aside0 (0 ≤ n ∧ n ≤ x) ∧ Aside0 (n + cnt s.E st d x = res) ∧ Aside0 (LAt lo w' g ge s) ∧ Aside0 (Below w.heap.size w w'))
  case atStart => exact ⟨0, 0, s.E.length, rfl, rfl, ⟨Int.le_refl _, Int.zero_add _⟩, ⟨rfl⟩, ⟨Int.le_refl _, Int.le_refl _⟩, ⟨by rw [HR.out, Int.zero_add]⟩, ⟨HA0.out.below (pw_below_drewN (Below.refl _ _) _)⟩, ⟨pw_below_drewN (Below.refl _ _) _⟩⟩
  case round =>
    clear c0_
    obtain ⟨n, x, d, rfl, rfl, Hn, HK, HN, HF, HA, HB⟩ := hrel
    cases d with
    | zero =>
      have hb : decide (x < (s.E.length : Int)) = false := decide_eq_false (by have := Hn.out; omega)
      have hnr : n = res := by have := HF.out; simpa [cnt] using this
      subst hnr
      clear HR
      go_wp2
      go_ret
      exact ⟨by first | rfl | (simp; done), HB.out⟩
    | succ d =>
      have hb : decide (x < (s.E.length : Int)) = true := decide_eq_true (by have := Hn.out; omega)
      have cS_ := HA.out.cS x Hn.out.1 (by have := Hn.out; omega)
      have cE_ := HA.out.cE x Hn.out.1 (by have := Hn.out; omega)
      have p1 := eq_true Hn.out.1
      have p2 := eq_true (show x < (s.E.length : Int) by have := Hn.out; omega)
      have hw : wrap64 (x + 1) = x + 1 := w64s (by have := Hn.out; omega) (by have := Hn.out; have := HL.out; omega)
      have hw2 : wrap64 (n + 1) = n + 1 := w64s (by have := HN.out; omega) (by have := HN.out; have := Hn.out; have := HL.out; omega)
      have HW := Aside0.mk (And.intro hw hw2)
      have hf := HF.out
      simp only [cnt] at hf
      have HF2 := Aside0.mk hf
      clear hw hw2 hf HF HR
      by_cases c5 : eS s.E x = st
      · have c5b : (eS s.E x == st) = true := beq_iff_eq.mpr c5
        have HC := Aside0.mk c5
        clear c5
        go_wp2_with (first | ((with_reducible refine gate_dst (N := 7) rfl ?_); refine box_event ?hg (N := 7) ?hd (cs := #[.int .i64 0, .int .i64 0]) (t := 55) ?hr ?_; (case hd => rfl); (case hg => rfl); (case hr => first | (go_simp; done) | (go_simp; rfl)); intro gb hg wb hbox hb; have HA1 := Aside0.mk (HA.out.below hb); have HB1 := Aside0.mk (below_step HB.out hb); have HG := Aside0.mk (show g < gb ∧ w.heap.size ≤ gb from ⟨by rw [hg]; exact blk_lt HA.out.blk, by rw [hg]; exact HB.out.size⟩); have HX := Aside0.mk hbox; have hcx0 : wb.cell? ⟨gb, 0, none⟩ = some (.int .i64 0) := (blk_cell hbox 0).trans rfl; have hcx1 : wb.cell? ⟨gb, 1, none⟩ = some (.int .i64 0) := (blk_cell hbox 1).trans rfl; have hfx0 := blk_frozen hbox 0; have hfx1 := blk_frozen hbox 1; clear hbox hb hg HA HB) | ((with_reducible refine gate_store (t := 55) (p := 7) rfl ?_); refine store_event (t := 55) (p := 7) (v := .tmp 18) (w1 := (wb.setCell ⟨gb, 0, none⟩ (.int .i64 (eS s.E x))).setCell ⟨gb, 1, none⟩ (.int .i64 (eE s.E x))) ?hg ?ho ?hn ?hr ?_; (case ho => rfl); (case hg => rfl); (case hn => rfl); (case hr => first | (go_simp; done) | (go_simp; rfl)); intro ws hw; obtain ⟨hA2, hB2, hX2⟩ := box_put (lo := lo) HA1.out HB1.out HG.out.1 HG.out.2 HX.out hw; have HA2 := Aside0.mk hA2; have HB2 := Aside0.mk hB2; have hys0 : ws.cell? ⟨gb, 0, none⟩ = some (.int .i64 (eS s.E x)) := (blk_cell hX2 0).trans rfl; have hys1 : ws.cell? ⟨gb, 1, none⟩ = some (.int .i64 (eE s.E x)) := (blk_cell hX2 1).trans rfl; have d0 := hA2.c0; have d2 := hA2.c2; clear hA2 hB2 hX2 hw HX HA1 HB1 hcx0 hcx1 hfx0 hfx1))
        go_roundg (d + 1)
        case measure => have := HK.out; omega
        case rel => exact ⟨n + 1, x + 1, d, by rw [HW.out.2], by rw [HW.out.1], ⟨by have := Hn.out; omega, by have := Hn.out; omega⟩, ⟨rfl⟩, ⟨by have := HN.out; omega, by have := HN.out; omega⟩, ⟨by have := HF2.out; rw [if_pos HC.out] at this; omega⟩, HA2, HB2⟩
      · have c5b : (eS s.E x == st) = false := beq_eq_false_iff_ne.mpr c5
        have HC := Aside0.mk c5
        clear c5
        go_wp2_with (first | ((with_reducible refine gate_dst (N := 7) rfl ?_); refine box_event ?hg (N := 7) ?hd (cs := #[.int .i64 0, .int .i64 0]) (t := 55) ?hr ?_; (case hd => rfl); (case hg => rfl); (case hr => first | (go_simp; done) | (go_simp; rfl)); intro gb hg wb hbox hb; have HA1 := Aside0.mk (HA.out.below hb); have HB1 := Aside0.mk (below_step HB.out hb); have HG := Aside0.mk (show g < gb ∧ w.heap.size ≤ gb from ⟨by rw [hg]; exact blk_lt HA.out.blk, by rw [hg]; exact HB.out.size⟩); have HX := Aside0.mk hbox; have hcx0 : wb.cell? ⟨gb, 0, none⟩ = some (.int .i64 0) := (blk_cell hbox 0).trans rfl; have hcx1 : wb.cell? ⟨gb, 1, none⟩ = some (.int .i64 0) := (blk_cell hbox 1).trans rfl; have hfx0 := blk_frozen hbox 0; have hfx1 := blk_frozen hbox 1; clear hbox hb hg HA HB) | ((with_reducible refine gate_store (t := 55) (p := 7) rfl ?_); refine store_event (t := 55) (p := 7) (v := .tmp 18) (w1 := (wb.setCell ⟨gb, 0, none⟩ (.int .i64 (eS s.E x))).setCell ⟨gb, 1, none⟩ (.int .i64 (eE s.E x))) ?hg ?ho ?hn ?hr ?_; (case ho => rfl); (case hg => rfl); (case hn => rfl); (case hr => first | (go_simp; done) | (go_simp; rfl)); intro ws hw; obtain ⟨hA2, hB2, hX2⟩ := box_put (lo := lo) HA1.out HB1.out HG.out.1 HG.out.2 HX.out hw; have HA2 := Aside0.mk hA2; have HB2 := Aside0.mk hB2; have hys0 : ws.cell? ⟨gb, 0, none⟩ = some (.int .i64 (eS s.E x)) := (blk_cell hX2 0).trans rfl; have hys1 : ws.cell? ⟨gb, 1, none⟩ = some (.int .i64 (eE s.E x)) := (blk_cell hX2 1).trans rfl; have d0 := hA2.c0; have d2 := hA2.c2; clear hA2 hB2 hX2 hw HX HA1 HB1 hcx0 hcx1 hfx0 hfx1))
        go_roundg (d + 1)
        case measure => have := HK.out; omega
        case rel => exact ⟨n, x + 1, d, rfl, by rw [HW.out.1], ⟨by have := Hn.out; omega, by have := Hn.out; omega⟩, ⟨rfl⟩, ⟨by have := HN.out; omega, by have := HN.out; omega⟩, ⟨by have := HF2.out; rw [if_neg HC.out] at this; omega⟩, HA2, HB2⟩
/-- the least and the greatest of how often blocks that aren't bad were erased -/
def sprd (E : List En) : Nat → Int → Int → Int → Int × Int
  | 0, _, lo, hi => (lo, hi)
  | d + 1, x, lo, hi => if eS E x = 3 then sprd E d (x + 1) lo hi else (if lo < 0 then sprd E d (x + 1) (eE E x) (if hi < eE E x then eE E x else hi) else (if eE E x < lo then sprd E d (x + 1) (eE E x) (if hi < eE E x then eE E x else hi) else sprd E d (x + 1) lo (if hi < eE E x then eE E x else hi)))
def spreadOf (p : Int × Int) : Int := wrap64 (p.2 - (if p.1 < 0 then 0 else p.1))
def spread (E : List En) : Int := spreadOf (sprd E E.length 0 (-1) 0)
set_option maxHeartbeats 8000000 in
set_option maxRecDepth 100000 in
theorem Spread_calls {lo : Nat} {w : World} {g : Nat} {s : Lg} (hI : IsL lo w g s) (hlen : s.E.length < 1000000) :
    Calls Try.prog 10 #[.pointer (some ⟨g, 0, none⟩)] w fun e w' => e = .returned (.int .i64 (spread s.E)) ∧ Below w.heap.size w w' := by
  have HI := Aside0.mk hI
  obtain ⟨ge, h⟩ := hI
  have HA0 := Aside0.mk h
  have c0_ := h.c0
  have HL := Aside0.mk hlen
  unfold spread
  obtain ⟨res, hres⟩ : ∃ res, res = sprd s.E s.E.length 0 (-1) 0 := ⟨_, rfl⟩
  rw [← hres]
  have HR := Aside0.mk hres
  clear h hlen hres
  go_enter Try.func10, Try.ntmps10
  go_wp2_with (first | (go_at_call 26; (with_reducible refine (is_calls HI.out).mono ?_); rintro e w' ⟨rfl, ⟨nd, rfl⟩⟩))
  go_loopg [3, 4, 14] (s.E.length + 1) (fun kq v3 v4 v14 w' => ∃ (low hi x : Int) (d : Nat), v3 = .int .i64 low ∧ v4 = .int .i64 hi ∧ v14 = .int .i64 x ∧ Aside0 (0 ≤ x ∧ x + d = s.E.length) ∧ Aside0 (kq = d + 1) ∧ Aside0 (sprd s.E d x low hi = res) ∧ Aside0 (LAt lo w' g ge s) ∧ Aside0 (Below w.heap.size w w'))
  case atStart => exact ⟨-1, 0, 0, s.E.length, rfl, rfl, rfl, ⟨Int.le_refl _, Int.zero_add _⟩, ⟨rfl⟩, ⟨by rw [HR.out]⟩, ⟨HA0.out.below (pw_below_drewN (Below.refl _ _) _)⟩, ⟨pw_below_drewN (Below.refl _ _) _⟩⟩
  case round =>
    clear c0_
    obtain ⟨low, hi, x, d, rfl, rfl, rfl, Hn, HK, HF, HA, HB⟩ := hrel
    cases d with
    | zero =>
      have hb : decide (x < (s.E.length : Int)) = false := decide_eq_false (by have := Hn.out; omega)
      have hnr : (low, hi) = res := HF.out
      subst hnr
      clear HR
      by_cases c8 : low < 0
      · have q8 := eq_true c8
        have hs : spreadOf (low, hi) = wrap64 (hi - 0) := by unfold spreadOf; rw [if_pos c8]
        have HS := Aside0.mk hs
        clear hs c8
        go_wp2
        go_ret
        exact ⟨by rw [HS.out]; first | rfl | (simp; done), HB.out⟩
      · have q8 := eq_false c8
        have hs : spreadOf (low, hi) = wrap64 (hi - low) := by unfold spreadOf; rw [if_neg c8]
        have HS := Aside0.mk hs
        clear hs c8
        go_wp2
        go_ret
        exact ⟨by rw [HS.out]; first | rfl | (simp; done), HB.out⟩
    | succ d =>
      have hb : decide (x < (s.E.length : Int)) = true := decide_eq_true (by have := Hn.out; omega)
      have cS_ := HA.out.cS x Hn.out.1 (by have := Hn.out; omega)
      have cE_ := HA.out.cE x Hn.out.1 (by have := Hn.out; omega)
      have p1 := eq_true Hn.out.1
      have p2 := eq_true (show x < (s.E.length : Int) by have := Hn.out; omega)
      have hw : wrap64 (x + 1) = x + 1 := w64s (by have := Hn.out; omega) (by have := Hn.out; have := HL.out; omega)
      have HW := Aside0.mk hw
      have hf := HF.out
      simp only [sprd] at hf
      clear hw HF HR
      by_cases c5 : eS s.E x = 3
      · have c5b : (eS s.E x == 3) = true := beq_iff_eq.mpr c5
        rw [if_pos c5] at hf
        have HF2 := Aside0.mk hf
        clear c5 hf
        go_wp2_with (first | ((with_reducible refine gate_dst (N := 6) rfl ?_); refine box_event ?hg (N := 6) ?hd (cs := #[.int .i64 0, .int .i64 0]) (t := 55) ?hr ?_; (case hd => rfl); (case hg => rfl); (case hr => first | (go_simp; done) | (go_simp; rfl)); intro gb hg wb hbox hb; have HA1 := Aside0.mk (HA.out.below hb); have HB1 := Aside0.mk (below_step HB.out hb); have HG := Aside0.mk (show g < gb ∧ w.heap.size ≤ gb from ⟨by rw [hg]; exact blk_lt HA.out.blk, by rw [hg]; exact HB.out.size⟩); have HX := Aside0.mk hbox; have hcx0 : wb.cell? ⟨gb, 0, none⟩ = some (.int .i64 0) := (blk_cell hbox 0).trans rfl; have hcx1 : wb.cell? ⟨gb, 1, none⟩ = some (.int .i64 0) := (blk_cell hbox 1).trans rfl; have hfx0 := blk_frozen hbox 0; have hfx1 := blk_frozen hbox 1; clear hbox hb hg HA HB) | ((with_reducible refine gate_store (t := 55) (p := 6) rfl ?_); refine store_event (t := 55) (p := 6) (v := .tmp 17) (w1 := (wb.setCell ⟨gb, 0, none⟩ (.int .i64 (eS s.E x))).setCell ⟨gb, 1, none⟩ (.int .i64 (eE s.E x))) ?hg ?ho ?hn ?hr ?_; (case ho => rfl); (case hg => rfl); (case hn => rfl); (case hr => first | (go_simp; done) | (go_simp; rfl)); intro ws hw; obtain ⟨hA2, hB2, hX2⟩ := box_put (lo := lo) HA1.out HB1.out HG.out.1 HG.out.2 HX.out hw; have HA2 := Aside0.mk hA2; have HB2 := Aside0.mk hB2; have hys0 : ws.cell? ⟨gb, 0, none⟩ = some (.int .i64 (eS s.E x)) := (blk_cell hX2 0).trans rfl; have hys1 : ws.cell? ⟨gb, 1, none⟩ = some (.int .i64 (eE s.E x)) := (blk_cell hX2 1).trans rfl; have d0 := hA2.c0; have d2 := hA2.c2; clear hA2 hB2 hX2 hw HX HA1 HB1 hcx0 hcx1 hfx0 hfx1))
        go_roundg (d + 1)
        case measure => have := HK.out; omega
        case rel => exact ⟨low, hi, x + 1, d, rfl, rfl, by rw [HW.out], ⟨by have := Hn.out; omega, by have := Hn.out; omega⟩, ⟨rfl⟩, HF2, HA2, HB2⟩
      · have c5b : (eS s.E x == 3) = false := beq_eq_false_iff_ne.mpr c5
        rw [if_neg c5] at hf
        clear c5
        by_cases c6 : low < 0
        · have c6b : decide (low < 0) = true := decide_eq_true c6
          rw [if_pos c6] at hf
          clear c6
          by_cases c8 : hi < eE s.E x
          · have q8 := eq_true c8
            simp only [if_pos c8] at hf
            clear c8
            have HF2 := Aside0.mk hf
            clear hf
            go_wp2_with (first | ((with_reducible refine gate_dst (N := 6) rfl ?_); refine box_event ?hg (N := 6) ?hd (cs := #[.int .i64 0, .int .i64 0]) (t := 55) ?hr ?_; (case hd => rfl); (case hg => rfl); (case hr => first | (go_simp; done) | (go_simp; rfl)); intro gb hg wb hbox hb; have HA1 := Aside0.mk (HA.out.below hb); have HB1 := Aside0.mk (below_step HB.out hb); have HG := Aside0.mk (show g < gb ∧ w.heap.size ≤ gb from ⟨by rw [hg]; exact blk_lt HA.out.blk, by rw [hg]; exact HB.out.size⟩); have HX := Aside0.mk hbox; have hcx0 : wb.cell? ⟨gb, 0, none⟩ = some (.int .i64 0) := (blk_cell hbox 0).trans rfl; have hcx1 : wb.cell? ⟨gb, 1, none⟩ = some (.int .i64 0) := (blk_cell hbox 1).trans rfl; have hfx0 := blk_frozen hbox 0; have hfx1 := blk_frozen hbox 1; clear hbox hb hg HA HB) | ((with_reducible refine gate_store (t := 55) (p := 6) rfl ?_); refine store_event (t := 55) (p := 6) (v := .tmp 17) (w1 := (wb.setCell ⟨gb, 0, none⟩ (.int .i64 (eS s.E x))).setCell ⟨gb, 1, none⟩ (.int .i64 (eE s.E x))) ?hg ?ho ?hn ?hr ?_; (case ho => rfl); (case hg => rfl); (case hn => rfl); (case hr => first | (go_simp; done) | (go_simp; rfl)); intro ws hw; obtain ⟨hA2, hB2, hX2⟩ := box_put (lo := lo) HA1.out HB1.out HG.out.1 HG.out.2 HX.out hw; have HA2 := Aside0.mk hA2; have HB2 := Aside0.mk hB2; have hys0 : ws.cell? ⟨gb, 0, none⟩ = some (.int .i64 (eS s.E x)) := (blk_cell hX2 0).trans rfl; have hys1 : ws.cell? ⟨gb, 1, none⟩ = some (.int .i64 (eE s.E x)) := (blk_cell hX2 1).trans rfl; have d0 := hA2.c0; have d2 := hA2.c2; clear hA2 hB2 hX2 hw HX HA1 HB1 hcx0 hcx1 hfx0 hfx1))
            go_roundg (d + 1)
            case measure => have := HK.out; omega
            case rel => exact ⟨_, _, x + 1, d, rfl, rfl, by rw [HW.out], ⟨by have := Hn.out; omega, by have := Hn.out; omega⟩, ⟨rfl⟩, HF2, HA2, HB2⟩
          · have q8 := eq_false c8
            simp only [if_neg c8] at hf
            clear c8
            have HF2 := Aside0.mk hf
            clear hf
            go_wp2_with (first | ((with_reducible refine gate_dst (N := 6) rfl ?_); refine box_event ?hg (N := 6) ?hd (cs := #[.int .i64 0, .int .i64 0]) (t := 55) ?hr ?_; (case hd => rfl); (case hg => rfl); (case hr => first | (go_simp; done) | (go_simp; rfl)); intro gb hg wb hbox hb; have HA1 := Aside0.mk (HA.out.below hb); have HB1 := Aside0.mk (below_step HB.out hb); have HG := Aside0.mk (show g < gb ∧ w.heap.size ≤ gb from ⟨by rw [hg]; exact blk_lt HA.out.blk, by rw [hg]; exact HB.out.size⟩); have HX := Aside0.mk hbox; have hcx0 : wb.cell? ⟨gb, 0, none⟩ = some (.int .i64 0) := (blk_cell hbox 0).trans rfl; have hcx1 : wb.cell? ⟨gb, 1, none⟩ = some (.int .i64 0) := (blk_cell hbox 1).trans rfl; have hfx0 := blk_frozen hbox 0; have hfx1 := blk_frozen hbox 1; clear hbox hb hg HA HB) | ((with_reducible refine gate_store (t := 55) (p := 6) rfl ?_); refine store_event (t := 55) (p := 6) (v := .tmp 17) (w1 := (wb.setCell ⟨gb, 0, none⟩ (.int .i64 (eS s.E x))).setCell ⟨gb, 1, none⟩ (.int .i64 (eE s.E x))) ?hg ?ho ?hn ?hr ?_; (case ho => rfl); (case hg => rfl); (case hn => rfl); (case hr => first | (go_simp; done) | (go_simp; rfl)); intro ws hw; obtain ⟨hA2, hB2, hX2⟩ := box_put (lo := lo) HA1.out HB1.out HG.out.1 HG.out.2 HX.out hw; have HA2 := Aside0.mk hA2; have HB2 := Aside0.mk hB2; have hys0 : ws.cell? ⟨gb, 0, none⟩ = some (.int .i64 (eS s.E x)) := (blk_cell hX2 0).trans rfl; have hys1 : ws.cell? ⟨gb, 1, none⟩ = some (.int .i64 (eE s.E x)) := (blk_cell hX2 1).trans rfl; have d0 := hA2.c0; have d2 := hA2.c2; clear hA2 hB2 hX2 hw HX HA1 HB1 hcx0 hcx1 hfx0 hfx1))
            go_roundg (d + 1)
            case measure => have := HK.out; omega
            case rel => exact ⟨_, _, x + 1, d, rfl, rfl, by rw [HW.out], ⟨by have := Hn.out; omega, by have := Hn.out; omega⟩, ⟨rfl⟩, HF2, HA2, HB2⟩
        · have c6b : decide (low < 0) = false := decide_eq_false c6
          rw [if_neg c6] at hf
          clear c6
          by_cases c7 : eE s.E x < low
          · have c7b : decide (eE s.E x < low) = true := decide_eq_true c7
            rw [if_pos c7] at hf
            clear c7
            by_cases c8 : hi < eE s.E x
            · have q8 := eq_true c8
              simp only [if_pos c8] at hf
              clear c8
              have HF2 := Aside0.mk hf
              clear hf
              go_wp2_with (first | ((with_reducible refine gate_dst (N := 6) rfl ?_); refine box_event ?hg (N := 6) ?hd (cs := #[.int .i64 0, .int .i64 0]) (t := 55) ?hr ?_; (case hd => rfl); (case hg => rfl); (case hr => first | (go_simp; done) | (go_simp; rfl)); intro gb hg wb hbox hb; have HA1 := Aside0.mk (HA.out.below hb); have HB1 := Aside0.mk (below_step HB.out hb); have HG := Aside0.mk (show g < gb ∧ w.heap.size ≤ gb from ⟨by rw [hg]; exact blk_lt HA.out.blk, by rw [hg]; exact HB.out.size⟩); have HX := Aside0.mk hbox; have hcx0 : wb.cell? ⟨gb, 0, none⟩ = some (.int .i64 0) := (blk_cell hbox 0).trans rfl; have hcx1 : wb.cell? ⟨gb, 1, none⟩ = some (.int .i64 0) := (blk_cell hbox 1).trans rfl; have hfx0 := blk_frozen hbox 0; have hfx1 := blk_frozen hbox 1; clear hbox hb hg HA HB) | ((with_reducible refine gate_store (t := 55) (p := 6) rfl ?_); refine store_event (t := 55) (p := 6) (v := .tmp 17) (w1 := (wb.setCell ⟨gb, 0, none⟩ (.int .i64 (eS s.E x))).setCell ⟨gb, 1, none⟩ (.int .i64 (eE s.E x))) ?hg ?ho ?hn ?hr ?_; (case ho => rfl); (case hg => rfl); (case hn => rfl); (case hr => first | (go_simp; done) | (go_simp; rfl)); intro ws hw; obtain ⟨hA2, hB2, hX2⟩ := box_put (lo := lo) HA1.out HB1.out HG.out.1 HG.out.2 HX.out hw; have HA2 := Aside0.mk hA2; have HB2 := Aside0.mk hB2; have hys0 : ws.cell? ⟨gb, 0, none⟩ = some (.int .i64 (eS s.E x)) := (blk_cell hX2 0).trans rfl; have hys1 : ws.cell? ⟨gb, 1, none⟩ = some (.int .i64 (eE s.E x)) := (blk_cell hX2 1).trans rfl; have d0 := hA2.c0; have d2 := hA2.c2; clear hA2 hB2 hX2 hw HX HA1 HB1 hcx0 hcx1 hfx0 hfx1))
              go_roundg (d + 1)
              case measure => have := HK.out; omega
              case rel => exact ⟨_, _, x + 1, d, rfl, rfl, by rw [HW.out], ⟨by have := Hn.out; omega, by have := Hn.out; omega⟩, ⟨rfl⟩, HF2, HA2, HB2⟩
            · have q8 := eq_false c8
              simp only [if_neg c8] at hf
              clear c8
              have HF2 := Aside0.mk hf
              clear hf
              go_wp2_with (first | ((with_reducible refine gate_dst (N := 6) rfl ?_); refine box_event ?hg (N := 6) ?hd (cs := #[.int .i64 0, .int .i64 0]) (t := 55) ?hr ?_; (case hd => rfl); (case hg => rfl); (case hr => first | (go_simp; done) | (go_simp; rfl)); intro gb hg wb hbox hb; have HA1 := Aside0.mk (HA.out.below hb); have HB1 := Aside0.mk (below_step HB.out hb); have HG := Aside0.mk (show g < gb ∧ w.heap.size ≤ gb from ⟨by rw [hg]; exact blk_lt HA.out.blk, by rw [hg]; exact HB.out.size⟩); have HX := Aside0.mk hbox; have hcx0 : wb.cell? ⟨gb, 0, none⟩ = some (.int .i64 0) := (blk_cell hbox 0).trans rfl; have hcx1 : wb.cell? ⟨gb, 1, none⟩ = some (.int .i64 0) := (blk_cell hbox 1).trans rfl; have hfx0 := blk_frozen hbox 0; have hfx1 := blk_frozen hbox 1; clear hbox hb hg HA HB) | ((with_reducible refine gate_store (t := 55) (p := 6) rfl ?_); refine store_event (t := 55) (p := 6) (v := .tmp 17) (w1 := (wb.setCell ⟨gb, 0, none⟩ (.int .i64 (eS s.E x))).setCell ⟨gb, 1, none⟩ (.int .i64 (eE s.E x))) ?hg ?ho ?hn ?hr ?_; (case ho => rfl); (case hg => rfl); (case hn => rfl); (case hr => first | (go_simp; done) | (go_simp; rfl)); intro ws hw; obtain ⟨hA2, hB2, hX2⟩ := box_put (lo := lo) HA1.out HB1.out HG.out.1 HG.out.2 HX.out hw; have HA2 := Aside0.mk hA2; have HB2 := Aside0.mk hB2; have hys0 : ws.cell? ⟨gb, 0, none⟩ = some (.int .i64 (eS s.E x)) := (blk_cell hX2 0).trans rfl; have hys1 : ws.cell? ⟨gb, 1, none⟩ = some (.int .i64 (eE s.E x)) := (blk_cell hX2 1).trans rfl; have d0 := hA2.c0; have d2 := hA2.c2; clear hA2 hB2 hX2 hw HX HA1 HB1 hcx0 hcx1 hfx0 hfx1))
              go_roundg (d + 1)
              case measure => have := HK.out; omega
              case rel => exact ⟨_, _, x + 1, d, rfl, rfl, by rw [HW.out], ⟨by have := Hn.out; omega, by have := Hn.out; omega⟩, ⟨rfl⟩, HF2, HA2, HB2⟩
          · have c7b : decide (eE s.E x < low) = false := decide_eq_false c7
            rw [if_neg c7] at hf
            clear c7
            by_cases c8 : hi < eE s.E x
            · have q8 := eq_true c8
              simp only [if_pos c8] at hf
              clear c8
              have HF2 := Aside0.mk hf
              clear hf
              go_wp2_with (first | ((with_reducible refine gate_dst (N := 6) rfl ?_); refine box_event ?hg (N := 6) ?hd (cs := #[.int .i64 0, .int .i64 0]) (t := 55) ?hr ?_; (case hd => rfl); (case hg => rfl); (case hr => first | (go_simp; done) | (go_simp; rfl)); intro gb hg wb hbox hb; have HA1 := Aside0.mk (HA.out.below hb); have HB1 := Aside0.mk (below_step HB.out hb); have HG := Aside0.mk (show g < gb ∧ w.heap.size ≤ gb from ⟨by rw [hg]; exact blk_lt HA.out.blk, by rw [hg]; exact HB.out.size⟩); have HX := Aside0.mk hbox; have hcx0 : wb.cell? ⟨gb, 0, none⟩ = some (.int .i64 0) := (blk_cell hbox 0).trans rfl; have hcx1 : wb.cell? ⟨gb, 1, none⟩ = some (.int .i64 0) := (blk_cell hbox 1).trans rfl; have hfx0 := blk_frozen hbox 0; have hfx1 := blk_frozen hbox 1; clear hbox hb hg HA HB) | ((with_reducible refine gate_store (t := 55) (p := 6) rfl ?_); refine store_event (t := 55) (p := 6) (v := .tmp 17) (w1 := (wb.setCell ⟨gb, 0, none⟩ (.int .i64 (eS s.E x))).setCell ⟨gb, 1, none⟩ (.int .i64 (eE s.E x))) ?hg ?ho ?hn ?hr ?_; (case ho => rfl); (case hg => rfl); (case hn => rfl); (case hr => first | (go_simp; done) | (go_simp; rfl)); intro ws hw; obtain ⟨hA2, hB2, hX2⟩ := box_put (lo := lo) HA1.out HB1.out HG.out.1 HG.out.2 HX.out hw; have HA2 := Aside0.mk hA2; have HB2 := Aside0.mk hB2; have hys0 : ws.cell? ⟨gb, 0, none⟩ = some (.int .i64 (eS s.E x)) := (blk_cell hX2 0).trans rfl; have hys1 : ws.cell? ⟨gb, 1, none⟩ = some (.int .i64 (eE s.E x)) := (blk_cell hX2 1).trans rfl; have d0 := hA2.c0; have d2 := hA2.c2; clear hA2 hB2 hX2 hw HX HA1 HB1 hcx0 hcx1 hfx0 hfx1))
              go_roundg (d + 1)
              case measure => have := HK.out; omega
              case rel => exact ⟨_, _, x + 1, d, rfl, rfl, by rw [HW.out], ⟨by have := Hn.out; omega, by have := Hn.out; omega⟩, ⟨rfl⟩, HF2, HA2, HB2⟩
            · have q8 := eq_false c8
              simp only [if_neg c8] at hf
              clear c8
              have HF2 := Aside0.mk hf
              clear hf
              go_wp2_with (first | ((with_reducible refine gate_dst (N := 6) rfl ?_); refine box_event ?hg (N := 6) ?hd (cs := #[.int .i64 0, .int .i64 0]) (t := 55) ?hr ?_; (case hd => rfl); (case hg => rfl); (case hr => first | (go_simp; done) | (go_simp; rfl)); intro gb hg wb hbox hb; have HA1 := Aside0.mk (HA.out.below hb); have HB1 := Aside0.mk (below_step HB.out hb); have HG := Aside0.mk (show g < gb ∧ w.heap.size ≤ gb from ⟨by rw [hg]; exact blk_lt HA.out.blk, by rw [hg]; exact HB.out.size⟩); have HX := Aside0.mk hbox; have hcx0 : wb.cell? ⟨gb, 0, none⟩ = some (.int .i64 0) := (blk_cell hbox 0).trans rfl; have hcx1 : wb.cell? ⟨gb, 1, none⟩ = some (.int .i64 0) := (blk_cell hbox 1).trans rfl; have hfx0 := blk_frozen hbox 0; have hfx1 := blk_frozen hbox 1; clear hbox hb hg HA HB) | ((with_reducible refine gate_store (t := 55) (p := 6) rfl ?_); refine store_event (t := 55) (p := 6) (v := .tmp 17) (w1 := (wb.setCell ⟨gb, 0, none⟩ (.int .i64 (eS s.E x))).setCell ⟨gb, 1, none⟩ (.int .i64 (eE s.E x))) ?hg ?ho ?hn ?hr ?_; (case ho => rfl); (case hg => rfl); (case hn => rfl); (case hr => first | (go_simp; done) | (go_simp; rfl)); intro ws hw; obtain ⟨hA2, hB2, hX2⟩ := box_put (lo := lo) HA1.out HB1.out HG.out.1 HG.out.2 HX.out hw; have HA2 := Aside0.mk hA2; have HB2 := Aside0.mk hB2; have hys0 : ws.cell? ⟨gb, 0, none⟩ = some (.int .i64 (eS s.E x)) := (blk_cell hX2 0).trans rfl; have hys1 : ws.cell? ⟨gb, 1, none⟩ = some (.int .i64 (eE s.E x)) := (blk_cell hX2 1).trans rfl; have d0 := hA2.c0; have d2 := hA2.c2; clear hA2 hB2 hX2 hw HX HA1 HB1 hcx0 hcx1 hfx0 hfx1))
              go_roundg (d + 1)
              case measure => have := HK.out; omega
              case rel => exact ⟨_, _, x + 1, d, rfl, rfl, by rw [HW.out], ⟨by have := Hn.out; omega, by have := Hn.out; omega⟩, ⟨rfl⟩, HF2, HA2, HB2⟩
/-- a ledger that is none -/
theorem Count_nil (st : Int) (w : World) : Calls Try.prog 14 #[.pointer none, .int .i64 st] w fun e w' => e = .returned (.int .i64 0) ∧ Drawn0 w w' := by
  go_enter Try.func14, Try.ntmps14
  go_wp2_with (first | (go_at_call 26; (with_reducible refine (is_nil _).mono ?_); rintro e w' ⟨rfl, ⟨nd, rfl⟩⟩))
  go_ret
  exact ⟨by first | rfl | (simp; done) | (simp [*]; done), by repeat (first | exact Drawn0.refl _ | apply Drawn0.step | exact ⟨_, rfl⟩)⟩
theorem Spread_nil (w : World) : Calls Try.prog 10 #[.pointer none] w fun e w' => e = .returned (.int .i64 0) ∧ Drawn0 w w' := by
  go_enter Try.func10, Try.ntmps10
  go_wp2_with (first | (go_at_call 26; (with_reducible refine (is_nil _).mono ?_); rintro e w' ⟨rfl, ⟨nd, rfl⟩⟩))
  go_ret
  exact ⟨by first | rfl | (simp; done) | (simp [*]; done) | decide, by repeat (first | exact Drawn0.refl _ | apply Drawn0.step | exact ⟨_, rfl⟩)⟩
end Go.Proofs.Ytpjmmmgjiaallaa.M
