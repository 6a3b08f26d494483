/-
  Bytes stay bytes; the two ways to compare two lists of bytes say the same; the layer's Plain and the document's Plain.
-/
import Derived.Test.YtdgdpeibagcnpaaUn
import Derived.Laws.Strings
namespace Go.Proofs.Ytdgdpeibagcnpaa.Er
open Go.RowKit Go.Proofs.Ytdgdpeibagcnpaa.M Go.Proofs.YtdgdpeibagcnpaaW.PrintWords
theorem byte_wf {x : Int} (h : (Lit.int .u8 x).wf = true) : 0 ≤ x ∧ x ≤ 255 := by
  have e1 : IntKind.u8.min = 0 := by decide
  have e2 : IntKind.u8.max = 255 := by decide
  simp only [Lit.wf, Bool.and_eq_true, decide_eq_true_eq] at h
  rw [e1, e2] at h
  exact h
theorem Byt_app {a b : List Int} (ha : Byt a) (hb : Byt b) : Byt (a ++ b) := fun z hz => (List.mem_append.1 hz).elim (ha z) (hb z)
theorem Byt_take {a : List Int} (n : Nat) (ha : Byt a) : Byt (a.take n) := fun z hz => ha z (List.mem_of_mem_take hz)
theorem Byt_drop {a : List Int} (n : Nat) (ha : Byt a) : Byt (a.drop n) := fun z hz => ha z (List.mem_of_mem_drop hz)
theorem Byt_nil : Byt [] := fun z hz => by cases hz
theorem Byt_rd {a : List Int} (ha : Byt a) (h : 0 < a.length) : 0 ≤ rd a 0 ∧ rd a 0 ≤ 255 := by
  have e := rd_nat (l := a) (i := 0) h
  rw [show ((0 : Nat) : Int) = 0 from rfl] at e
  rw [e]
  exact ha _ (List.getElem_mem h)
theorem Byt_rep {x : Int} (n : Nat) (h : 0 ≤ x ∧ x ≤ 255) : Byt (List.replicate n x) := fun z hz => by rw [(List.mem_replicate.1 hz).2]; exact h
theorem unp_ok : ∀ (m : Nat) (l out : List Int), Byt l → Byt out → out.length ≤ 65536 → Byt (unp m l out).1 ∧ (unp m l out).1.length ≤ 65536
  | 0, _, out, _, h, ho => ⟨h, ho⟩
  | _ + 1, [], out, _, h, ho => ⟨h, ho⟩
  | m + 1, x :: r, out, hl, h, ho => by
    have hr : Byt r := fun z hz => hl z (List.mem_cons_of_mem _ hz)
    simp only [unp]
    split
    · split
      · exact ⟨Byt_nil, Nat.zero_le _⟩
      · split
        · exact ⟨Byt_nil, Nat.zero_le _⟩
        · exact unp_ok m _ _ (Byt_drop _ hr) (Byt_app h (Byt_take _ hr)) (by rw [List.length_append, List.length_take]; omega)
    · split
      · exact ⟨Byt_nil, Nat.zero_le _⟩
      · split
        · exact ⟨Byt_nil, Nat.zero_le _⟩
        · exact unp_ok m _ _ (Byt_drop _ hr) (Byt_app h (Byt_rep _ (Byt_rd hr (by omega)))) (by rw [List.length_append, List.length_replicate]; omega)
theorem Byt_packL : ∀ (n : Nat) (l : List Int), l.length ≤ n → Byt l → Byt (packL l)
  | 0, l, h, hb => by
    have : l = [] := List.length_eq_zero_iff.mp (by omega)
    subst this
    exact Byt_nil
  | n + 1, l, h, hb => by
    by_cases e : l = []
    · subst e; exact Byt_nil
    · obtain ⟨p1, p2, p3, p4, p5⟩ := pieceL_le l e
      rw [packL_cons l e]
      refine Byt_app ?_ (Byt_packL n _ (by rw [List.length_drop]; omega) (Byt_drop _ hb))
      have hlt : (l.take (pieceL l).1).length = (pieceL l).1 := by rw [List.length_take]; omega
      unfold encP
      rw [hlt]
      cases hq : (pieceL l).2 with
      | true =>
        have := p5 hq
        rw [if_pos rfl]
        intro z hz
        rcases List.mem_cons.1 hz with hz | hz
        · subst hz; omega
        · rw [List.mem_singleton.1 hz]
          exact Byt_rd (Byt_take _ hb) (by omega)
      | false =>
        have := p4 hq
        rw [if_neg (by simp)]
        intro z hz
        rcases List.mem_cons.1 hz with hz | hz
        · subst hz; omega
        · exact Byt_take _ hb z hz
theorem same_dec0 (p q : List Int) (hp : p.length ≤ 1000000) (hq : p.length = q.length) (r : Nat) : ∀ k i : Nat, i + r = p.length → r < k → ref01_Same.l0 k p q (i : Int) = some (decide (p.drop i = q.drop i)) := by
  induction r with
  | zero =>
    intro k i hi hk
    obtain ⟨k, rfl⟩ : ∃ j, k = j + 1 := ⟨k - 1, by omega⟩
    simp only [ref01_Same.l0]
    rw [if_neg (by omega), List.drop_eq_nil_of_le (show p.length ≤ i by omega), List.drop_eq_nil_of_le (show q.length ≤ i by omega)]
    rfl
  | succ r ih =>
    intro k i hi hk
    obtain ⟨k, rfl⟩ : ∃ j, k = j + 1 := ⟨k - 1, by omega⟩
    have h1 : i < p.length := by omega
    have h2 : i < q.length := by omega
    simp only [ref01_Same.l0]
    rw [if_pos (by omega), if_pos (by omega), if_pos (by omega), rd_nat h1, rd_nat h2, List.drop_eq_getElem_cons h1, List.drop_eq_getElem_cons h2, wrap_succ (by omega), ih k (i + 1) (by omega) (by omega)]
    by_cases c : p[i] = q[i]
    · rw [if_pos c, c]
      congr 1
      exact decide_eq_decide.mpr ⟨fun h => by rw [h], fun h => by injection h⟩
    · rw [if_neg c, decide_eq_false (fun h => c (by injection h))]
theorem same_dec (p q : List Int) (hp : p.length ≤ 1000000) {k : Nat} (hk : p.length < k) : ref01_Same.f k p q = some (decide (p = q)) := by
  unfold ref01_Same.f
  by_cases c : p.length = q.length
  · rw [if_pos (by omega)]
    exact same_dec0 p q hp c p.length k 0 (by omega) hk
  · rw [if_neg (by omega), decide_eq_false (fun h => c (by rw [h]))]
theorem byte_inj {x y : Int} (hx : 0 ≤ x ∧ x ≤ 255) (hy : 0 ≤ y ∧ y ≤ 255) (h : UInt8.ofNat x.toNat = UInt8.ofNat y.toNat) : x = y := by
  have h1 := congrArg UInt8.toNat h
  rw [UInt8.toNat_ofNat', UInt8.toNat_ofNat'] at h1
  omega
theorem map_inj : ∀ (p q : List Int), Byt p → Byt q → p.map (fun n => UInt8.ofNat n.toNat) = q.map (fun n => UInt8.ofNat n.toNat) → p = q
  | [], [], _, _, _ => rfl
  | [], _ :: _, _, _, h => by simp at h
  | _ :: _, [], _, _, h => by simp at h
  | x :: p, y :: q, hp, hq, h => by
    rw [List.map_cons, List.map_cons] at h
    injection h with h1 h2
    rw [byte_inj (hp x (List.mem_cons_self ..)) (hq y (List.mem_cons_self ..)) h1, map_inj p q (fun z hz => hp z (List.mem_cons_of_mem _ hz)) (fun z hz => hq z (List.mem_cons_of_mem _ hz)) h2]
theorem equal_dec (p q : List Int) (hp : Byt p) (hq : Byt q) : bytes_Equal.f p q = some (decide (p = q)) := by
  unfold bytes_Equal.f
  congr 1
  by_cases c : p = q
  · subst c
    rw [decide_eq_true rfl]
    exact beq_self_eq_true _
  · rw [decide_eq_false c, beq_eq_false_iff_ne]
    intro h
    rw [Go.ByteArray.toList_eq, Go.ByteArray.toList_eq, strOfNums_data, strOfNums_data] at h
    exact c (map_inj p q hp hq h)
end Go.Proofs.Ytdgdpeibagcnpaa.Er
