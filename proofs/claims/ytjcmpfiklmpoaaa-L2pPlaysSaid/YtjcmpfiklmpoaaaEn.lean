/-
  'm[k], n[l] = v, u': an entry is made first and filled later: together they are a store.
-/
import Derived.Test.YtjcmpfiklmpoaaaL3
import Derived.WideKeyEntry
namespace Go.Proofs.Ytjcmpfiklmpoaaa.M
open Go.RowKit Go.Maps Go.ChangeShapes Go.WideShapes Go.MapKept Go.ChangeMaps Go.WideElems Go.Proofs.YtjcmpfiklmpoaaaW.PrintWords Go.Proofs.YtjcmpfiklmpoaaaW.PrintLast Go.Proofs.YtjcmpfiklmpoaaaW.PrintMore
set_option linter.unusedVariables false
set_option linter.unusedSimpArgs false
/-- as 'entry_then_store' of the kit, for a key type of whole numbers -/
theorem entry_store {H : Type} {P : Program} {w : World} {t k e : TypeId} {R : Value → Option (DataW H × List MemPlace)} {b : Nat} {es : Array MapEntry} {clock : Nat} (K : Keyed P k) (ht : P.underlying t = some (.map k e)) {z : Value} (hz : ∀ u : World, (zeroValue e).run P u = .ok z u) (hb : w.heap[b]? = some (.map es clock)) (F : Fit P k R es clock)
    {key : Value} {kl : Lit} (hkey : keyOf P k key = some kl) :
    ∃ (v0 : Value) (st : Nat) (es1 : Array MapEntry) (clock1 : Nat), (Instr.mapEntry t (.map (some b)) key).run P w = .ok (.tuple #[v0, goInt st]) (setBlock w b (.map es1 clock1)) ∧
      ∀ (w2 : World) (val : Value), w2.heap[b]? = some (.map es1 clock1) → ∃ es' clock', (Instr.entryStore t (.map (some b)) (goInt st) val).run P w2 = .ok () (setBlock w2 b (.map es' clock')) ∧
        (Instr.mapUpdate t (.map (some b)) key val).run P w = .ok () (setBlock w b (.map es' clock')) := by
  obtain ⟨s1, s2, _⟩ := F.stamped
  rcases K.find w hkey es.toList F.keys with ⟨h1, h2⟩ | ⟨j, e0, h1, h2, h3⟩
  · refine ⟨z, clock, es.push ⟨key, z, clock⟩, clock + 1, ?_, fun w2 val hw2 => ⟨es.push ⟨key, val, clock⟩, clock + 1, ?_, ?_⟩⟩
    · simp [Instr.mapEntry, run_underlying ht, MapKept.run_getObj_map hb, K.check w false hkey, h1, hz, MapKept.run_setObj_map _ hb, Result.andThen, setBlock]
    · have hidx : (es.push ⟨key, z, clock⟩).findIdx? (fun e => ((e.born : Nat) : Int) == ((clock : Nat) : Int)) = some es.size := by
        rw [findIdx_arr]
        have := findIdx_born (l := (es.push ⟨key, z, clock⟩).toList) (j := es.size) (e0 := ⟨key, z, clock⟩) (by
          simp only [Array.toList_push, List.map_append, List.map_cons, List.map_nil]
          refine List.nodup_append.2 ⟨s2, by simp, fun a ha c hc e1 => ?_⟩
          simp only [List.mem_singleton] at hc
          obtain ⟨x, hx, rfl⟩ := List.mem_map.1 ha
          have := s1 x hx
          omega) (by simp)
        exact this
      have hmod : (es.push ⟨key, z, clock⟩).modify es.size (fun e => { e with val := val }) = es.push ⟨key, val, clock⟩ := by
        apply Array.ext'
        rw [Array.toList_modify, Array.toList_push, Array.toList_push, ← Array.length_toList, modify_last]
      simp [Instr.entryStore, MapKept.run_getObj_map hw2, asInt, asIntOf, goInt, hidx, hmod, MapKept.run_setObj_map _ hw2, Result.andThen, setBlock]
    · simp [Instr.mapUpdate, run_underlying ht, MapKept.run_getObj_map hb, K.check w false hkey, h1, MapKept.run_setObj_map _ hb, Result.andThen, setBlock]
  · have hj : es[j]? = some e0 := by simpa using h2
    have hsame : es.modify j (fun e => { e with key := key }) = es := by
      apply Array.ext'
      rw [Array.toList_modify, modify_eq_set _ _ _ _ h2]
      have : ({ e0 with key := key } : MapEntry) = e0 := by rw [← h3]
      rw [this]
      exact set_self _ _ _ h2
    refine ⟨e0.val, e0.born, es, clock, ?_, fun w2 val hw2 => ⟨es.modify j (fun e' => { e' with key := key, val := val }), clock, ?_, ?_⟩⟩
    · simp [Instr.mapEntry, run_underlying ht, MapKept.run_getObj_map hb, K.check w false hkey, h1, hj, h3, K.stays w hkey, hsame, MapKept.run_setObj_map _ hb, Result.andThen, setBlock]
    · have hidx : es.findIdx? (fun e => ((e.born : Nat) : Int) == ((e0.born : Nat) : Int)) = some j := by
        rw [findIdx_arr]
        exact findIdx_born s2 h2
      have hmod : es.modify j (fun e => { e with val := val }) = es.modify j (fun e' => { e' with key := key, val := val }) := by
        apply Array.ext'
        rw [Array.toList_modify, Array.toList_modify, modify_eq_set _ _ _ _ h2, modify_eq_set _ _ _ _ h2, ← h3]
      simp [Instr.entryStore, MapKept.run_getObj_map hw2, asInt, asIntOf, goInt, hidx, hmod, MapKept.run_setObj_map _ hw2, Result.andThen, setBlock]
    · simp [Instr.mapUpdate, run_underlying ht, MapKept.run_getObj_map hb, K.check w false hkey, h1, hj, h3, K.stays w hkey, MapKept.run_setObj_map _ hb, Result.andThen, setBlock]
/-- An entry is made in the map of block b: what filling it gives, whatever has happened elsewhere. -/
theorem own_entry {W : World} {b c : Nat} {D : Dm} (h : Own W b c D) (hc : c < maxLen) {k v : Int} (hk : (Lit.int .i64 k).wf = true) (hv : (Lit.int .i64 v).wf = true) :
    ∃ (v0 : Value) (st : Int) (W1 : World), (Instr.mapEntry 47 (.map (some b)) (.int .i64 k)).run Try.prog W = .ok (.tuple #[v0, .int .i64 st]) W1 ∧ W.mapTurned W1 b ∧
      ∀ W2 : World, W2.heap[b]? = W1.heap[b]? → ∃ W3 : World, (Instr.entryStore 47 (.map (some b)) (.int .i64 st) (.int .i64 v)).run Try.prog W2 = .ok () W3 ∧ Own W3 b (c + 1) (D.put (.int .i64 k) (.lit (.int .i64 v))) ∧ W2.mapTurned W3 b := by
  have h' := h
  obtain ⟨es, clock, hb, F, _, _⟩ := h
  have hkey := keyOf_int_mk Try.underlying3 hk
  obtain ⟨v0, st, es1, clock1, hrun, hfill⟩ := entry_store key3 Try.underlying47 zero3 hb F hkey
  refine ⟨v0, _, _, hrun, ⟨es, clock, es1, clock1, hb, rfl⟩, fun W2 h2 => ?_⟩
  rw [heap_setBlock_same hb] at h2
  obtain ⟨es', clock', r1, r2⟩ := hfill W2 (.int .i64 v) h2
  obtain ⟨w', r3, r4, _⟩ := h'.store key3 Try.underlying47 hc hkey (plainElem_int (H := Unit) Try.underlying3 hv)
  rw [r2] at r3
  injection r3 with _ r3
  subst r3
  refine ⟨_, r1, ?_, ⟨es1, clock1, es', clock', h2, rfl⟩⟩
  obtain ⟨es2, clock2, k1, k2⟩ := r4
  rw [heap_setBlock_same hb] at k1
  injection k1 with k1
  injection k1 with k1 k1'
  subst k1
  subst k1'
  exact ⟨_, _, heap_setBlock_same h2 _, k2⟩
end Go.Proofs.Ytjcmpfiklmpoaaa.M
