/- The seat's own program logic, seventh part: maps, as functions from keys. Conditions: none; over any program. -/
import Derived.Test.YtaejmginhkbbhaaGreatDoorN
import Derived.MapKept
set_option linter.unusedSimpArgs false
set_option linter.unusedVariables false
set_option maxRecDepth 100000
set_option maxHeartbeats 1000000
namespace Go.Proofs.YtaejmginhkbbhaaGreatDoor
open Go Go.RowKit
open MapKept

open Classical in
/-- What a key leads to. -/
noncomputable def getE (es : List MapEntry) (k : Value) : Option Value := (es.find? fun e => decide (e.key = k)).map MapEntry.val
/-- A map: what each key leads to. -/
def mapc (b : Nat) (d : TypeDesc) (f : Value → Option Value) : Chunk :=
  ⟨[b], fun W => ∃ es clock, W.heap[b]? = some (.map es clock) ∧ (∀ x ∈ es.toList, IsKey d x.key) ∧ (es.toList.Pairwise fun x y => x.key ≠ y.key) ∧ ∀ k, IsKey d k → getE es.toList k = f k,
    fun W W' h k => by obtain ⟨es, clock, h1, h2⟩ := k; exact ⟨es, clock, (h b (by simp)).trans h1, h2⟩⟩
open Classical in
/-- A key is led elsewhere. -/
noncomputable def upd (f : Value → Option Value) (k : Value) (v : Option Value) : Value → Option Value := fun k' => if k' = k then v else f k'
theorem upd_same {f : Value → Option Value} {k : Value} {v : Option Value} : upd f k v k = v := by simp [upd]
theorem upd_ne {f : Value → Option Value} {k k' : Value} {v : Option Value} (h : k' ≠ k) : upd f k v k' = f k' := by simp [upd, h]

section
variable {P : Program} {ops : Array Oper} {Q : Exit → Act → World → Prop} {a : Act} {S : List Nat} {w W : World} {L L' : List Chunk} {rest : List Oper}
  {dst : Option Tmp} {ty : TypeId} {pos : String} {after : Array Edge} {F : Fence} {fn : Nat} {d : TypeDesc} {b : Nat} {f : Value → Option Value}

class Mp (P : Program) (t : TypeId) (kt et : outParam TypeId) (d : outParam TypeDesc) : Prop where
  map : P.underlying t = some (.map kt et)
  key : P.underlying kt = some d

theorem find_none {es : List MapEntry} {k : Value} (h : ∀ x ∈ es, x.key ≠ k) : getE es k = none := by
  unfold getE
  rw [List.find?_eq_none.2 (fun x hx => by simpa using h x hx)]
  rfl
theorem find_at : ∀ {es : List MapEntry} {j : Nat} {e : MapEntry} {k : Value}, (es.Pairwise fun x y => x.key ≠ y.key) → es[j]? = some e → e.key = k → getE es k = some e.val
  | [], j, e, k, _, h, _ => by simp at h
  | x :: es, 0, e, k, _, h, hk => by
    have : x = e := by simpa using h
    subst this
    simp [getE, hk]
  | x :: es, j + 1, e, k, hp, h, hk => by
    have hp' := List.pairwise_cons.1 hp
    have hj : es[j]? = some e := by simpa using h
    have hne : x.key ≠ k := by rw [← hk]; exact hp'.1 e (List.mem_of_getElem? hj)
    have ih := find_at hp'.2 hj hk
    unfold getE at ih ⊢
    rw [List.find?_cons_of_neg (by simpa using hne)]
    exact ih
theorem run_lookup {t kt et : TypeId} [hm : Mp P t kt et d] {z : Value} [hz : Zr P et z] {k : Value} (hk : IsKey d k) (h : (mapc b d f).ok W) :
    (Instr.lookup t (.map (some b)) k true).run P W = .ok (.tuple #[(f k).getD z, .bool (f k).isSome]) W := by
  obtain ⟨es, clock, hb, hks, hp, hf⟩ := h
  have hzr : (zeroValue et).run P W = .ok z W := by
    have := hz.zero
    cases hi : P.info? et with
    | none => rw [hi] at this; cases this
    | some i =>
      rw [hi] at this
      have : i.zero = some z := by simpa using this
      simp [zeroValue, typeInfo, hi, this]
  rw [← hf k hk]
  rcases findNow_spec hk es.toList 0 hks with ⟨h1, h2⟩ | ⟨j, e, h1, h2, h3⟩
  · rw [find_none h2]
    simp [Instr.lookup, run_underlying hm.map, MapKept.run_getObj_map hb, MapKept.run_checkKey hm.key hk, MapKept.run_findKey hm.key h1, hzr, Result.andThen]
  · rw [find_at hp h2 h3]
    simp [Instr.lookup, run_underlying hm.map, MapKept.run_getObj_map hb, MapKept.run_checkKey hm.key hk, MapKept.run_findKey hm.key h1, Result.andThen]
theorem run_update {t kt et : TypeId} [hm : Mp P t kt et d] {k v : Value} (hk : IsKey d k) (h : (mapc b d f).ok W) :
    ∃ W', (Instr.mapUpdate t (.map (some b)) k v).run P W = .ok () W' ∧ Fr [b] W W' ∧ (mapc b d (upd f k (some v))).ok W' := by
  obtain ⟨es, clock, hb, hks, hp, hf⟩ := h
  have hfr : ∀ o, Fr [b] W { W with heap := W.heap.setIfInBounds b o } := fun o => ⟨rfl, rfl, rfl, by simp, fun k hk hn => (heap_set (o' := o) hb).2 k (by simpa using hn)⟩
  rcases findNow_spec hk es.toList 0 hks with ⟨h1, h2⟩ | ⟨j, e, h1, h2, h3⟩
  · have hrun : (Instr.mapUpdate t (.map (some b)) k v).run P W = .ok () { W with heap := W.heap.setIfInBounds b (.map (es.push { key := k, val := v, born := clock }) (clock + 1)) } := by
      simp [Instr.mapUpdate, run_underlying hm.map, MapKept.run_getObj_map hb, MapKept.run_checkKey hm.key hk, MapKept.run_findKey hm.key h1, MapKept.run_setObj_map _ hb, Result.andThen]
    refine ⟨_, hrun, hfr _, ?_⟩
    · refine ⟨_, _, (heap_set hb).1, ?_, ?_, ?_⟩
      · intro x hx
        simp only [Array.toList_push, List.mem_append, List.mem_singleton] at hx
        rcases hx with hx | rfl
        · exact hks x hx
        · exact hk
      · rw [Array.toList_push, List.pairwise_append]
        exact ⟨hp, by simp, fun x hx y hy => by simp at hy; subst hy; exact h2 x hx⟩
      · intro k' hk'
        rw [Array.toList_push]
        by_cases hkk : k' = k
        · subst hkk
          rw [upd_same]
          unfold getE
          rw [List.find?_append, List.find?_eq_none.2 (fun x hx => by simpa using h2 x hx)]
          simp
        · rw [upd_ne hkk, ← hf k' hk']
          unfold getE
          rw [List.find?_append]
          simp [Ne.symm hkk]
  · have hj : es[j]? = some e := by simpa using h2
    have hrun : (Instr.mapUpdate t (.map (some b)) k v).run P W = .ok () { W with heap := W.heap.setIfInBounds b (.map (es.modify j fun e => { e with key := k, val := v }) clock) } := by
      simp [Instr.mapUpdate, run_underlying hm.map, MapKept.run_getObj_map hb, MapKept.run_checkKey hm.key hk, MapKept.run_findKey hm.key h1, hj, h3, MapKept.run_keyThatStays hk, MapKept.run_setObj_map _ hb, Result.andThen]
    refine ⟨_, hrun, hfr _, ?_⟩
    have hkey : ∀ e', es[j]? = some e' → ({ e' with key := k, val := v } : MapEntry).key = e'.key := fun e' he' => by rw [hj] at he'; cases he'; exact h3.symm
    have hkeys := modify_keys (es := es) j (fun e => { e with key := k, val := v }) hkey
    have hp2 : ((es.modify j fun e => { e with key := k, val := v }).toList).Pairwise (fun (x y : MapEntry) => x.key ≠ y.key) := by
      have h5 : ((es.modify j fun e => { e with key := k, val := v }).toList.map MapEntry.key).Pairwise (fun x y => x ≠ y) := by
        rw [hkeys]
        exact List.pairwise_map.2 hp
      exact List.pairwise_map.1 h5
    refine ⟨_, _, (heap_set hb).1, isKey_modify hks _ _ hkey, hp2, fun k' hk' => ?_⟩
    by_cases hkk : k' = k
    · subst hkk
      rw [upd_same]
      have hjm : (es.modify j fun e => { e with key := k', val := v }).toList[j]? = some { e with key := k', val := v } := by
        rw [Array.getElem?_toList, Array.getElem?_modify]
        simp [hj]
      exact find_at hp2 hjm rfl
    · rw [upd_ne hkk, ← hf k' hk']
      by_cases hin : ∃ (i : Nat) (x : MapEntry), es[i]? = some x ∧ x.key = k'
      · obtain ⟨i, x, hi, hx⟩ := hin
        have hij : i ≠ j := fun e2 => by subst e2; rw [hj] at hi; cases hi; exact hkk (hx.symm.trans h3)
        have him : (es.modify j fun e => { e with key := k, val := v }).toList[i]? = some x := by
          rw [Array.getElem?_toList, Array.getElem?_modify]
          simp [Ne.symm hij, hi]
        rw [find_at hp2 him hx, find_at hp (by simpa using hi) hx]
      · have hno : ∀ x ∈ es.toList, x.key ≠ k' := fun x hx e2 => by
          obtain ⟨i, hi⟩ := List.mem_iff_getElem?.1 hx
          exact hin ⟨i, x, by simpa using hi, e2⟩
        have hno2 : ∀ x ∈ (es.modify j fun e => { e with key := k, val := v }).toList, x.key ≠ k' := fun x hx e2 => by
          have : x.key ∈ (es.modify j fun e => { e with key := k, val := v }).toList.map MapEntry.key := List.mem_map.2 ⟨x, hx, rfl⟩
          rw [hkeys] at this
          obtain ⟨y, hy, he⟩ := List.mem_map.1 this
          exact hno y hy (he.trans e2)
        rw [find_none hno, find_none hno2]
theorem run_delete {t kt et : TypeId} [hm : Mp P t kt et d] {k : Value} (hk : IsKey d k) (h : (mapc b d f).ok W) :
    ∃ W', (Builtin.delete_ #[t, kt] ty #[.map (some b), k]).run P W = .ok (.tuple #[]) W' ∧ Fr [b] W W' ∧ (mapc b d (upd f k none)).ok W' := by
  obtain ⟨es, clock, hb, hks, hp, hf⟩ := h
  have hfr : ∀ o, Fr [b] W { W with heap := W.heap.setIfInBounds b o } := fun o => ⟨rfl, rfl, rfl, by simp, fun k hk hn => (heap_set (o' := o) hb).2 k (by simpa using hn)⟩
  rcases findNow_spec hk es.toList 0 hks with ⟨h1, h2⟩ | ⟨j, e, h1, h2, h3⟩
  · have hrun : (Builtin.delete_ #[t, kt] ty #[.map (some b), k]).run P W = .ok (.tuple #[]) { W with heap := W.heap.setIfInBounds b (.map es clock) } := by
      simp [Builtin.delete_, run_underlying hm.map, MapKept.run_getObj_map hb, MapKept.run_checkKey hm.key hk, MapKept.run_findKey hm.key h1, MapKept.run_setObj_map _ hb, Result.andThen]
    refine ⟨_, hrun, hfr _, _, _, (heap_set hb).1, hks, hp, fun k' hk' => ?_⟩
    by_cases hkk : k' = k
    · subst hkk; rw [upd_same, find_none h2]
    · rw [upd_ne hkk, hf k' hk']
  · have hrun : (Builtin.delete_ #[t, kt] ty #[.map (some b), k]).run P W = .ok (.tuple #[]) { W with heap := W.heap.setIfInBounds b (.map (es.eraseIdxIfInBounds j) clock) } := by
      simp [Builtin.delete_, run_underlying hm.map, MapKept.run_getObj_map hb, MapKept.run_checkKey hm.key hk, MapKept.run_findKey hm.key h1, MapKept.run_setObj_map _ hb, Result.andThen]
    have hlt : j < es.size := by
      have := (List.getElem?_eq_some_iff.1 h2).1
      simpa using this
    have hl : (es.eraseIdxIfInBounds j).toList = es.toList.eraseIdx j := by
      unfold Array.eraseIdxIfInBounds
      rw [dif_pos hlt, Array.toList_eraseIdx]
    have hsub : ((es.eraseIdxIfInBounds j).toList).Sublist es.toList := by rw [hl]; exact List.eraseIdx_sublist _ _
    refine ⟨_, hrun, hfr _, _, _, (heap_set hb).1, fun x hx => hks x (hsub.subset hx), hp.sublist hsub, fun k' hk' => ?_⟩
    have hpe : es.toList = es.toList.take j ++ e :: es.toList.drop (j + 1) := by
      have hjl := (List.getElem?_eq_some_iff.1 h2).1
      have hje := (List.getElem?_eq_some_iff.1 h2).2
      rw [← hje, List.getElem_cons_drop, List.take_append_drop]
    rw [hl, List.eraseIdx_eq_take_drop_succ]
    by_cases hkk : k' = k
    · subst hkk
      rw [upd_same]
      refine find_none fun x hx => ?_
      rw [hpe] at hp
      have hp2 := List.pairwise_append.1 hp
      rcases List.mem_append.1 hx with hx | hx
      · rw [← h3]; exact hp2.2.2 x hx e (by simp)
      · rw [← h3]; exact ((List.pairwise_cons.1 hp2.2.1).1 x hx).symm
    · rw [upd_ne hkk, ← hf k' hk']
      conv => rhs; rw [hpe]
      unfold getE
      rw [List.find?_append, List.find?_append, List.find?_cons_of_neg (by simp [h3]; exact fun e2 => hkk e2.symm)]
theorem run_clear {t kt et : TypeId} [hm : Mp P t kt et d] (h : (mapc b d f).ok W) :
    ∃ W', (Builtin.clear_ #[t] ty #[.map (some b)]).run P W = .ok (.tuple #[]) W' ∧ Fr [b] W W' ∧ (mapc b d (fun _ => none)).ok W' := by
  obtain ⟨es, clock, hb, hks, hp, hf⟩ := h
  refine ⟨{ W with heap := W.heap.setIfInBounds b (.map #[] clock) }, ?_, ⟨rfl, rfl, rfl, by simp, fun k hk hn => (heap_set hb).2 k (by simpa using hn)⟩, _, _, (heap_set hb).1, by simp, by simp, fun k _ => rfl⟩
  simp [Builtin.clear_, run_underlying hm.map, MapKept.run_getObj_map hb, MapKept.run_setObj_map _ hb, Result.andThen]
theorem St.newMap (h : St S w W L) (d : TypeDesc) : St S w (W.alloc (.map #[] 0)) (mapc W.heap.size d (fun _ => none) :: L) :=
  h.add (Fr.alloc _ _ _) ⟨#[], 0, (heap_alloc W _).1, by simp, by simp, fun _ _ => rfl⟩ (fun b hb => by
    have : b = W.heap.size := by simpa [mapc] using hb
    subst this; simp)
theorem St.mapStep {f' : Value → Option Value} {W' : World} (h : St S w W L) (hu : Upd L (mapc b d f) (mapc b d f') L') (hf : Fr [b] W W') (hok : (mapc b d f').ok W') : St S w W' L' := by
  refine h.step hu hf hok (fun x hx => ?_)
  have hxb : x = b := by simpa [mapc] using hx
  subst hxb
  exact ⟨Nat.lt_of_lt_of_le ((h.ok _ hu.mem).2 x (by simp [mapc])).1 hf.size, .inl (by simp [mapc])⟩
theorem l_makeMap {t kt et : TypeId} [hm : Mp P t kt et d] (hS : St S w W L) (hk : ∀ b W', St S w W' (mapc b d (fun _ => none) :: L) → wpList P ops Q rest (a.put dst (.map (some b))) W') :
    wpList P ops Q (⟨dst, .makeMap t none, ty, pos, after, none⟩ :: rest) a W :=
  wpList_val rfl (by simp [execOp, run_makeMap]) (hk W.heap.size _ (hS.newMap d))
theorem l_insert {t kt et : TypeId} [hm : Mp P t kt et d] {m k v : Operand} {kv vv : Value} (hS : St S w W L) (hx : a.eval m = .map (some b)) (hkv : a.eval k = kv) (hvv : a.eval v = vv) (hu : Upd L (mapc b d f) (mapc b d (upd f kv (some vv))) L') (hk : IsKey d kv)
    (hk2 : ∀ W', St S w W' L' → wpList P ops Q rest (a.put dst undef) W') : wpList P ops Q (⟨dst, .insert t m k v, ty, pos, after, none⟩ :: rest) a W := by
  obtain ⟨W', h1, h2, h3⟩ := run_update (P := P) (t := t) (v := vv) hk (hS.ok _ hu.mem).1
  exact wpList_skp rfl (by simp [execOp, hx, hkv, hvv, h1, Result.andThen]) (hk2 W' (hS.mapStep hu h2 h3))
theorem l_update {t kt et : TypeId} [hm : Mp P t kt et d] {m k v : Operand} {kv vv : Value} (hS : St S w W L) (hx : a.eval m = .map (some b)) (hkv : a.eval k = kv) (hvv : a.eval v = vv) (hu : Upd L (mapc b d f) (mapc b d (upd f kv (some vv))) L') (hk : IsKey d kv)
    (hk2 : ∀ W', St S w W' L' → wpList P ops Q rest (a.put dst undef) W') : wpList P ops Q (⟨dst, .mapUpdate t m k v, ty, pos, after, none⟩ :: rest) a W := by
  obtain ⟨W', h1, h2, h3⟩ := run_update (P := P) (t := t) (v := vv) hk (hS.ok _ hu.mem).1
  exact wpList_skp rfl (by simp [execOp, hx, hkv, hvv, h1, Result.andThen]) (hk2 W' (hS.mapStep hu h2 h3))
theorem l_lookup {t kt et : TypeId} [hm : Mp P t kt et d] {z : Value} [Zr P et z] {m k : Operand} {kv : Value} {r : Option Value} (hx : a.eval m = .map (some b)) (hkv : a.eval k = kv) (hk : IsKey d kv) (hok : (mapc b d f).ok W) (hr : f kv = r)
    (hk2 : wpList P ops Q rest (a.put dst (.tuple #[r.getD z, .bool r.isSome])) W) : wpList P ops Q (⟨dst, .lookup t m k true, ty, pos, after, none⟩ :: rest) a W := by
  subst hr
  exact wpList_val rfl (by simp [execOp, hx, hkv, run_lookup (P := P) (t := t) (et := et) (z := z) hk hok, Result.andThen]) hk2
end
end Go.Proofs.YtaejmginhkbbhaaGreatDoor
