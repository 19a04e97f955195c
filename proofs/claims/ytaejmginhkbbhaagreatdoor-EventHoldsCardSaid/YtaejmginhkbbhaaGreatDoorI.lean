/- The seat's own program logic, second part: structs, arrays and slices that are built; append. Conditions: none; over any program. -/
import Derived.Test.YtaejmginhkbbhaaGreatDoorH
import Derived.Maps.AppendAt
import Derived.Lib.AppendStr
namespace Go.Proofs.YtaejmginhkbbhaaGreatDoor
open Go Go.RowKit

/-! ### Building -/

class Bs (P : Program) (t : TypeId) (offs : outParam (List (Nat × Nat))) : Prop where
  places : ∃ fields, P.underlying t = some (.struct fields) ∧ ∀ w, (fields.mapM (m := Sem) fun f => do pure (f.offset, ← sizeOf f.type)).run P w = .ok ⟨offs⟩ w
class Ba (P : Program) (t : TypeId) (n : outParam Nat) (e : outParam TypeId) : Prop where
  arr : P.underlying t = some (.array n e)
class El (P : Program) (t : TypeId) (e : outParam TypeId) : Prop where
  el : P.underlying t = some (.slice e)
class By (P : Program) (e : TypeId) (bytes : outParam Nat) : Prop where
  bytes : (P.info? e).map (fun i => i.bytes) = some bytes

/-- The cells with parts laid in. -/
def fillL (place : Nat → Option (Nat × Nat)) : List Value → List (Nat × Value) → Option (List Value)
  | cs, [] => some cs
  | cs, (i, v) :: rest =>
    match place i with
    | none => none
    | some (off, size) => if v.cells.toList.length = size ∧ off + v.cells.toList.length ≤ cs.length then fillL place (splice cs off v.cells.toList) rest else none

theorem foldl_splice : ∀ (vs : List Value) (k off : Nat) (cs : List Value), off + k + vs.length ≤ cs.length →
    (vs.zipIdx k).foldl (fun (cs : Array Value) (p : Value × Nat) => cs.setIfInBounds (off + p.2) p.1) ⟨cs⟩ = ⟨splice cs (off + k) vs⟩ := by
  intro vs
  induction vs with
  | nil => intro k off cs h; rw [splice_eq cs _ [] (by simpa using h)]; simp
  | cons v vs ih =>
    intro k off cs h
    simp only [List.zipIdx_cons, List.foldl_cons]
    have e1 : (⟨cs⟩ : Array Value).setIfInBounds (off + k) v = ⟨cs.set (off + k) v⟩ := by apply Array.ext'; simp
    rw [e1, ih (k + 1) off (cs.set (off + k) v) (by simp at h ⊢; omega)]
    rw [splice_eq _ _ _ (by simp at h ⊢; omega), splice_eq _ _ _ (by simp at h ⊢; omega)]
    congr 1
    have := list_seg_step cs (off + k) v vs (by simp at h ⊢; omega)
    simpa [Nat.add_assoc] using this

theorem fill_list (place : Nat → Option (Nat × Nat)) : ∀ (ps : List (Nat × Value)) (cs cs' : List Value), fillL place cs ps = some cs' → Instr.fill place ⟨cs⟩ ps = some ⟨cs'⟩ := by
  intro ps
  induction ps with
  | nil => intro cs cs' h; simp only [fillL, Option.some.injEq] at h; subst h; rfl
  | cons p ps ih =>
    intro cs cs' h
    obtain ⟨i, v⟩ := p
    simp only [fillL] at h
    cases hp : place i with
    | none => rw [hp] at h; cases h
    | some q =>
      obtain ⟨off, size⟩ := q
      rw [hp] at h
      simp only at h
      split at h
      · rename_i hc
        have hs : v.cells.size = v.cells.toList.length := by simp
        have hf : v.cells.zipIdx.foldl (fun (cs : Array Value) (x : Value × Nat) => match x with | (c, j) => cs.setIfInBounds (off + j) c) ⟨cs⟩ = ⟨splice cs off v.cells.toList⟩ := by
          rw [← Array.foldl_toList]
          have := foldl_splice v.cells.toList 0 off cs (by simpa using hc.2)
          simpa using this
        simp only [Instr.fill, hp]
        rw [if_neg (by simp; constructor <;> omega)]
        rw [hf]
        exact ih _ _ h
      · cases h

section
variable {P : Program}
theorem run_buildS {t : TypeId} {offs : List (Nat × Nat)} [hb : Bs P t offs] {z : Value} [Zr P t z] {zs cs : List Value} (hz : z.cells = ⟨zs⟩) (ps : List (Nat × Value)) (h : fillL (fun i : Nat => offs[i]?) zs ps = some cs) (W : World) :
    (Instr.build t ⟨ps⟩).run P W = .ok (.agg ⟨cs⟩) W := by
  obtain ⟨fields, hu, hm⟩ := hb.places
  have hf := fill_list _ ps zs cs h
  unfold Instr.build
  simp only [Sem.run_bind, run_zeroValue' (P := P) (t := t), Result.andThen_ok, run_underlying hu, hm, hz]
  simp [hf]
theorem run_buildA {t : TypeId} {n : Nat} {e : TypeId} [hb : Ba P t n e] {agg : Bool} {k : Nat} [Sz P e agg k] {z : Value} [Zr P t z] {zs cs : List Value} (hz : z.cells = ⟨zs⟩) (ps : List (Nat × Value)) (h : fillL (fun i => some (i * k, k)) zs ps = some cs) (W : World) :
    (Instr.build t ⟨ps⟩).run P W = .ok (.agg ⟨cs⟩) W := by
  have hf := fill_list _ ps zs cs h
  unfold Instr.build
  simp only [Sem.run_bind, run_zeroValue' (P := P) (t := t), Result.andThen_ok, run_underlying hb.arr, run_sizeOf (P := P) (t := e), hz]
  simp [hf]

/-- As many zero values, one behind the other. -/
def zeros (z : List Value) : Nat → List Value
  | 0 => []
  | n + 1 => z ++ zeros z n
theorem zeros_length (z : List Value) (n : Nat) : (zeros z n).length = n * z.length := by
  induction n with
  | zero => simp [zeros]
  | succ n ih => simp [zeros, ih, Nat.add_mul]; omega
theorem zeros_get (z : List Value) : ∀ (n i : Nat), i < n * z.length → (zeros z n)[i]? = z[i % z.length]?
  | 0, i, h => by simp at h
  | n + 1, i, h => by
    simp only [zeros]
    by_cases hi : i < z.length
    · rw [List.getElem?_append_left hi, Nat.mod_eq_of_lt hi]
    · rw [List.getElem?_append_right (by omega), zeros_get z n (i - z.length) (by rw [Nat.add_mul] at h; omega)]
      rw [← Nat.mod_eq_sub_mod (by omega)]

theorem run_buildSlice' {t e : TypeId} [he : El P t e] {agg : Bool} {k : Nat} [Sz P e agg k] {z : Value} [Zr P e z] {zs cs : List Value} (hz : z.cells = ⟨zs⟩) (hzl : zs.length = k) (len : Nat) (hlen : len * k ≤ 2 ^ 24) (ps : List (Nat × Value)) (h : fillL (fun i => some (i * k, k)) (zeros zs len) ps = some cs) (W : World) :
    (Instr.buildSlice t len ⟨ps⟩).run P W = .ok (.slice (some ⟨W.heap.size, 0, none⟩) len len) (W.alloc (.cells ⟨cs⟩ e)) := by
  unfold Instr.buildSlice
  simp only [Sem.run_bind, Result.andThen_ok, run_underlying he.el, run_sizeOf (P := P) (t := e)]
  rw [if_neg (by omega)]
  have hf := fill_list _ ps _ cs h
  by_cases h0 : len * k = 0
  · have : zeros zs len = [] := List.eq_nil_of_length_eq_zero (by rw [zeros_length, hzl]; exact h0)
    rw [this] at hf
    have e0 : Array.map (fun _ => (default : Value)) (Array.range 0) = ⟨[]⟩ := by simp
    simp [h0, newRow]
    rw [e0, hf]
    simp
  · have : (Array.range (len * k)).map (fun i => (⟨zs⟩ : Array Value)[i % (⟨zs⟩ : Array Value).size]!) = ⟨zeros zs len⟩ := by
      apply Array.ext'
      apply List.ext_getElem?
      intro i
      by_cases hi : i < len * k
      · rw [zeros_get zs len i (by rw [hzl]; exact hi)]
        have hk : 0 < zs.length := by
          rcases Nat.eq_zero_or_pos zs.length with h | h
          · rw [← hzl, h] at hi; simp at hi
          · exact h
        have hm := Nat.mod_lt i hk
        simp [hi, hm]
      · have h1 : (zeros zs len)[i]? = none := List.getElem?_eq_none (by rw [zeros_length, hzl]; omega)
        rw [h1]
        simp
        omega
    simp [h0, run_zeroValue' (P := P) (t := e), hz] at this ⊢
    rw [this]
    simp [hf, newRow]

theorem run_index' {t : TypeId} {n : Nat} {e : TypeId} [hb : Ba P t n e] {agg : Bool} {k : Nat} [hs : Sz P e agg k] {cs : List Value} {v : Value} (i : Nat) (hi : i < n) (hv : takeV agg k (cs.drop (i * k)) = some v) (W : World) :
    (Instr.index t (.agg ⟨cs⟩) (.int .i64 i)).run P W = .ok v W := by
  unfold Instr.index
  simp only [asIntOf, Sem.run_bind, Sem.run_pure, Result.andThen_ok, run_underlying hb.arr]
  rw [if_pos (by omega)]
  simp only [Sem.run_bind, Result.andThen_ok, run_sizeOf (P := P) (t := e), part, run_isAgg (P := P) (t := e), Int.toNat_natCast]
  cases agg with
  | false =>
    simp only [takeV, Bool.false_eq_true, if_false] at hv
    have : cs[i * k]? = some v := by simpa [List.head?_drop] using hv
    simp [this]
  | true =>
    simp only [takeV, if_true] at hv
    split at hv
    · rename_i hk
      simp only [Option.some.injEq] at hv
      subst hv
      simp only [if_true, Sem.run_bind, Result.andThen_ok, run_sizeOf (P := P) (t := e), Sem.run_pure]
      congr 2
      apply Array.ext'
      simp [List.extract_eq_take_drop] 
    · cases hv
end

section
variable {P : Program} {ops : Array Oper} {Q : Exit → Act → World → Prop} {a : Act} {S : List Nat} {w W : World} {L L' : List Chunk} {rest : List Oper}
  {dst : Option Tmp} {ty : TypeId} {pos : String} {after : Array Edge} {F : Fence} {fn : Nat}

theorem exec_build (ρ : Operand → Value) (t : TypeId) (parts : List (Nat × Operand)) (g : Option (Nat × Bool)) :
    execOp ρ ⟨dst, .build t ⟨parts⟩, ty, pos, after, g⟩ = (do pure (.value (← Instr.build t ⟨parts.map fun p => (p.1, ρ p.2)⟩))) := by
  simp [execOp]
theorem exec_buildSlice (ρ : Operand → Value) (t : TypeId) (n : Nat) (parts : List (Nat × Operand)) (g : Option (Nat × Bool)) :
    execOp ρ ⟨dst, .buildSlice t n ⟨parts⟩, ty, pos, after, g⟩ = (do pure (.value (← Instr.buildSlice t n ⟨parts.map fun p => (p.1, ρ p.2)⟩))) := by
  simp [execOp]

theorem run_op_buildS {ρ : Operand → Value} {t : TypeId} {offs : List (Nat × Nat)} [Bs P t offs] {z : Value} [Zr P t z] {zs cs : List Value} {parts : List (Nat × Operand)} {g : Option (Nat × Bool)} (hz : z.cells = ⟨zs⟩) (h : fillL (fun i : Nat => offs[i]?) zs (parts.map fun p => (p.1, ρ p.2)) = some cs) :
    (execOp ρ ⟨dst, .build t ⟨parts⟩, ty, pos, after, g⟩).run P W = .ok (.value (.agg ⟨cs⟩)) W := by
  rw [exec_build]; simp [run_buildS (P := P) hz _ h W]
theorem run_op_buildA {ρ : Operand → Value} {t : TypeId} {n : Nat} {e : TypeId} [Ba P t n e] {agg : Bool} {k : Nat} [Sz P e agg k] {z : Value} [Zr P t z] {zs cs : List Value} {parts : List (Nat × Operand)} {g : Option (Nat × Bool)} (hz : z.cells = ⟨zs⟩) (h : fillL (fun i => some (i * k, k)) zs (parts.map fun p => (p.1, ρ p.2)) = some cs) :
    (execOp ρ ⟨dst, .build t ⟨parts⟩, ty, pos, after, g⟩).run P W = .ok (.value (.agg ⟨cs⟩)) W := by
  rw [exec_build]; simp [run_buildA (P := P) hz _ h W]

theorem l_build {t : TypeId} {offs : List (Nat × Nat)} [Bs P t offs] {z : Value} [Zr P t z] {zs cs : List Value} {parts : List (Nat × Operand)} (hz : z.cells = ⟨zs⟩) (h : fillL (fun i : Nat => offs[i]?) zs (parts.map fun p => (p.1, a.eval p.2)) = some cs)
    (hk : wpList P ops Q rest (a.put dst (.agg ⟨cs⟩)) W) : wpList P ops Q (⟨dst, .build t ⟨parts⟩, ty, pos, after, none⟩ :: rest) a W := wpList_val rfl (run_op_buildS hz h) hk
theorem i_build {t : TypeId} {offs : List (Nat × Nat)} [Bs P t offs] {z : Value} [Zr P t z] {zs cs : List Value} {parts : List (Nat × Operand)} (hz : z.cells = ⟨zs⟩) (h : fillL (fun i : Nat => offs[i]?) zs (parts.map fun p => (p.1, a.eval p.2)) = some cs)
    (hk : wpListIn F fn P ops Q rest (a.put dst (.agg ⟨cs⟩)) W) : wpListIn F fn P ops Q (⟨dst, .build t ⟨parts⟩, ty, pos, after, none⟩ :: rest) a W := wpListIn_val rfl rfl (run_op_buildS hz h) hk
theorem l_buildA {t : TypeId} {n : Nat} {e : TypeId} [Ba P t n e] {agg : Bool} {k : Nat} [Sz P e agg k] {z : Value} [Zr P t z] {zs cs : List Value} {parts : List (Nat × Operand)} (hz : z.cells = ⟨zs⟩) (h : fillL (fun i => some (i * k, k)) zs (parts.map fun p => (p.1, a.eval p.2)) = some cs)
    (hk : wpList P ops Q rest (a.put dst (.agg ⟨cs⟩)) W) : wpList P ops Q (⟨dst, .build t ⟨parts⟩, ty, pos, after, none⟩ :: rest) a W := wpList_val rfl (run_op_buildA hz h) hk
theorem i_buildA {t : TypeId} {n : Nat} {e : TypeId} [Ba P t n e] {agg : Bool} {k : Nat} [Sz P e agg k] {z : Value} [Zr P t z] {zs cs : List Value} {parts : List (Nat × Operand)} (hz : z.cells = ⟨zs⟩) (h : fillL (fun i => some (i * k, k)) zs (parts.map fun p => (p.1, a.eval p.2)) = some cs)
    (hk : wpListIn F fn P ops Q rest (a.put dst (.agg ⟨cs⟩)) W) : wpListIn F fn P ops Q (⟨dst, .build t ⟨parts⟩, ty, pos, after, none⟩ :: rest) a W := wpListIn_val rfl rfl (run_op_buildA hz h) hk

theorem run_op_bslice {ρ : Operand → Value} {t e : TypeId} [El P t e] {agg : Bool} {k : Nat} [Sz P e agg k] {z : Value} [Zr P e z] {zs cs : List Value} {len : Nat} {parts : List (Nat × Operand)} {g : Option (Nat × Bool)} (hz : z.cells = ⟨zs⟩) (hl : (decide (zs.length = k) && decide (len * k ≤ 2 ^ 24)) = true) (h : fillL (fun i => some (i * k, k)) (zeros zs len) (parts.map fun p => (p.1, ρ p.2)) = some cs) :
    (execOp ρ ⟨dst, .buildSlice t len ⟨parts⟩, ty, pos, after, g⟩).run P W = .ok (.value (.slice (some ⟨W.heap.size, 0, none⟩) len len)) (W.alloc (.cells ⟨cs⟩ e)) := by
  simp only [Bool.and_eq_true, decide_eq_true_eq] at hl
  rw [exec_buildSlice]; simp [run_buildSlice' (P := P) hz hl.1 len hl.2 _ h W]
theorem l_bslice {t e : TypeId} [El P t e] {agg : Bool} {k : Nat} [Sz P e agg k] {z : Value} [Zr P e z] {zs cs : List Value} {len : Nat} {parts : List (Nat × Operand)} (hS : St S w W L) (hz : z.cells = ⟨zs⟩) (hl : (decide (zs.length = k) && decide (len * k ≤ 2 ^ 24)) = true) (h : fillL (fun i => some (i * k, k)) (zeros zs len) (parts.map fun p => (p.1, a.eval p.2)) = some cs)
    (hk : ∀ b W', St S w W' (row b e cs :: L) → wpList P ops Q rest (a.put dst (.slice (some ⟨b, 0, none⟩) len len)) W') : wpList P ops Q (⟨dst, .buildSlice t len ⟨parts⟩, ty, pos, after, none⟩ :: rest) a W :=
  wpList_val rfl (run_op_bslice hz hl h) (hk _ _ (hS.alloc e cs))
theorem i_bslice {t e : TypeId} [El P t e] {agg : Bool} {k : Nat} [Sz P e agg k] {z : Value} [Zr P e z] {zs cs : List Value} {len : Nat} {parts : List (Nat × Operand)} (hS : St S w W L) (hz : z.cells = ⟨zs⟩) (hl : (decide (zs.length = k) && decide (len * k ≤ 2 ^ 24)) = true) (h : fillL (fun i => some (i * k, k)) (zeros zs len) (parts.map fun p => (p.1, a.eval p.2)) = some cs)
    (hk : ∀ b W', St S w W' (row b e cs :: L) → wpListIn F fn P ops Q rest (a.put dst (.slice (some ⟨b, 0, none⟩) len len)) W') : wpListIn F fn P ops Q (⟨dst, .buildSlice t len ⟨parts⟩, ty, pos, after, none⟩ :: rest) a W :=
  wpListIn_val rfl rfl (run_op_bslice hz hl h) (hk _ _ (hS.alloc e cs))

theorem l_index {t : TypeId} {n : Nat} {e : TypeId} [Ba P t n e] {agg : Bool} {k : Nat} [Sz P e agg k] {x y : Operand} {cs : List Value} {v : Value} {i : Nat} (hx : a.eval x = .agg ⟨cs⟩) (hy : a.eval y = .int .i64 i) (hi : i < n) (hv : takeV agg k (cs.drop (i * k)) = some v)
    (hk : wpList P ops Q rest (a.put dst v) W) : wpList P ops Q (⟨dst, .index t x y, ty, pos, after, none⟩ :: rest) a W :=
  wpList_val rfl (by simp [execOp, hx, hy, run_index' (P := P) i hi hv]) hk

/-! ### Slices that are read -/

/-- What a slice of n elements, of size cells each, reads as. -/
def RdS (W : World) (size : Nat) (v : Value) (n : Nat) (xs : List Value) : Prop :=
  xs.length = n * size ∧ ∃ A c, v = .slice A n c ∧ n ≤ c ∧ (xs ≠ [] → ∃ b o, A = some ⟨b, o, none⟩ ∧ Rd W b o xs)

theorem RdS.nil (W : World) (size : Nat) (A : Option Addr) (c : Nat) : RdS W size (.slice A 0 c) 0 [] := ⟨by simp, A, c, rfl, Nat.zero_le _, fun h => absurd rfl h⟩
theorem Rd.fr' {b off : Nat} {cs : List Value} {w W : World} {S : List Nat} (h : Rd w b off cs) (hf : Fr S w W) (hb : b ∉ S) : Rd W b off cs := h.fr hf hb
theorem RdS.keep {W W' : World} {size : Nat} {v : Value} {n : Nat} {xs : List Value} (h : RdS W size v n xs) (hf : Fr [] W W') : RdS W' size v n xs := by
  obtain ⟨h1, A, c, rfl, hc, h2⟩ := h
  refine ⟨h1, A, c, rfl, hc, fun hx => ?_⟩
  obtain ⟨b, o, rfl, hr⟩ := h2 hx
  exact ⟨b, o, rfl, hr.fr hf (by simp)⟩
theorem RdS.frame {W W' : World} {S : List Nat} {size : Nat} {v : Value} {n : Nat} {xs : List Value} (h : RdS W size v n xs) (hf : Fr S W W') (hS : ∀ k, v.ownBlock = some k → k ∉ S) : RdS W' size v n xs := by
  obtain ⟨h1, A, c, rfl, hc, h2⟩ := h
  refine ⟨h1, A, c, rfl, hc, fun hx => ?_⟩
  obtain ⟨b, o, rfl, hr⟩ := h2 hx
  exact ⟨b, o, rfl, hr.fr hf (hS b (by simp [Value.ownBlock]))⟩
theorem RdS.of_row {W : World} {size : Nat} {b : Nat} {t : TypeId} {cs : List Value} (h : (row b t cs).ok W) (n c : Nat) (hl : cs.length = n * size) (hc : n ≤ c) : RdS W size (.slice (some ⟨b, 0, none⟩) n c) n cs :=
  ⟨hl, _, c, rfl, hc, fun _ => ⟨b, 0, rfl, Rd.of_row h⟩⟩
theorem RdS.of_rd {W : World} {size b off n c : Nat} {cs : List Value} (h : Rd W b off cs) (hl : cs.length = n * size) (hc : n ≤ c) : RdS W size (.slice (some ⟨b, off, none⟩) n c) n cs :=
  ⟨hl, _, c, rfl, hc, fun _ => ⟨b, off, rfl, h⟩⟩
theorem RdS.of_owns {W : World} {base : Nat} {e : TypeId} {size : Nat} {v : Value} {n : Nat} {xs : List Value} (h : W.ownsRow base e size v n xs) : RdS W size v n xs := by
  refine ⟨h.1, ?_⟩
  rcases h.2 with ⟨rfl, rfl⟩ | ⟨g, cap, cur, rfl, hb, hg, hn, _, _, htake⟩
  · exact ⟨none, 0, rfl, Nat.le_refl _, fun hx => absurd (List.eq_nil_of_length_eq_zero (by simpa using h.1)) hx⟩
  · refine ⟨_, cap, rfl, hn, fun _ => ⟨g, 0, rfl, fun j v hj => ?_⟩⟩
    have := h.cells (g := g) rfl j v hj
    rwa [addr_add] at this
theorem RdS.of_own {W : World} {e : TypeId} {size : Nat} {v : Value} {n : Nat} {xs : List Value} (h : (own e size v n xs).ok W) : RdS W size v n xs := RdS.of_owns (base := 0) h
/-- Its i-th element can be read. -/
theorem RdS.at {W : World} {size : Nat} {A : Option Addr} {c n m : Nat} {xs : List Value} (h : RdS W size (.slice A m c) n xs) (i : Nat) (hi : i < n) (hs : 0 < size) : m = n ∧ ∃ b o, A = some ⟨b, o, none⟩ ∧ Rd W b (o + i * size) (xs.drop (i * size)) := by
  obtain ⟨h1, A', c', e, hc, h2⟩ := h
  cases e
  have hlt : i * size < xs.length := by
    rw [h1]; exact Nat.mul_lt_mul_of_pos_right hi hs
  obtain ⟨b, o, rfl, hr⟩ := h2 (fun e => by rw [e] at hlt; simp at hlt)
  exact ⟨rfl, b, o, rfl, hr.drop _⟩
theorem RdS.shape {W : World} {size : Nat} {v : Value} {n : Nat} {xs : List Value} (h : RdS W size v n xs) : ∃ A c, v = .slice A n c ∧ n ≤ c := by
  obtain ⟨h1, A, c, rfl, hc, h2⟩ := h
  exact ⟨A, c, rfl, hc⟩

/-! ### Append -/

theorem info_of {e : TypeId} {agg : Bool} {size bytes : Nat} {z : Value} [h1 : Sz P e agg size] [h2 : Zr P e z] [h3 : By P e bytes] : ∃ i, P.info? e = some i ∧ i.zero = some z ∧ i.size = size ∧ i.bytes = bytes := by
  have a1 := h1.size; have a2 := h2.zero; have a3 := h3.bytes
  cases hi : P.info? e with
  | none => rw [hi] at a1; cases a1
  | some i =>
    rw [hi] at a1 a2 a3
    exact ⟨i, rfl, by simpa using a2, by simpa using a1, by simpa using a3⟩

theorem run_append_rd {t e : TypeId} [he : El P t e] {agg : Bool} {size bytes : Nat} {z : Value} [Sz P e agg size] [Zr P e z] [By P e bytes] (hzs : z.cells.size = size) (hsz : 0 < size) (ty : TypeId) (W : World)
    {v : Value} {n : Nat} {xs : List Value} (hown : W.ownsRow 0 e size v n xs) {y : Value} {m : Nat} {news : List Value} (hy : RdS W size y m news) (h1 : ∀ u ∈ news, u.oneCell' = true)
    (hb : n + m ≤ 140737488355328) (hbytes : (n + m) * bytes ≤ 140737488355328) :
    ∃ v' W', (Builtin.append_ #[t, t] ty #[v, y]).run P W = .ok v' W' ∧ W'.ownsRow 0 e size v' (n + m) (xs ++ news) ∧ W.grownBy W' v.ownBlock ∧
      (v' = .slice none 0 0 ↔ v = .slice none 0 0 ∧ m = 0) ∧ (v'.ownBlock = v.ownBlock ∨ v'.ownBlock = some W.heap.size) := by
  obtain ⟨i, hi, hiz, his, hib⟩ := info_of (P := P) (e := e) (agg := agg) (size := size) (bytes := bytes) (z := z)
  obtain ⟨hl, A, c, rfl, hc, hr⟩ := hy
  by_cases hm : m = 0
  · subst hm
    have hn : news = [] := List.eq_nil_of_length_eq_zero (by simpa using hl)
    subst hn
    have hA : ∀ (x : Nat), (Builtin.firstCells size 0 (.slice A 0 x)).run P W = .ok #[] W := by
      intro x; cases A <;> simp [Builtin.firstCells, loadCells, loadCellsFrom]
    refine ⟨v, W, ?_, by simpa using hown, World.grownBy.refl W _, by simp, .inl rfl⟩
    rcases hown.2 with ⟨rfl, rfl⟩ | ⟨g, cap, cur, rfl, _, hg, hnc, _⟩
    · simp [Builtin.append_, run_underlying he.el, sizeOf, typeInfo, hi, his, Builtin.lenOf, hA]
    · simp [Builtin.append_, run_underlying he.el, sizeOf, typeInfo, hi, his, Builtin.lenOf, hA, hnc, storeCells]
  · have hne : news ≠ [] := fun e => by
      rw [e] at hl
      have : m * size = 0 := by simpa using hl.symm
      rcases Nat.mul_eq_zero.1 this with h | h <;> omega
    obtain ⟨b, o, rfl, hrd⟩ := hr hne
    exact run_append_own_at (P := P) W 0 t ty e i z size bytes he.el hi hiz his hib hzs hsz v n xs hown ⟨b, o, none⟩ m c news hl (fun j u hj => by rw [addr_add]; exact hrd j u hj) h1 (by simp only [maxLen]; omega) hbytes (Nat.zero_le _)

theorem St.append {e : TypeId} {size : Nat} {v v' : Value} {n n' : Nat} {xs xs' : List Value} {W' : World} (hS : St S w W L) (hu : Upd L (own e size v n xs) (own e size v' n' xs') L')
    (h1 : W'.ownsRow 0 e size v' n' xs') (h2 : W.grownBy W' v.ownBlock) (h3 : v'.ownBlock = v.ownBlock ∨ v'.ownBlock = some W.heap.size) : St S w W' L' := by
  refine hS.step hu ⟨h2.os, h2.tape, h2.output, h2.size, fun k hk hn => h2.block k hk (fun e => hn ?_)⟩ h1 (fun b hb => ?_)
  · show k ∈ v.ownBlock.toList
    rw [← e]; simp
  · have hb' : v'.ownBlock = some b := by
      have : b ∈ v'.ownBlock.toList := hb
      simpa using this
    refine ⟨(h1.lt b hb').2, ?_⟩
    rcases h3 with h3 | h3
    · left; show b ∈ v.ownBlock.toList; rw [← h3, hb']; simp
    · right; rw [hb'] at h3; cases h3; exact Nat.le_refl _

theorem exec_append (ρ : Operand → Value) (x y : Operand) (t u : TypeId) (g : Option (Nat × Bool)) {v' : Value} {W' : World} (h : (Builtin.append_ #[t, u] ty #[ρ x, ρ y]).run P W = .ok v' W') :
    (execOp ρ ⟨dst, .call ⟨.builtin .append, #[x, y], #[t, u]⟩, ty, pos, after, g⟩).run P W = .ok (.value v') W' := by
  simp only [execOp, resolve, invoke, builtin, Sem.run_bind, Sem.run_pure, Result.andThen_ok, List.map_toArray, List.map_cons, List.map_nil, h]

theorem l_append {t e : TypeId} [El P t e] {agg : Bool} {size bytes : Nat} {z : Value} [Sz P e agg size] [Zr P e z] [By P e bytes] {x y : Operand} {v yv : Value} {n m : Nat} {xs news : List Value} {L' : Value → List Chunk} (hS : St S w W L)
    (hx : a.eval x = v) (hy : a.eval y = yv) (hu : ∀ v', Upd L (own e size v n xs) (own e size v' (n + m) (xs ++ news)) (L' v')) (hzs : (decide (z.cells.size = size) && decide (0 < size)) = true)
    (hr : RdS W size yv m news) (h1 : ∀ u ∈ news, u.oneCell' = true) (hb : n + m ≤ 140737488355328) (hbytes : (n + m) * bytes ≤ 140737488355328)
    (hk : ∀ v' W', St S w W' (L' v') → (v' = .slice none 0 0 ↔ v = .slice none 0 0 ∧ m = 0) → wpList P ops Q rest (a.put dst v') W') :
    wpList P ops Q (⟨dst, .call ⟨.builtin .append, #[x, y], #[t, t]⟩, ty, pos, after, none⟩ :: rest) a W := by
  simp only [Bool.and_eq_true, decide_eq_true_eq] at hzs
  obtain ⟨v', W', hrun, g1, g2, g3, g4⟩ := run_append_rd (P := P) (t := t) hzs.1 hzs.2 ty W (hS.ok _ (hu v).mem).1 hr h1 hb hbytes
  exact wpList_val rfl (exec_append _ _ _ _ _ _ (by rw [hx, hy]; exact hrun)) (hk v' W' (hS.append (hu v') g1 g2 g4) g3)

theorem wpListIn_append {x y : Operand} {t u : TypeId} {v' : Value} {W' : World} (h : (Builtin.append_ #[t, u] ty #[a.eval x, a.eval y]).run P W = .ok v' W') (hk : wpListIn F fn P ops Q rest (a.put dst v') W') :
    wpListIn F fn P ops Q (⟨dst, .call ⟨.builtin .append, #[x, y], #[t, u]⟩, ty, pos, after, none⟩ :: rest) a W := by
  refine wpListIn_plain rfl fun K hK => ⟨fun f hf => ?_, ?_⟩
  · exfalso
    simp [Oper.about, resolve, Target.leads] at hf
  · have : Oper.semAt F.round a.eval ⟨dst, .call ⟨.builtin .append, #[x, y], #[t, u]⟩, ty, pos, after, none⟩ = execOp a.eval ⟨dst, .call ⟨.builtin .append, #[x, y], #[t, u]⟩, ty, pos, after, none⟩ := by
      cases hr : F.round with
      | none => rfl
      | some l => exact Oper.semAt_some l _ _ (fun c hc => by cases hc)
    rw [this, exec_append _ _ _ _ _ _ h]
    exact hK _ _ hk

theorem i_append {t e : TypeId} [El P t e] {agg : Bool} {size bytes : Nat} {z : Value} [Sz P e agg size] [Zr P e z] [By P e bytes] {x y : Operand} {v yv : Value} {n m : Nat} {xs news : List Value} {L' : Value → List Chunk} (hS : St S w W L)
    (hx : a.eval x = v) (hy : a.eval y = yv) (hu : ∀ v', Upd L (own e size v n xs) (own e size v' (n + m) (xs ++ news)) (L' v')) (hzs : (decide (z.cells.size = size) && decide (0 < size)) = true)
    (hr : RdS W size yv m news) (h1 : ∀ u ∈ news, u.oneCell' = true) (hb : n + m ≤ 140737488355328) (hbytes : (n + m) * bytes ≤ 140737488355328)
    (hk : ∀ v' W', St S w W' (L' v') → (v' = .slice none 0 0 ↔ v = .slice none 0 0 ∧ m = 0) → wpListIn F fn P ops Q rest (a.put dst v') W') :
    wpListIn F fn P ops Q (⟨dst, .call ⟨.builtin .append, #[x, y], #[t, t]⟩, ty, pos, after, none⟩ :: rest) a W := by
  simp only [Bool.and_eq_true, decide_eq_true_eq] at hzs
  obtain ⟨v', W', hrun, g1, g2, g3, g4⟩ := run_append_rd (P := P) (t := t) hzs.1 hzs.2 ty W (hS.ok _ (hu v).mem).1 hr h1 hb hbytes
  exact wpListIn_append (by rw [hx, hy]; exact hrun) (hk v' W' (hS.append (hu v') g1 g2 g4) g3)
end

end Go.Proofs.YtaejmginhkbbhaaGreatDoor
