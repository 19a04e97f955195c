/- The seat's own program logic: a list of chunks (blocks, or groups of blocks, that a call may write) with a frame; a region of open order by one relation over what is done so far. Conditions: none; over any program. -/
import Derived.WalkKit
import Derived.OrdersIn
import Derived.OwnWalkIn
namespace Go.Proofs.YtaejmginhkbbhaaGreatDoor
open Go Go.RowKit

/-! ### Frames -/

/-- From w to W only the blocks of S (and new ones) may have turned. -/
structure Fr (S : List Nat) (w W : World) : Prop where
  os : W.os = w.os
  tape : W.tape = w.tape
  output : W.output = w.output
  size : w.heap.size ≤ W.heap.size
  block : ∀ k, k < w.heap.size → k ∉ S → W.heap[k]? = w.heap[k]?

theorem Fr.refl (S : List Nat) (w : World) : Fr S w w := ⟨rfl, rfl, rfl, Nat.le_refl _, fun _ _ _ => rfl⟩
theorem Fr.trans {S : List Nat} {a b c : World} (h : Fr S a b) (k : Fr S b c) : Fr S a c :=
  ⟨k.os.trans h.os, k.tape.trans h.tape, k.output.trans h.output, Nat.le_trans h.size k.size, fun i hi hn => (k.block i (Nat.lt_of_lt_of_le hi h.size) hn).trans (h.block i hi hn)⟩
theorem Fr.mono {S T : List Nat} {a b : World} (h : Fr S a b) (hs : ∀ k ∈ S, k < a.heap.size → k ∈ T) : Fr T a b :=
  ⟨h.os, h.tape, h.output, h.size, fun i hi hn => h.block i hi (fun hk => hn (hs i hk hi))⟩
theorem Fr.below {w W : World} (h : Fr [] w W) : Below w.heap.size w W := ⟨h.os, h.tape, h.output, h.size, fun k hk => h.block k hk (by simp)⟩
theorem Fr.of_below {w W : World} (h : Below w.heap.size w W) : Fr [] w W := ⟨h.os, h.tape, h.output, h.size, fun k hk _ => h.block k hk⟩
theorem Fr.alloc (S : List Nat) (w : World) (o : Obj) : Fr S w (w.alloc o) := ⟨rfl, rfl, rfl, by simp, fun k hk _ => Below.heap_alloc w o k hk⟩
theorem Fr.drew (S : List Nat) (w : World) : Fr S w w.drew := ⟨rfl, rfl, rfl, Nat.le_refl _, fun _ _ _ => rfl⟩
theorem Fr.cell {S : List Nat} {w W : World} (h : Fr S w W) {b o : Nat} {v : Value} (hb : b ∉ S) (hc : w.cell? ⟨b, o, none⟩ = some v) : W.cell? ⟨b, o, none⟩ = some v := by
  have hl := World.block_lt_of_cell? w ⟨b, o, none⟩ hc
  exact (World.cell?_of_block (w := w) (h.block b hl hb)).trans hc

/-! ### Chunks -/

structure Chunk where
  fp : List Nat
  ok : World → Prop
  loc : ∀ W W', (∀ b ∈ fp, W'.heap[b]? = W.heap[b]?) → ok W → ok W'

def blk (b : Nat) (o : Obj) : Chunk := ⟨[b], fun W => W.heap[b]? = some o, fun W W' h k => (h b (by simp)).trans k⟩
/-- A block of cells. -/
def row (b : Nat) (t : TypeId) (cs : List Value) : Chunk := blk b (.cells ⟨cs⟩ t (0, 0))
/-- A slice that grows, in memory of the call's own. -/
def own (e : TypeId) (size : Nat) (v : Value) (n : Nat) (xs : List Value) : Chunk :=
  ⟨v.ownBlock.toList, fun W => W.ownsRow 0 e size v n xs, fun W W' h k => by
    refine ⟨k.1, ?_⟩
    rcases k.2 with hn | ⟨g, cap, cur, rfl, hb, hgg, rest⟩
    · exact .inl hn
    · exact .inr ⟨g, cap, cur, rfl, hb, (h g (by simp [Value.ownBlock])).trans hgg, rest⟩⟩

inductive Has : List Chunk → Chunk → Prop
  | head {L : List Chunk} {c : Chunk} : Has (c :: L) c
  | tail {L : List Chunk} {c d : Chunk} (h : Has L c) : Has (d :: L) c
inductive Upd : List Chunk → Chunk → Chunk → List Chunk → Prop
  | head {L : List Chunk} {c c' : Chunk} : Upd (c :: L) c c' (c' :: L)
  | tail {L L' : List Chunk} {c c' d : Chunk} (h : Upd L c c' L') : Upd (d :: L) c c' (d :: L')

theorem Has.mem {L : List Chunk} {c : Chunk} (h : Has L c) : c ∈ L := by
  induction h with
  | head => simp
  | tail _ ih => simp [ih]

/-- The state of a call that began in w: W is the world now, L what the call may write and what it holds. -/
structure St (S : List Nat) (w W : World) (L : List Chunk) : Prop where
  fr : Fr S w W
  sep : L.Pairwise fun c d => ∀ b ∈ c.fp, b ∉ d.fp
  ok : ∀ c ∈ L, c.ok W ∧ ∀ b ∈ c.fp, b < W.heap.size ∧ (w.heap.size ≤ b ∨ b ∈ S)

section
variable {S : List Nat} {w W W' : World} {L L' : List Chunk} {c c' : Chunk}

theorem St.start (S : List Nat) (w : World) : St S w w [] := ⟨Fr.refl _ _, List.Pairwise.nil, fun _ h => by cases h⟩

theorem St.get (h : St S w W L) (hc : Has L c) : c.ok W := (h.ok c hc.mem).1

theorem St.drop (h : St S w W (c :: L)) : St S w W L := ⟨h.fr, (List.pairwise_cons.1 h.sep).2, fun d hd => h.ok d (by simp [hd])⟩

theorem Upd.has {d : Chunk} (h : Upd L c c' L') (hd : d ∈ L') : d = c' ∨ d ∈ L := by
  induction h with
  | head => rcases List.mem_cons.1 hd with h | h <;> simp [h]
  | tail _ ih => rcases List.mem_cons.1 hd with h | h
                 · simp [h]
                 · rcases ih h with h | h <;> simp [h]
theorem Upd.mem (h : Upd L c c' L') : c ∈ L := by
  induction h with
  | head => simp
  | tail _ ih => simp [ih]

/-- Chunks other than c keep what they hold; c' takes c's place. -/
theorem Upd.sep (h : Upd L c c' L') : ∀ (_ : L.Pairwise fun c d => ∀ b ∈ c.fp, b ∉ d.fp), (∀ d ∈ L, ∀ b ∈ d.fp, b < W.heap.size) → (∀ b ∈ c'.fp, b ∈ c.fp ∨ W.heap.size ≤ b) → (L'.Pairwise fun c d => ∀ b ∈ c.fp, b ∉ d.fp) := by
  induction h with
  | @head L c c' =>
    intro hs hl hn
    rw [List.pairwise_cons] at hs ⊢
    refine ⟨fun d hd b hb hbd => ?_, hs.2⟩
    rcases hn b hb with h | h
    · exact hs.1 d hd b h hbd
    · have := hl d (by simp [hd]) b hbd; omega
  | @tail L L' c c' d h ih =>
    intro hs hl hn
    rw [List.pairwise_cons] at hs ⊢
    refine ⟨fun e he b hb hbe => ?_, ih hs.2 (fun x hx => hl x (by simp [hx])) hn⟩
    rcases h.has he with rfl | he
    · rcases hn b hbe with h1 | h1
      · exact hs.1 c h.mem b hb h1
      · have := hl d (by simp) b hb; omega
    · exact hs.1 e he b hb hbe

theorem Upd.other (h : Upd L c c' L') : ∀ (_ : L.Pairwise fun c d => ∀ b ∈ c.fp, b ∉ d.fp) (d : Chunk), d ∈ L' → d = c' ∨ (d ∈ L ∧ ∀ b ∈ d.fp, b ∉ c.fp) := by
  induction h with
  | @head L c c' =>
    intro hs d hd
    rcases List.mem_cons.1 hd with rfl | hd
    · exact .inl rfl
    · exact .inr ⟨by simp [hd], fun b hb hbc => (List.pairwise_cons.1 hs).1 d hd b hbc hb⟩
  | @tail L L' c c' e h ih =>
    intro hs d hd
    rw [List.pairwise_cons] at hs
    rcases List.mem_cons.1 hd with rfl | hd
    · exact .inr ⟨by simp, fun b hb hbc => hs.1 c h.mem b hb hbc⟩
    · rcases ih hs.2 d hd with rfl | ⟨h1, h2⟩
      · exact .inl rfl
      · exact .inr ⟨by simp [h1], h2⟩

/-- One chunk turns; the rest of memory stays. -/
theorem St.step (h : St S w W L) (hu : Upd L c c' L') (hf : Fr c.fp W W') (hok : c'.ok W') (hn : ∀ b ∈ c'.fp, b < W'.heap.size ∧ (b ∈ c.fp ∨ W.heap.size ≤ b)) : St S w W' L' := by
  refine ⟨?_, hu.sep (W := W) h.sep (fun d hd b hb => ((h.ok d hd).2 b hb).1) (fun b hb => (hn b hb).2), fun d hd => ?_⟩
  · refine ⟨hf.os.trans h.fr.os, hf.tape.trans h.fr.tape, hf.output.trans h.fr.output, Nat.le_trans h.fr.size hf.size, fun k hk hnS => ?_⟩
    rw [hf.block k (Nat.lt_of_lt_of_le hk h.fr.size) (fun hc => ?_)]
    · exact h.fr.block k hk hnS
    · rcases ((h.ok c hu.mem).2 k hc).2 with h1 | h1
      · omega
      · exact hnS h1
  · rcases hu.other h.sep d hd with rfl | ⟨h1, h2⟩
    · refine ⟨hok, fun b hb => ⟨(hn b hb).1, ?_⟩⟩
      rcases (hn b hb).2 with h3 | h3
      · exact ((h.ok c hu.mem).2 b h3).2
      · exact .inl (Nat.le_trans h.fr.size h3)
    · obtain ⟨h3, h4⟩ := h.ok d h1
      exact ⟨d.loc W W' (fun b hb => hf.block b (h4 b hb).1 (h2 b hb)) h3, fun b hb => ⟨Nat.lt_of_lt_of_le (h4 b hb).1 hf.size, (h4 b hb).2⟩⟩

/-- Nothing of the old turns. -/
theorem St.keep (h : St S w W L) (hf : Fr [] W W') : St S w W' L := by
  refine ⟨h.fr.trans (hf.mono (by simp)), h.sep, fun d hd => ?_⟩
  · obtain ⟨h3, h4⟩ := h.ok d hd
    exact ⟨d.loc W W' (fun b hb => hf.block b (h4 b hb).1 (by simp)) h3, fun b hb => ⟨Nat.lt_of_lt_of_le (h4 b hb).1 hf.size, (h4 b hb).2⟩⟩

/-- Nothing of the old turns, and there is something new. -/
theorem St.add (h : St S w W L) (hf : Fr [] W W') (hok : c'.ok W') (hn : ∀ b ∈ c'.fp, b < W'.heap.size ∧ W.heap.size ≤ b) : St S w W' (c' :: L) := by
  have hk := h.keep hf
  refine ⟨hk.fr, List.pairwise_cons.2 ⟨fun d hd b hb hbd => ?_, h.sep⟩, fun d hd => ?_⟩
  · have := ((h.ok d hd).2 b hbd).1
    have := (hn b hb).2
    omega
  · rcases List.mem_cons.1 hd with rfl | hd
    · exact ⟨hok, fun b hb => ⟨(hn b hb).1, .inl (Nat.le_trans h.fr.size (hn b hb).2)⟩⟩
    · exact hk.ok d hd

theorem St.drew (h : St S w W L) : St S w W.drew L := h.keep (Fr.drew _ _)

theorem St.alloc (h : St S w W L) (t : TypeId) (cs : List Value) : St S w (W.alloc (.cells ⟨cs⟩ t)) (row W.heap.size t cs :: L) :=
  h.add (Fr.alloc _ _ _) (by show (W.alloc _).heap[W.heap.size]? = _; exact heap_alloc_new W _) (fun b hb => by simp [row, blk] at hb; subst hb; simp)
theorem St.allocObj (h : St S w W L) (o : Obj) : St S w (W.alloc o) (blk W.heap.size o :: L) :=
  h.add (Fr.alloc _ _ _) (by show (W.alloc _).heap[W.heap.size]? = _; exact heap_alloc_new W _) (fun b hb => by simp [blk] at hb; subst hb; simp)

theorem fr_setRow (W : World) (g : Nat) (cs : Array Value) : Fr [g] W (W.setRow g cs) :=
  ⟨rfl, rfl, rfl, by simp, fun k _ hn => setRow_other W g k cs (by simpa using hn)⟩

theorem St.setRow {b : Nat} {t : TypeId} {cs cs' : List Value} (h : St S w W L) (hu : Upd L (row b t cs) (row b t cs') L') : St S w (W.setRow b ⟨cs'⟩) L' := by
  have hc : W.heap[b]? = some (.cells ⟨cs⟩ t (0, 0)) := (h.ok _ hu.mem).1
  refine h.step hu (fr_setRow W b _) (setRow_heap W b _ _ t _ hc) (fun x hx => ?_)
  simp [row, blk] at hx
  subst hx
  exact ⟨by simp; exact (Array.getElem?_eq_some_iff.1 hc).1, .inl (by simp [row, blk])⟩

/-! ### Reading -/

/-- What can be read at a place. -/
def Rd (W : World) (b off : Nat) (cs : List Value) : Prop := ∀ j v, cs[j]? = some v → W.cell? ⟨b, off + j, none⟩ = some v

theorem Rd.fr {b off : Nat} {cs : List Value} (h : Rd w b off cs) (hf : Fr S w W) (hb : b ∉ S) : Rd W b off cs := fun j v hj => hf.cell hb (h j v hj)
theorem Rd.drop {b off : Nat} {cs : List Value} (h : Rd W b off cs) (k : Nat) : Rd W b (off + k) (cs.drop k) := fun j v hj => by
  rw [Nat.add_assoc]; exact h (k + j) v (by simpa using hj)
theorem Rd.take {b off : Nat} {cs : List Value} (h : Rd W b off cs) (k : Nat) : Rd W b off (cs.take k) := fun j v hj => by
  rw [List.getElem?_take] at hj
  split at hj
  · exact h j v hj
  · cases hj
theorem Rd.of_row {b : Nat} {t : TypeId} {cs : List Value} (h : (row b t cs).ok W) : Rd W b 0 cs := fun j v hj => by
  rw [Nat.zero_add, cell_of_row W b j _ t _ h]; simpa using hj
theorem St.rd {b : Nat} {t : TypeId} {cs : List Value} (h : St S w W L) (hc : Has L (row b t cs)) (off : Nat) : Rd W b off (cs.drop off) := by
  have := (Rd.of_row (h.get hc)).drop off
  rwa [Nat.zero_add] at this

theorem St.rd0 {b : Nat} {t : TypeId} {cs : List Value} (h : St S w W L) (hc : Has L (row b t cs)) : Rd W b 0 cs := Rd.of_row (h.get hc)
theorem addr_add (b off j : Nat) : (⟨b, off, none⟩ : Addr).add j = ⟨b, off + j, none⟩ := by unfold Addr.add; split <;> simp_all

end

/-! ### Sizes and zero values of types, as closed facts found by themselves -/

class Sz (P : Program) (t : TypeId) (agg : outParam Bool) (k : outParam Nat) : Prop where
  agg : (P.underlying t).map (fun d => match d with | .struct _ | .array _ _ => true | _ => false) = some agg
  size : (P.info? t).map (fun i => i.size) = some k
class Zr (P : Program) (t : TypeId) (z : outParam Value) : Prop where
  zero : (P.info? t).bind (fun i => i.zero) = some z

section
variable {P : Program}
theorem run_isAgg {t : TypeId} {agg : Bool} {k : Nat} [h : Sz P t agg k] (w : World) : (isAgg t).run P w = .ok agg w := by
  have h1 := h.agg
  cases hu : P.underlying t with
  | none => rw [hu] at h1; cases h1
  | some d =>
    rw [hu] at h1
    simp only [Option.map_some, Option.some.injEq] at h1
    unfold isAgg
    rw [Sem.run_bind, run_underlying hu w]
    cases d <;> simp_all
theorem run_sizeOf {t : TypeId} {agg : Bool} {k : Nat} [h : Sz P t agg k] (w : World) : (sizeOf t).run P w = .ok k w := by
  have h1 := h.size
  cases hu : P.info? t with
  | none => rw [hu] at h1; cases h1
  | some d =>
    rw [hu] at h1
    simp only [Option.map_some, Option.some.injEq] at h1
    simp [sizeOf, typeInfo, hu, h1]
theorem run_zeroValue' {t : TypeId} {z : Value} [h : Zr P t z] (w : World) : (zeroValue t).run P w = .ok z w := by
  have h1 := h.zero
  cases hu : P.info? t with
  | none => rw [hu] at h1; cases h1
  | some d =>
    rw [hu] at h1
    simp only [Option.bind_some] at h1
    simp [zeroValue, typeInfo, hu, h1]

/-- The value of k cells. -/
def takeV (agg : Bool) (k : Nat) (l : List Value) : Option Value := if agg then (if k ≤ l.length then some (.agg ⟨l.take k⟩) else none) else l.head?

theorem run_loadVar' {t : TypeId} {agg : Bool} {k : Nat} [Sz P t agg k] {w : World} {b off : Nat} {cs : List Value} {v : Value} (hr : Rd w b off cs) (hv : takeV agg k cs = some v) :
    (loadVar t ⟨b, off, none⟩).run P w = .ok v w := by
  unfold loadVar
  rw [Sem.run_bind, run_isAgg w]
  cases agg with
  | false =>
    cases cs with
    | nil => cases hv
    | cons c cs =>
      simp only [takeV, List.head?_cons, Bool.false_eq_true, if_false, Option.some.injEq] at hv
      subst hv
      have := hr 0 c rfl
      simp [load, Sem.run] at this ⊢
      rw [this]
  | true =>
    simp only [takeV, if_true] at hv
    split at hv
    · rename_i hk
      simp only [Option.some.injEq] at hv
      subst hv
      have hl : (cs.take k).length = k := by simp; omega
      have h := run_loadCells_list (P := P) w ⟨b, off, none⟩ (cs.take k) (fun j u hj => by rw [addr_add]; exact hr.take k j u hj)
      rw [hl] at h
      simp [Sem.run_bind, run_sizeOf w, h]
    · cases hv

/-- The cells with others laid over them from a place on. -/
def splice : List Value → Nat → List Value → List Value
  | [], _, _ => []
  | cs, 0, [] => cs
  | _ :: cs, 0, v :: vs => v :: splice cs 0 vs
  | c :: cs, o + 1, vs => c :: splice cs o vs

theorem splice_eq : ∀ (cs : List Value) (o : Nat) (vs : List Value), o + vs.length ≤ cs.length → splice cs o vs = cs.take o ++ vs ++ cs.drop (o + vs.length)
  | [], o, vs, h => by
    simp at h
    obtain ⟨rfl, rfl⟩ := h
    rfl
  | c :: cs, 0, [], _ => by simp [splice]
  | c :: cs, 0, v :: vs, h => by
    have := splice_eq cs 0 vs (by simp at h ⊢; omega)
    simp [splice, this]
  | c :: cs, o + 1, vs, h => by
    have := splice_eq cs o vs (by simp at h ⊢; omega)
    simp [splice, this, Nat.add_right_comm]

theorem run_storeVar' {t : TypeId} {agg : Bool} {k : Nat} [Sz P t agg k] {w : World} {b off : Nat} {t' : TypeId} {cs : List Value} {v : Value} (hg : (row b t' cs).ok w)
    (hk : v.cells.size = k) (hfit : off + k ≤ cs.length) (h1 : ∀ u ∈ v.cells.toList, u.oneCell' = true) :
    (storeVar t ⟨b, off, none⟩ v).run P w = .ok () (w.setRow b ⟨splice cs off v.cells.toList⟩) := by
  unfold storeVar
  have h := run_storeCells_at (P := P) b off t' v.cells.toList 0 ⟨cs⟩ w hg (by simp; omega) h1
  rw [splice_eq cs off v.cells.toList (by simp; omega)]
  simp only [Nat.add_zero] at h
  simp [Sem.run_bind, run_sizeOf w, hk, h]
end

/-- A value's cells, told constructor by constructor. -/
def cellsO : Value → Option (List Value)
  | .agg ⟨l⟩ => some l
  | .bool b => some [.bool b]
  | .int k n => some [.int k n]
  | .float k n => some [.float k n]
  | .complex k m n => some [.complex k m n]
  | .string s => some [.string s]
  | .pointer p => some [.pointer p]
  | .slice p n c => some [.slice p n c]
  | .map r => some [.map r]
  | .chan r => some [.chan r]
  | .func f x y => some [.func f x y]
  | .nilFunc => some [.nilFunc]
  | .iface t v => some [.iface t v]
  | .nilIface => some [.nilIface]
  | .tuple vs => some [.tuple vs]
theorem cellsO_eq {v : Value} {cs : List Value} (h : cellsO v = some cs) : v.cells = ⟨cs⟩ := by
  cases v <;> simp only [cellsO, Option.some.injEq] at h <;> first | (subst h; rfl) | rfl

/-! ### A step by what an operation's run comes to; both kinds of walk -/

section
variable {P : Program} {ops : Array Oper} {Q : Exit → Act → World → Prop} {a : Act} {W W' : World} {rest : List Oper} {o : Oper} {K : Act → World → Prop}

theorem wp_val {v : Value} (h : (execOp a.eval o).run P W = .ok (.value v) W') (hk : K (a.put o.dst v) W') : o.wp P a W K Q := by
  unfold Oper.wp; rw [h]; exact hk
theorem wp_skip' (h : (execOp a.eval o).run P W = .ok .skip W') (hk : K (a.put o.dst undef) W') : o.wp P a W K Q := by
  unfold Oper.wp; rw [h]; exact hk
theorem wpList_val {v : Value} (hg : o.guard = none) (h : (execOp a.eval o).run P W = .ok (.value v) W') (hk : wpList P ops Q rest (a.put o.dst v) W') : wpList P ops Q (o :: rest) a W :=
  wpList_plain hg fun _ hK => wp_val h (hK _ _ hk)
theorem wpList_skp (hg : o.guard = none) (h : (execOp a.eval o).run P W = .ok .skip W') (hk : wpList P ops Q rest (a.put o.dst undef) W') : wpList P ops Q (o :: rest) a W :=
  wpList_plain hg fun _ hK => wp_skip' h (hK _ _ hk)

variable {F : Fence} {n : Nat}
/-- What is no call and no defer. -/
def Oper.quietOp (o : Oper) : Bool := match o.op with | .call _ | .defer _ | .go _ => false | _ => true
theorem wpIn_val {v : Value} (hq : Oper.quietOp o = true) (h : (execOp a.eval o).run P W = .ok (.value v) W') (hk : K (a.put o.dst v) W') : o.wpIn F n P a W K Q := by
  refine ⟨fun f hf => ?_, ?_⟩
  · exfalso
    unfold Oper.about at hf
    unfold Oper.quietOp at hq
    split at hf <;> simp_all
  · have : Oper.semAt F.round a.eval o = execOp a.eval o := by
      cases hr : F.round with
      | none => rfl
      | some l => exact Oper.semAt_some l _ _ (fun c hc => by unfold Oper.quietOp at hq; rw [hc] at hq; cases hq)
    rw [this, h]; exact hk
theorem wpIn_skp {hq : Oper.quietOp o = true} (h : (execOp a.eval o).run P W = .ok .skip W') (hk : K (a.put o.dst undef) W') : o.wpIn F n P a W K Q := by
  refine ⟨fun f hf => ?_, ?_⟩
  · exfalso
    unfold Oper.about at hf
    unfold Oper.quietOp at hq
    split at hf <;> simp_all
  · have : Oper.semAt F.round a.eval o = execOp a.eval o := by
      cases hr : F.round with
      | none => rfl
      | some l => exact Oper.semAt_some l _ _ (fun c hc => by unfold Oper.quietOp at hq; rw [hc] at hq; cases hq)
    rw [this, h]; exact hk
theorem wpListIn_val {v : Value} (hg : o.guard = none) (hq : Oper.quietOp o = true) (h : (execOp a.eval o).run P W = .ok (.value v) W') (hk : wpListIn F n P ops Q rest (a.put o.dst v) W') : wpListIn F n P ops Q (o :: rest) a W :=
  wpListIn_plain hg fun _ hK => wpIn_val hq h (hK _ _ hk)
theorem wpListIn_skp (hg : o.guard = none) (hq : Oper.quietOp o = true) (h : (execOp a.eval o).run P W = .ok .skip W') (hk : wpListIn F n P ops Q rest (a.put o.dst undef) W') : wpListIn F n P ops Q (o :: rest) a W :=
  wpListIn_plain hg fun _ hK => wpIn_skp (hq := hq) h (hK _ _ hk)
end

/-! ### Memory operations over the chunks -/

section
variable {P : Program} {ops : Array Oper} {Q : Exit → Act → World → Prop} {a : Act} {S : List Nat} {w W : World} {L L' : List Chunk} {rest : List Oper}
  {dst : Option Tmp} {ty : TypeId} {pos : String} {after : Array Edge}

theorem run_box (ρ : Operand → Value) (W : World) (t : TypeId) (x : Operand) : (execOp ρ ⟨dst, .box t x, ty, pos, after, none⟩).run P W = .ok (.value (.pointer (some ⟨W.heap.size, 0, none⟩))) (W.alloc (.cells (ρ x).cells t)) := by
  simp [execOp, Instr.box, newVar, newRow]
theorem run_alloc (ρ : Operand → Value) (W : World) (t : TypeId) {z : Value} [Zr P t z] : (execOp ρ ⟨dst, .alloc t, ty, pos, after, none⟩).run P W = .ok (.value (.pointer (some ⟨W.heap.size, 0, none⟩))) (W.alloc (.cells z.cells t)) := by
  simp [execOp, Instr.alloc, newVar, newRow, run_zeroValue' (P := P) (t := t)]
theorem run_load {ρ : Operand → Value} {W : World} {t : TypeId} {x : Operand} {agg : Bool} {k : Nat} [Sz P t agg k] {b off : Nat} {cs : List Value} {v : Value} {g : Option (Nat × Bool)} (hx : ρ x = .pointer (some ⟨b, off, none⟩)) (hr : Rd W b off cs) (hv : takeV agg k cs = some v) :
    (execOp ρ ⟨dst, .load t x, ty, pos, after, g⟩).run P W = .ok (.value v) W := by
  simp [execOp, Instr.loadAt, Instr.sureAddr, hx, run_loadVar' (P := P) hr hv]
theorem run_store' {ρ : Operand → Value} {W : World} {t : TypeId} {x y : Operand} {agg : Bool} {k : Nat} [Sz P t agg k] {b off : Nat} {t' : TypeId} {cs : List Value} {g : Option (Nat × Bool)} (hx : ρ x = .pointer (some ⟨b, off, none⟩)) (hg : (row b t' cs).ok W)
    (hk : (ρ y).cells.size = k) (hfit : off + k ≤ cs.length) (h1 : ∀ u ∈ (ρ y).cells.toList, u.oneCell' = true) :
    (execOp ρ ⟨dst, .store t x y, ty, pos, after, g⟩).run P W = .ok .skip (W.setRow b ⟨splice cs off (ρ y).cells.toList⟩) := by
  simp [execOp, Instr.storeAt, Instr.sureAddr, hx, run_storeVar' (P := P) hg hk hfit h1]

/-- A new variable with a value. -/
theorem l_box {t : TypeId} {x : Operand} {cs : List Value} (hS : St S w W L) (hx : cellsO (a.eval x) = some cs)
    (hk : ∀ b W', St S w W' (row b t cs :: L) → wpList P ops Q rest (a.put dst (.pointer (some ⟨b, 0, none⟩))) W') : wpList P ops Q (⟨dst, .box t x, ty, pos, after, none⟩ :: rest) a W :=
  wpList_val rfl (run_box _ _ _ _) (by rw [cellsO_eq hx]; exact hk _ _ (hS.alloc t cs))
/-- A new variable, zero. -/
theorem l_alloc {t : TypeId} {z : Value} [Zr P t z] {cs : List Value} (hS : St S w W L) (hx : cellsO z = some cs)
    (hk : ∀ b W', St S w W' (row b t cs :: L) → wpList P ops Q rest (a.put dst (.pointer (some ⟨b, 0, none⟩))) W') : wpList P ops Q (⟨dst, .alloc t, ty, pos, after, none⟩ :: rest) a W :=
  wpList_val rfl (run_alloc _ _ _) (by rw [cellsO_eq hx]; exact hk _ _ (hS.alloc t cs))
/-- A variable of the call's own is read. -/
theorem l_load {t : TypeId} {x : Operand} {agg : Bool} {k : Nat} [Sz P t agg k] {b off : Nat} {t' : TypeId} {cs : List Value} {v : Value} (hS : St S w W L) (hx : a.eval x = .pointer (some ⟨b, off, none⟩)) (hc : Has L (row b t' cs)) (hv : takeV agg k (cs.drop off) = some v)
    (hk : wpList P ops Q rest (a.put dst v) W) : wpList P ops Q (⟨dst, .load t x, ty, pos, after, none⟩ :: rest) a W :=
  wpList_val rfl (run_load hx (hS.rd hc off) hv) hk
/-- Any place that can be read. -/
theorem l_read {t : TypeId} {x : Operand} {agg : Bool} {k : Nat} [Sz P t agg k] {b off : Nat} {cs : List Value} {v : Value} (hx : a.eval x = .pointer (some ⟨b, off, none⟩)) (hr : Rd W b off cs) (hv : takeV agg k cs = some v)
    (hk : wpList P ops Q rest (a.put dst v) W) : wpList P ops Q (⟨dst, .load t x, ty, pos, after, none⟩ :: rest) a W :=
  wpList_val rfl (run_load hx hr hv) hk
/-- A variable of the call's own is written. -/
theorem l_store {t : TypeId} {x y : Operand} {agg : Bool} {k : Nat} [Sz P t agg k] {b off : Nat} {t' : TypeId} {cs vs : List Value} (hS : St S w W L) (hx : a.eval x = .pointer (some ⟨b, off, none⟩)) (hy : cellsO (a.eval y) = some vs) (hu : Upd L (row b t' cs) (row b t' (splice cs off vs)) L')
    (hn : (decide (vs.length = k) && decide (off + k ≤ cs.length) && vs.all Value.oneCell') = true)
    (hk : ∀ W', St S w W' L' → wpList P ops Q rest (a.put dst undef) W') : wpList P ops Q (⟨dst, .store t x y, ty, pos, after, none⟩ :: rest) a W := by
  simp only [Bool.and_eq_true, decide_eq_true_eq, List.all_eq_true] at hn
  have := run_store' (P := P) (dst := dst) (ty := ty) (pos := pos) (after := after) (g := none) (t := t) (y := y) hx ((hS.ok _ hu.mem).1) (by rw [cellsO_eq hy]; exact hn.1.1) hn.1.2 (by rw [cellsO_eq hy]; exact hn.2)
  rw [cellsO_eq hy] at this
  exact wpList_skp rfl this (hk _ (hS.setRow hu))

/-- A variable of the call's own is written whole. -/
theorem splice_full (cs vs : List Value) (h : vs.length = cs.length) : splice cs 0 vs = vs := by
  rw [splice_eq cs 0 vs (by omega)]
  simp
  omega
theorem l_storeF {t : TypeId} {x y : Operand} {agg : Bool} {k : Nat} [Sz P t agg k] {b : Nat} {t' : TypeId} {cs vs : List Value} (hS : St S w W L) (hx : a.eval x = .pointer (some ⟨b, 0, none⟩)) (hy : cellsO (a.eval y) = some vs) (hu : Upd L (row b t' cs) (row b t' vs) L')
    (hn : (decide (vs.length = k) && decide (cs.length = k) && vs.all Value.oneCell') = true)
    (hk : ∀ W', St S w W' L' → wpList P ops Q rest (a.put dst undef) W') : wpList P ops Q (⟨dst, .store t x y, ty, pos, after, none⟩ :: rest) a W := by
  have hn' := hn
  simp only [Bool.and_eq_true, decide_eq_true_eq, List.all_eq_true] at hn'
  have e := splice_full cs vs (by omega)
  refine l_store (off := 0) (cs := cs) hS hx hy (by rw [e]; exact hu) ?_ hk
  simp only [Bool.and_eq_true, decide_eq_true_eq, List.all_eq_true]
  exact ⟨⟨hn'.1.1, by omega⟩, hn'.2⟩

variable {F : Fence} {n : Nat}
theorem i_box {t : TypeId} {x : Operand} {cs : List Value} (hS : St S w W L) (hx : cellsO (a.eval x) = some cs)
    (hk : ∀ b W', St S w W' (row b t cs :: L) → wpListIn F n P ops Q rest (a.put dst (.pointer (some ⟨b, 0, none⟩))) W') : wpListIn F n P ops Q (⟨dst, .box t x, ty, pos, after, none⟩ :: rest) a W :=
  wpListIn_val rfl rfl (run_box _ _ _ _) (by rw [cellsO_eq hx]; exact hk _ _ (hS.alloc t cs))
theorem i_alloc {t : TypeId} {z : Value} [Zr P t z] {cs : List Value} (hS : St S w W L) (hx : cellsO z = some cs)
    (hk : ∀ b W', St S w W' (row b t cs :: L) → wpListIn F n P ops Q rest (a.put dst (.pointer (some ⟨b, 0, none⟩))) W') : wpListIn F n P ops Q (⟨dst, .alloc t, ty, pos, after, none⟩ :: rest) a W :=
  wpListIn_val rfl rfl (run_alloc _ _ _) (by rw [cellsO_eq hx]; exact hk _ _ (hS.alloc t cs))
theorem i_load {t : TypeId} {x : Operand} {agg : Bool} {k : Nat} [Sz P t agg k] {b off : Nat} {t' : TypeId} {cs : List Value} {v : Value} (hS : St S w W L) (hx : a.eval x = .pointer (some ⟨b, off, none⟩)) (hc : Has L (row b t' cs)) (hv : takeV agg k (cs.drop off) = some v)
    (hk : wpListIn F n P ops Q rest (a.put dst v) W) : wpListIn F n P ops Q (⟨dst, .load t x, ty, pos, after, none⟩ :: rest) a W :=
  wpListIn_val rfl rfl (run_load hx (hS.rd hc off) hv) hk
theorem i_read {t : TypeId} {x : Operand} {agg : Bool} {k : Nat} [Sz P t agg k] {b off : Nat} {cs : List Value} {v : Value} (hx : a.eval x = .pointer (some ⟨b, off, none⟩)) (hr : Rd W b off cs) (hv : takeV agg k cs = some v)
    (hk : wpListIn F n P ops Q rest (a.put dst v) W) : wpListIn F n P ops Q (⟨dst, .load t x, ty, pos, after, none⟩ :: rest) a W :=
  wpListIn_val rfl rfl (run_load hx hr hv) hk
theorem i_store {t : TypeId} {x y : Operand} {agg : Bool} {k : Nat} [Sz P t agg k] {b off : Nat} {t' : TypeId} {cs vs : List Value} (hS : St S w W L) (hx : a.eval x = .pointer (some ⟨b, off, none⟩)) (hy : cellsO (a.eval y) = some vs) (hu : Upd L (row b t' cs) (row b t' (splice cs off vs)) L')
    (hn : (decide (vs.length = k) && decide (off + k ≤ cs.length) && vs.all Value.oneCell') = true)
    (hk : ∀ W', St S w W' L' → wpListIn F n P ops Q rest (a.put dst undef) W') : wpListIn F n P ops Q (⟨dst, .store t x y, ty, pos, after, none⟩ :: rest) a W := by
  simp only [Bool.and_eq_true, decide_eq_true_eq, List.all_eq_true] at hn
  have := run_store' (P := P) (dst := dst) (ty := ty) (pos := pos) (after := after) (g := none) (t := t) (y := y) hx ((hS.ok _ hu.mem).1) (by rw [cellsO_eq hy]; exact hn.1.1) hn.1.2 (by rw [cellsO_eq hy]; exact hn.2)
  rw [cellsO_eq hy] at this
  exact wpListIn_skp rfl rfl this (hk _ (hS.setRow hu))
theorem i_storeF {t : TypeId} {x y : Operand} {agg : Bool} {k : Nat} [Sz P t agg k] {b : Nat} {t' : TypeId} {cs vs : List Value} (hS : St S w W L) (hx : a.eval x = .pointer (some ⟨b, 0, none⟩)) (hy : cellsO (a.eval y) = some vs) (hu : Upd L (row b t' cs) (row b t' vs) L')
    (hn : (decide (vs.length = k) && decide (cs.length = k) && vs.all Value.oneCell') = true)
    (hk : ∀ W', St S w W' L' → wpListIn F n P ops Q rest (a.put dst undef) W') : wpListIn F n P ops Q (⟨dst, .store t x y, ty, pos, after, none⟩ :: rest) a W := by
  have hn' := hn
  simp only [Bool.and_eq_true, decide_eq_true_eq, List.all_eq_true] at hn'
  have e := splice_full cs vs (by omega)
  refine i_store (off := 0) (cs := cs) hS hx hy (by rw [e]; exact hu) ?_ hk
  simp only [Bool.and_eq_true, decide_eq_true_eq, List.all_eq_true]
  exact ⟨⟨hn'.1.1, by omega⟩, hn'.2⟩
end

end Go.Proofs.YtaejmginhkbbhaaGreatDoor
