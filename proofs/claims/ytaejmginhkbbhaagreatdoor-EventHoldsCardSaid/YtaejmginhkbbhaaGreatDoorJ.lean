/- The seat's own program logic, third part: how a call returns what lies in memory. Conditions: none; over any program. -/
import Derived.Test.YtaejmginhkbbhaaGreatDoorT
import Derived.WalkLawsBesides
import Derived.WalkSpells
import Derived.Deep.Draws
import Derived.Lib.ConvBytes
import Derived.Laws.IdiomStrings
set_option linter.unusedSimpArgs false
set_option linter.unusedVariables false
set_option maxRecDepth 100000
set_option maxHeartbeats 1000000
namespace Go.Proofs.YtaejmginhkbbhaaGreatDoor
open Go Go.RowKit

section
variable {P : Program} {fn : Func} {R : Ending → World → Prop} {a : Act} {S : List Nat} {w W : World} {L : List Chunk}

/-- One result that lies in a variable. -/
theorem results_c1 {tmps : Array Value} {p : Tmp} {t : TypeId} {agg : Bool} {k : Nat} [Sz P t agg k] {b off : Nat} {t' : TypeId} {cs : List Value} {v : Value} (h : fn.results = #[.cell p t]) (hS : St S w W L)
    (hx : tmps.getD p undef = .pointer (some ⟨b, off, none⟩)) (hc : Has L (row b t' cs)) (hv : takeV agg k (cs.drop off) = some v) : (results fn tmps).run P W = .ok v W := by
  have hp : tmps[p]?.getD undef = .pointer (some ⟨b, off, none⟩) := by simpa using hx
  simp [results, h, hp, asAddr, run_loadVar' (P := P) (hS.rd hc off) hv]
theorem results_c2 {tmps : Array Value} {p q : Tmp} {t u : TypeId} {agg agg' : Bool} {k k' : Nat} [Sz P t agg k] [Sz P u agg' k'] {b off b' off' : Nat} {t1 t2 : TypeId} {cs cs' : List Value} {v v' : Value} (h : fn.results = #[.cell p t, .cell q u]) (hS : St S w W L)
    (hx : tmps.getD p undef = .pointer (some ⟨b, off, none⟩)) (hc : Has L (row b t1 cs)) (hv : takeV agg k (cs.drop off) = some v)
    (hx' : tmps.getD q undef = .pointer (some ⟨b', off', none⟩)) (hc' : Has L (row b' t2 cs')) (hv' : takeV agg' k' (cs'.drop off') = some v') : (results fn tmps).run P W = .ok (.tuple #[v, v']) W := by
  have hp : tmps[p]?.getD undef = .pointer (some ⟨b, off, none⟩) := by simpa using hx
  have hq : tmps[q]?.getD undef = .pointer (some ⟨b', off', none⟩) := by simpa using hx'
  simp [results, h, hp, hq, asAddr, run_loadVar' (P := P) (hS.rd hc off) hv, run_loadVar' (P := P) (hS.rd hc' off') hv']
theorem results_c3 {tmps : Array Value} {p q r : Tmp} {t u x : TypeId} {agg agg' agg2 : Bool} {k k' k2 : Nat} [Sz P t agg k] [Sz P u agg' k'] [Sz P x agg2 k2] {b off b' off' b2 off2 : Nat} {t1 t2 t3 : TypeId} {cs cs' cs2 : List Value} {v v' v2 : Value} (h : fn.results = #[.cell p t, .cell q u, .cell r x]) (hS : St S w W L)
    (hx : tmps.getD p undef = .pointer (some ⟨b, off, none⟩)) (hc : Has L (row b t1 cs)) (hv : takeV agg k (cs.drop off) = some v)
    (hx' : tmps.getD q undef = .pointer (some ⟨b', off', none⟩)) (hc' : Has L (row b' t2 cs')) (hv' : takeV agg' k' (cs'.drop off') = some v')
    (hx2 : tmps.getD r undef = .pointer (some ⟨b2, off2, none⟩)) (hc2 : Has L (row b2 t3 cs2)) (hv2 : takeV agg2 k2 (cs2.drop off2) = some v2) : (results fn tmps).run P W = .ok (.tuple #[v, v', v2]) W := by
  have hp : tmps[p]?.getD undef = .pointer (some ⟨b, off, none⟩) := by simpa using hx
  have hq : tmps[q]?.getD undef = .pointer (some ⟨b', off', none⟩) := by simpa using hx'
  have hr : tmps[r]?.getD undef = .pointer (some ⟨b2, off2, none⟩) := by simpa using hx2
  simp [results, h, hp, hq, hr, asAddr, run_loadVar' (P := P) (hS.rd hc off) hv, run_loadVar' (P := P) (hS.rd hc' off') hv', run_loadVar' (P := P) (hS.rd hc2 off2) hv2]
end

@[go_sem] theorem run_makeFunc (P : Program) (fn : Fn) (first cap : Array Value) (w : World) : (Instr.makeFunc fn first cap).run P w = .ok (.func fn first cap) w := rfl
theorem St.drewN {S : List Nat} {w W : World} {L : List Chunk} (h : St S w W L) (n : Nat) : St S w (W.drewN n) L := h.keep ⟨rfl, rfl, rfl, Nat.le_refl _, fun _ _ _ => rfl⟩
theorem Fr.drewN (S : List Nat) (w : World) (n : Nat) : Fr S w (w.drewN n) := ⟨rfl, rfl, rfl, Nat.le_refl _, fun _ _ _ => rfl⟩

/-! ### A region of open order: one relation over what is done so far -/

def up (b : Nat → Bool) (i : Nat) : Nat → Bool := fun j => if j = i then true else b j
theorem up_self (b : Nat → Bool) (i : Nat) : up b i i = true := by simp [up]
theorem up_ne {b : Nat → Bool} {i j : Nat} (h : j ≠ i) : up b i j = b j := by simp [up, h]

/-- What an operation waits for, in orders that bind at all. -/
def deps (o : Oper) : List Nat := (o.after.toList.filter (fun e => Region.binds .any e)).map (fun e => e.on)
/-- Each operation waits for earlier ones alone. -/
def depsOk (ops : Array Oper) : Bool := (List.range ops.size).all fun i => match ops[i]? with | some o => (deps o).all (fun d => decide (d < i)) | none => false

section
variable {ops : Array Oper}
theorem depsOk_at (h : depsOk ops = true) {i : Nat} {o : Oper} (ho : ops[i]? = some o) : ∀ d ∈ deps o, d < i := by
  have hi : i < ops.size := (Array.getElem?_eq_some_iff.1 ho).1
  have := List.all_eq_true.1 h i (List.mem_range.2 hi)
  rw [ho] at this
  simpa using this
theorem ready_iff {listed : Array Bool} {i : Nat} : i ∈ Region.ready .any ops listed ↔ ∃ o, ops[i]? = some o ∧ listed.getD i true = false ∧ ∀ d ∈ deps o, listed.getD d false = true := by
  unfold Region.ready
  rw [List.mem_filter, List.mem_range]
  constructor
  · rintro ⟨hi, h⟩
    have ho : ops[i]? = some ops[i] := Array.getElem?_eq_getElem hi
    refine ⟨ops[i], ho, ?_⟩
    rw [ho] at h
    simp only [Bool.and_eq_true, Bool.not_eq_true', Option.map_some, Option.getD_some] at h
    refine ⟨h.1, fun d hd => ?_⟩
    obtain ⟨e, he, rfl⟩ := List.mem_map.1 hd
    rw [List.mem_filter] at he
    have h2 := h.2
    rw [← Array.all_toList, List.all_eq_true] at h2
    have := h2 e he.1
    simpa [he.2] using this
  · rintro ⟨o, ho, h1, h2⟩
    refine ⟨(Array.getElem?_eq_some_iff.1 ho).1, ?_⟩
    rw [ho]
    simp only [h1, Bool.not_false, Bool.true_and, Option.map_some, Option.getD_some]
    rw [← Array.all_toList, List.all_eq_true]
    intro e he
    by_cases hb : Region.binds .any e = true
    · have := h2 e.on (List.mem_map.2 ⟨e, List.mem_filter.2 ⟨he, hb⟩, rfl⟩)
      simp [this]
    · simp [hb]

/-- The engine, over whatever one step means. -/
def anyG (ops : Array Oper) (Q0 : Act → World → Prop) (Stp : Nat → (Act → World → Prop) → Act → World → Prop) : Nat → Array Bool → Act → World → Prop
  | 0, listed, a, w => Region.ready .any ops listed = [] ∧ Q0 a w
  | fuel + 1, listed, a, w =>
    (Region.ready .any ops listed = [] → Q0 a w) ∧
    ∀ i ∈ Region.ready .any ops listed, Stp i (anyG ops Q0 Stp fuel (listed.setIfInBounds i true)) a w

theorem anyG_inv {Q0 : Act → World → Prop} {Stp : Nat → (Act → World → Prop) → Act → World → Prop} (hd : depsOk ops = true) (I : (Nat → Bool) → Act → World → Prop)
    (hmono : ∀ i (K K' : Act → World → Prop) a w, (∀ a w, K a w → K' a w) → Stp i K a w → Stp i K' a w)
    (hstep : ∀ i o, ops[i]? = some o → ∀ b a w, I b a w → b i = false → (∀ d ∈ deps o, b d = true) → Stp i (I (up b i)) a w)
    (hend : ∀ b a w, (∀ j, j < ops.size → b j = true) → I b a w → Q0 a w) :
    ∀ (m : Nat) (listed : Array Bool) (b : Nat → Bool) (a : Act) (w : World), listed.size = ops.size → (∀ j, j < ops.size → listed.getD j false = b j) → ((List.range ops.size).filter fun j => !b j).length = m → I b a w → anyG ops Q0 Stp m listed a w := by
  have hall : ∀ (listed : Array Bool) (b : Nat → Bool), listed.size = ops.size → (∀ j, j < ops.size → listed.getD j false = b j) → Region.ready .any ops listed = [] → ∀ j, j < ops.size → b j = true := by
    intro listed b hl hb hr j
    induction j using Nat.strongRecOn with
    | _ j ih =>
      intro hj
      cases hbj : b j with
      | true => rfl
      | false =>
        exfalso
        have hm : j ∈ Region.ready .any ops listed := by
          rw [ready_iff]
          have ho : ops[j]? = some ops[j] := Array.getElem?_eq_getElem hj
          refine ⟨ops[j], ho, ?_, fun d hd' => ?_⟩
          · have := hb j hj
            rw [hbj] at this
            simpa [Array.getD, hl, hj] using this
          · have hdj := depsOk_at hd ho d hd'
            rw [hb d (by omega)]
            exact ih d hdj (by omega)
        rw [hr] at hm
        cases hm
  intro m
  induction m with
  | zero =>
    intro listed b a w hl hb hm hI
    have hdone : ∀ j, j < ops.size → b j = true := by
      intro j hj
      cases hbj : b j with
      | true => rfl
      | false =>
        have : j ∈ (List.range ops.size).filter fun j => !b j := List.mem_filter.2 ⟨List.mem_range.2 hj, by simp [hbj]⟩
        rw [List.eq_nil_of_length_eq_zero hm] at this
        cases this
    refine ⟨List.eq_nil_iff_forall_not_mem.2 fun i hi => ?_, hend b a w hdone hI⟩
    obtain ⟨o, ho, h1, _⟩ := ready_iff.1 hi
    have hi' : i < ops.size := (Array.getElem?_eq_some_iff.1 ho).1
    have := hb i hi'
    rw [hdone i hi'] at this
    simp [Array.getD, hl, hi'] at this h1
    rw [h1] at this
    cases this
  | succ m ih =>
    intro listed b a w hl hb hm hI
    refine ⟨fun hr => hend b a w (hall listed b hl hb hr) hI, fun i hi => ?_⟩
    obtain ⟨o, ho, h1, h2⟩ := ready_iff.1 hi
    have hi' : i < ops.size := (Array.getElem?_eq_some_iff.1 ho).1
    have hbi : b i = false := by
      have := hb i hi'
      simp [Array.getD, hl, hi'] at this h1
      rw [← this]; exact h1
    have hdo := depsOk_at hd ho
    refine hmono i _ _ a w (fun a' w' hI' => ih _ (up b i) a' w' (by simpa using hl) ?_ ?_ hI') (hstep i o ho b a w hI hbi fun d hd' => ?_)
    · intro j hj
      by_cases hji : j = i
      · subst hji
        simp [up, Array.getD, hl, hi']
      · rw [up_ne hji, ← hb j hj]
        simp [Array.getD, hl, hj, Array.getElem_setIfInBounds, Ne.symm hji]
    · have hlen : ∀ (l : List Nat), l.Nodup → i ∈ l → (l.filter fun j => !up b i j).length + 1 = (l.filter fun j => !b j).length := by
        intro l
        induction l with
        | nil => intro _ h; cases h
        | cons x r ih2 =>
          intro hn hx
          rw [List.nodup_cons] at hn
          rcases List.mem_cons.1 hx with rfl | hx
          · have e : (r.filter fun j => !up b i j) = r.filter fun j => !b j := List.filter_congr fun j hj => by rw [up_ne (fun e => hn.1 (by rw [← e]; exact hj))]
            rw [List.filter_cons, List.filter_cons]
            simp [up_self, hbi, e]
          · have hne : x ≠ i := fun e => hn.1 (e ▸ hx)
            have := ih2 hn.2 hx
            rw [List.filter_cons, List.filter_cons, up_ne hne]
            cases b x <;> simp <;> omega
      have := hlen (List.range ops.size) List.nodup_range (List.mem_range.2 hi')
      omega
    · rw [← hb d (by have := hdo d hd'; omega)]
      exact h2 d hd'
end

section
variable {P : Program} {ops : Array Oper} {Q : Exit → Act → World → Prop} {a : Act} {w : World} {id : Nat} {F : Fence} {n : Nat}
theorem wpAny_eq (P : Program) (ops : Array Oper) (Q : Exit → Act → World → Prop) : ∀ (m : Nat) (l : Array Bool) (a : Act) (w : World), wpAny P .any ops Q m l a w = anyG ops (Q .normal) (wpOp P ops Q) m l a w := by
  intro m
  induction m with
  | zero => intro l a w; rfl
  | succ m ih =>
    intro l a w
    simp only [wpAny, anyG]
    have : ∀ i, wpAny P .any ops Q m (l.setIfInBounds i true) = anyG ops (Q .normal) (wpOp P ops Q) m (l.setIfInBounds i true) := fun i => by funext a w; exact ih _ a w
    simp only [this]
theorem wpAnyIn_eq (F : Fence) (n : Nat) (P : Program) (ops : Array Oper) (Q : Exit → Act → World → Prop) : ∀ (m : Nat) (l : Array Bool) (a : Act) (w : World), wpAnyIn F n P .any ops Q m l a w = anyG ops (Q .normal) (wpOpIn F n P ops Q) m l a w := by
  intro m
  induction m with
  | zero => intro l a w; rfl
  | succ m ih =>
    intro l a w
    simp only [wpAnyIn, anyG]
    have : ∀ i, wpAnyIn F n P .any ops Q m (l.setIfInBounds i true) = anyG ops (Q .normal) (wpOpIn F n P ops Q) m (l.setIfInBounds i true) := fun i => by funext a w; exact ih _ a w
    simp only [this]

theorem filter_false (n : Nat) : ((List.range n).filter fun j => !(fun _ => false : Nat → Bool) j).length = n := by rw [List.filter_eq_self.2 (by simp)]; simp
theorem getD_rep (n j : Nat) : (Array.replicate n false).getD j false = (fun _ => false : Nat → Bool) j := by
  by_cases h : j < n <;> simp [Array.getD, h]

/-- **A region of open order.** -/
theorem region_inv (hm : P.follows .mixedOrders = true) (hd : depsOk ops = true) (I : (Nat → Bool) → Act → World → Prop) (h0 : I (fun _ => false) a w.drew)
    (hstep : ∀ i o, ops[i]? = some o → ∀ b a w, I b a w → b i = false → (∀ d ∈ deps o, b d = true) → if Region.wanted o (yielded ops a.tmps) = true then o.wp P a w (I (up b i)) Q else I (up b i) (a.put o.dst undef) w)
    (hend : ∀ b a w, (∀ j, j < ops.size → b j = true) → I b a w → Q .normal a w) : (Code.region id ops true).wp P Q a w := by
  refine wp_region_any hm ?_
  rw [wpAny_eq]
  refine anyG_inv (Stp := wpOp P ops Q) hd I (fun i K K' a w h hh => wpOp_mono h hh) (fun i o ho b a w hI hb hdo => ?_) hend _ _ (fun _ => false) a _ Array.size_replicate (fun j _ => getD_rep _ j) (filter_false _) h0
  have := hstep i o ho b a w hI hb hdo
  unfold wpOp
  rw [ho]
  simp only
  split
  · rename_i hw; rw [if_pos hw] at this; exact .inl this
  · rename_i hw; rw [if_neg hw] at this; exact this
theorem region_invIn (hm : P.follows .mixedOrders = true) (hd : depsOk ops = true) (I : (Nat → Bool) → Act → World → Prop) (h0 : I (fun _ => false) a w.drew)
    (hstep : ∀ i o, ops[i]? = some o → ∀ b a w, I b a w → b i = false → (∀ d ∈ deps o, b d = true) → if Region.wanted o (yielded ops a.tmps) = true then o.wpIn F n P a w (I (up b i)) Q else (∀ f, o.about P w a.eval = some f → F.fn f) ∧ I (up b i) (a.put o.dst undef) w)
    (hend : ∀ b a w, (∀ j, j < ops.size → b j = true) → I b a w → Q .normal a w) : (Code.region id ops true).wpIn F n P Q a w := by
  refine wpIn_region_any hm ?_
  rw [wpAnyIn_eq]
  refine anyG_inv (Stp := wpOpIn F n P ops Q) hd I (fun i K K' a w h hh => wpOpIn_mono h hh) (fun i o ho b a w hI hb hdo => ?_) hend _ _ (fun _ => false) a _ Array.size_replicate (fun j _ => getD_rep _ j) (filter_false _) h0
  have := hstep i o ho b a w hI hb hdo
  unfold wpOpIn
  rw [ho]
  exact this
end

/-! ### Bytes and texts -/

/-- The bytes as cells. -/
def bv (l : List UInt8) : List Value := l.map fun c => .int .u8 (c.toNat : Int)
theorem bv_length (l : List UInt8) : (bv l).length = l.length := by simp [bv]
theorem bv_one (l : List UInt8) : ∀ u ∈ bv l, u.oneCell' = true := by
  intro u hu
  obtain ⟨c, _, rfl⟩ := List.mem_map.1 hu
  rfl
theorem bv_append (a b : List UInt8) : bv (a ++ b) = bv a ++ bv b := by simp [bv]
theorem bv_drop (l : List UInt8) (k : Nat) : (bv l).drop k = bv (l.drop k) := by simp [bv]
theorem bv_take (l : List UInt8) (k : Nat) : (bv l).take k = bv (l.take k) := by simp [bv]
/-- A text's value. -/
abbrev txt (l : List UInt8) : Value := .string ⟨l.toArray⟩
@[go_sem] theorem toList_mk (l : List UInt8) : (ByteArray.mk l.toArray).toList = l := ByteArray.toList_mk l
theorem size_mk (l : List UInt8) : (ByteArray.mk l.toArray).size = l.length := by simp [ByteArray.size]

class Str (P : Program) (t : TypeId) : Prop where
  str : P.underlying t = some .string
class U8 (P : Program) (t : TypeId) : Prop where
  u8 : P.underlying t = some (.int .u8)
instance : Str Tryz.prog 9 := ⟨by kernel_rfl⟩
instance : U8 Tryz.prog 5 := ⟨by kernel_rfl⟩

/-- A slice that is read alone. -/
def rdS (size : Nat) (v : Value) (n : Nat) (xs : List Value) : Chunk :=
  ⟨v.ownBlock.toList, fun W => RdS W size v n xs, fun W W' h k => by
    obtain ⟨h1, A, c, rfl, hc, h2⟩ := k
    refine ⟨h1, A, c, rfl, hc, fun hx => ?_⟩
    obtain ⟨b, o, rfl, hr⟩ := h2 hx
    exact ⟨b, o, rfl, fun j v hj => (World.cell?_of_block (w := W) (h b (by simp [Value.ownBlock]))).trans (hr j v hj)⟩⟩
/-- A value whose block is new. -/
def Fresh (w W : World) (v : Value) : Prop := ∀ b, v.ownBlock = some b → w.heap.size ≤ b ∧ b < W.heap.size

section
variable {P : Program} {ops : Array Oper} {Q : Exit → Act → World → Prop} {a : Act} {S : List Nat} {w W W' : World} {L L' : List Chunk} {rest : List Oper}
  {dst : Option Tmp} {ty : TypeId} {pos : String} {after : Array Edge} {F : Fence} {fn : Nat}

theorem St.addRd {size n : Nat} {v : Value} {xs : List Value} (h : St S w W L) (hf : Fr [] W W') (hr : RdS W' size v n xs) (hn : Fresh W W' v) : St S w W' (rdS size v n xs :: L) :=
  h.add hf hr (fun b hb => by
    have : v.ownBlock = some b := by
      have : b ∈ v.ownBlock.toList := hb
      simpa using this
    exact ⟨(hn b this).2, (hn b this).1⟩)
theorem St.addOwn {e : TypeId} {size n : Nat} {v : Value} {xs : List Value} (h : St S w W L) (hf : Fr [] W W') (hr : W'.ownsRow W.heap.size e size v n xs) : St S w W' (own e size v n xs :: L) :=
  h.add hf (by
    refine ⟨hr.1, ?_⟩
    rcases hr.2 with hn | ⟨g, cap, cur, rfl, hb, hgg, rest⟩
    · exact .inl hn
    · exact .inr ⟨g, cap, cur, rfl, Nat.zero_le _, hgg, rest⟩) (fun b hb => by
    have : v.ownBlock = some b := by
      have : b ∈ v.ownBlock.toList := hb
      simpa using this
    exact ⟨(hr.lt b this).2, (hr.lt b this).1⟩)
/-- What was made since W0 owns its row. -/
theorem St.owns {e : TypeId} {size n : Nat} {v : Value} {xs : List Value} (h : St [] w W L) (hc : Has L (own e size v n xs)) : W.ownsRow w.heap.size e size v n xs := by
  have h1 := h.get hc
  have h2 := (h.ok _ hc.mem).2
  refine ⟨h1.1, ?_⟩
  rcases h1.2 with hn | ⟨g, cap, cur, rfl, hb, hgg, rest⟩
  · exact .inl hn
  · refine .inr ⟨g, cap, cur, rfl, ?_, hgg, rest⟩
    rcases (h2 g (by simp [own, Value.ownBlock])).2 with h3 | h3
    · exact h3
    · cases h3

theorem run_s2b {s d e : TypeId} [hs : Str P s] [hd : El P d e] [he : U8 P e] (W : World) (l : List UInt8) :
    ∃ v W', (convert s d (txt l)).run P W = .ok v W' ∧ RdS W' 1 v l.length (bv l) ∧ Fr [] W W' ∧ Fresh W W' v := by
  have h := Lib.run_convert_string_bytes (P := P) W s d e ⟨l.toArray⟩ hs.str hd.el he.u8
  refine ⟨_, _, h, ⟨by simp [bv], some ⟨W.heap.size, 0, none⟩, grownCap W l.length 0 e, by rw [size_mk], grownCap_ge W l.length 0 e, fun _ => ⟨W.heap.size, 0, rfl, ?_⟩⟩, ⟨rfl, rfl, rfl, by rw [Lib.bytesWorld_size]; omega, fun k hk _ => Lib.bytesWorld_at_old W e _ k hk⟩, ?_⟩
  · intro j v hj
    have hlt : j < l.length := by
      have := (List.getElem?_eq_some_iff.1 hj).1
      simpa [bv] using this
    rw [Nat.zero_add, Lib.bytesWorld_cell W e _ j (by rw [size_mk]; exact hlt)]
    simp [bv, hlt] at hj
    rw [← hj]
    simp [List.getD, hlt]
  · intro b hb
    simp [Value.ownBlock] at hb
    subst hb
    rw [Lib.bytesWorld_size]
    omega
theorem run_b2s {s d e : TypeId} [hs : El P s e] [he : U8 P e] [hd : Str P d] {v : Value} {l : List UInt8} (hr : RdS W 1 v l.length (bv l)) : (convert s d v).run P W = .ok (txt l) W := by
  obtain ⟨-, A, c, rfl, hc, h2⟩ := hr
  cases A with
  | none =>
    have hl : l = [] := by
      cases l with
      | nil => rfl
      | cons x l => obtain ⟨b, o, h, _⟩ := h2 (by simp [bv]); cases h
    subst hl
    show (convert s d (.slice none 0 c)).run P W = _
    rw [run_convert_bytes_string W s d e none 0 c hs.el he.u8 hd.str]
    rfl
  | some ad =>
    refine run_convert_bytes_back W s d e ad c l hs.el he.u8 hd.str fun j hj => ?_
    obtain ⟨b, o, h, hr⟩ := h2 (fun e => by have := congrArg List.length e; simp [bv] at this; subst this; simp at hj)
    cases h
    rw [addr_add]
    exact hr j _ (by simp [bv, hj])
theorem exec_convert (ρ : Operand → Value) (s d : TypeId) (x : Operand) (g : Option (Nat × Bool)) {v : Value} {W' : World} (h : (convert s d (ρ x)).run P W = .ok v W') :
    (execOp ρ ⟨dst, .convert s d x, ty, pos, after, g⟩).run P W = .ok (.value v) W' := by
  simp [execOp, h]
theorem l_s2b {s d e : TypeId} [Str P s] [El P d e] [U8 P e] {x : Operand} {l : List UInt8} (hS : St S w W L) (hx : a.eval x = txt l)
    (hk : ∀ v W', St S w W' (rdS 1 v l.length (bv l) :: L) → wpList P ops Q rest (a.put dst v) W') : wpList P ops Q (⟨dst, .convert s d x, ty, pos, after, none⟩ :: rest) a W := by
  obtain ⟨v, W', h1, h2, h3, h4⟩ := run_s2b (P := P) (s := s) (d := d) W l
  exact wpList_val rfl (exec_convert _ _ _ _ _ (by rw [hx]; exact h1)) (hk v W' (hS.addRd h3 h2 h4))
theorem i_s2b {s d e : TypeId} [Str P s] [El P d e] [U8 P e] {x : Operand} {l : List UInt8} (hS : St S w W L) (hx : a.eval x = txt l)
    (hk : ∀ v W', St S w W' (rdS 1 v l.length (bv l) :: L) → wpListIn F fn P ops Q rest (a.put dst v) W') : wpListIn F fn P ops Q (⟨dst, .convert s d x, ty, pos, after, none⟩ :: rest) a W := by
  obtain ⟨v, W', h1, h2, h3, h4⟩ := run_s2b (P := P) (s := s) (d := d) W l
  exact wpListIn_val rfl rfl (exec_convert _ _ _ _ _ (by rw [hx]; exact h1)) (hk v W' (hS.addRd h3 h2 h4))
theorem l_b2s {s d e : TypeId} [El P s e] [U8 P e] [Str P d] {x : Operand} {v : Value} {l : List UInt8} (hx : a.eval x = v) (hr : RdS W 1 v l.length (bv l))
    (hk : wpList P ops Q rest (a.put dst (txt l)) W) : wpList P ops Q (⟨dst, .convert s d x, ty, pos, after, none⟩ :: rest) a W :=
  wpList_val rfl (exec_convert _ _ _ _ _ (by rw [hx]; exact run_b2s hr)) hk
theorem i_b2s {s d e : TypeId} [El P s e] [U8 P e] [Str P d] {x : Operand} {v : Value} {l : List UInt8} (hx : a.eval x = v) (hr : RdS W 1 v l.length (bv l))
    (hk : wpListIn F fn P ops Q rest (a.put dst (txt l)) W) : wpListIn F fn P ops Q (⟨dst, .convert s d x, ty, pos, after, none⟩ :: rest) a W :=
  wpListIn_val rfl rfl (exec_convert _ _ _ _ _ (by rw [hx]; exact run_b2s hr)) hk
end

section
variable {P : Program} {ops : Array Oper} {Q : Exit → Act → World → Prop} {a : Act} {W : World} {rest : List Oper}
  {dst : Option Tmp} {ty : TypeId} {pos : String} {after : Array Edge} {F : Fence} {fn : Nat} {op : Op}
/-- A guard that holds. -/
theorem l_want {g : Nat × Bool} (hw : Region.wanted ⟨dst, op, ty, pos, after, some g⟩ (yielded ops a.tmps) = true) (hk : wpList P ops Q (⟨dst, op, ty, pos, after, none⟩ :: rest) a W) : wpList P ops Q (⟨dst, op, ty, pos, after, some g⟩ :: rest) a W := by
  unfold wpList at hk ⊢
  rw [if_pos (show Region.wanted ⟨dst, op, ty, pos, after, none⟩ (yielded ops a.tmps) = true from rfl)] at hk
  rw [if_pos hw]
  exact hk
theorem i_want {g : Nat × Bool} (hw : Region.wanted ⟨dst, op, ty, pos, after, some g⟩ (yielded ops a.tmps) = true) (hk : wpListIn F fn P ops Q (⟨dst, op, ty, pos, after, none⟩ :: rest) a W) : wpListIn F fn P ops Q (⟨dst, op, ty, pos, after, some g⟩ :: rest) a W := by
  unfold wpListIn at hk ⊢
  rw [if_pos (show Region.wanted ⟨dst, op, ty, pos, after, none⟩ (yielded ops a.tmps) = true from rfl)] at hk
  rw [if_pos hw]
  exact hk
end
end Go.Proofs.YtaejmginhkbbhaaGreatDoor
