/- The seat's own program logic, fourth part: parties. A call that turns memory of its caller's (a callback; a round of a range over a function) speaks of it as of one chunk; a range over a function. Conditions: none; over any program. -/
import Derived.Test.YtaejmginhkbbhaaGreatDoorJ
import Derived.Shelf.Abstract
import Derived.RangeFuncIn
import Derived.RangeFuncRecord
import Derived.RangeFuncLeaves
import Derived.RangeFuncCalls
import Derived.RangeFuncSeq
import Derived.Deep.LoopGhost
import Derived.TacticsInMore
import Derived.LoopIn
import Derived.Lib.Hide
set_option linter.unusedSimpArgs false
set_option linter.unusedVariables false
set_option maxRecDepth 100000
set_option maxHeartbeats 1000000
namespace Go.Proofs.YtaejmginhkbbhaaGreatDoor
open Go Go.RowKit

section
variable {S : List Nat} {w W W' : World} {L L' L1 L2 : List Chunk} {c c' d e : Chunk}

/-- A party's chunk has turned. -/
def Turn (c : Chunk) (W W' : World) (c' : Chunk) : Prop := Fr c.fp W W' ∧ c'.ok W' ∧ ∀ b ∈ c'.fp, b < W'.heap.size ∧ (b ∈ c.fp ∨ W.heap.size ≤ b)
theorem Turn.refl (hok : c.ok W) (hl : ∀ b ∈ c.fp, b < W.heap.size) : Turn c W W c := ⟨Fr.refl _ _, hok, fun b hb => ⟨hl b hb, .inl hb⟩⟩
theorem Turn.lt (h : Turn c W W' c') : ∀ b ∈ c'.fp, b < W'.heap.size := fun b hb => (h.2.2 b hb).1
theorem Turn.ok (h : Turn c W W' c') : c'.ok W' := h.2.1
theorem Turn.trans {A B C : World} (h : Turn c A B d) (k : Turn d B C e) : Turn c A C e := by
  obtain ⟨h1, h2, h3⟩ := h
  obtain ⟨k1, k2, k3⟩ := k
  refine ⟨⟨k1.os.trans h1.os, k1.tape.trans h1.tape, k1.output.trans h1.output, Nat.le_trans h1.size k1.size, fun i hi hn => ?_⟩, k2, fun b hb => ⟨(k3 b hb).1, ?_⟩⟩
  · rw [k1.block i (Nat.lt_of_lt_of_le hi h1.size) (fun hd => ?_)]
    · exact h1.block i hi hn
    · rcases (h3 i hd).2 with h4 | h4
      · exact hn h4
      · omega
  · rcases (k3 b hb).2 with h4 | h4
    · exact (h3 b h4).2
    · exact .inr (Nat.le_trans h1.size h4)
theorem Turn.keep {A B C : World} (h : Turn c A B d) (hf : Fr [] B C) : Turn c A C d :=
  h.trans ⟨hf.mono (by simp), d.loc _ _ (fun b hb => hf.block b (h.lt b hb) (by simp)) h.ok, fun b hb => ⟨Nat.lt_of_lt_of_le (h.lt b hb) hf.size, .inl hb⟩⟩
theorem St.turn (h : St S w W L) (hu : Upd L c c' L') (ht : Turn c W W' c') : St S w W' L' := h.step hu ht.1 ht.2.1 ht.2.2

/-- Chunks as one. -/
def bun (L : List Chunk) : Chunk := ⟨L.flatMap Chunk.fp, fun W => (L.Pairwise fun c d => ∀ b ∈ c.fp, b ∉ d.fp) ∧ ∀ c ∈ L, c.ok W ∧ ∀ b ∈ c.fp, b < W.heap.size, fun W W' h k => by
  refine ⟨k.1, fun c hc => ⟨c.loc W W' (fun b hb => h b (List.mem_flatMap.2 ⟨c, hc, hb⟩)) (k.2 c hc).1, fun b hb => ?_⟩⟩
  have h1 := h b (List.mem_flatMap.2 ⟨c, hc, hb⟩)
  have h2 := (k.2 c hc).2 b hb
  rw [Array.getElem?_eq_getElem h2] at h1
  exact (Array.getElem?_eq_some_iff.1 h1).1⟩
theorem bun_fp (b : Nat) : b ∈ (bun L).fp ↔ ∃ c ∈ L, b ∈ c.fp := by simp [bun, List.mem_flatMap]
theorem St.open (h : (bun L).ok W) : St (bun L).fp W W L := ⟨Fr.refl _ _, h.1, fun c hc => ⟨(h.2 c hc).1, fun b hb => ⟨(h.2 c hc).2 b hb, .inr ((bun_fp b).2 ⟨c, hc, hb⟩)⟩⟩⟩
theorem St.bun_ok (h : St S w W L) : (bun L).ok W := ⟨h.sep, fun c hc => ⟨(h.ok c hc).1, fun b hb => ((h.ok c hc).2 b hb).1⟩⟩
theorem St.bun_lt (h : St S w W L) : ∀ b ∈ (bun L).fp, b < W.heap.size := fun b hb => by
  obtain ⟨c, hc, h1⟩ := (bun_fp b).1 hb
  exact ((h.ok c hc).2 b h1).1
theorem St.toTurn (h : St c.fp w W L) : Turn c w W (bun L) := ⟨h.fr, h.bun_ok, fun b hb => by
  obtain ⟨d, hd, h1⟩ := (bun_fp b).1 hb
  have := (h.ok d hd).2 b h1
  exact ⟨this.1, this.2.symm⟩⟩
theorem St.bundle (h : St S w W (L1 ++ L2)) : St S w W (bun L1 :: L2) := by
  have hp := List.pairwise_append.1 h.sep
  refine ⟨h.fr, List.pairwise_cons.2 ⟨fun d hd b hb => ?_, hp.2.1⟩, fun d hd => ?_⟩
  · obtain ⟨x, hx, h1⟩ := (bun_fp b).1 hb
    exact hp.2.2 x hx d hd b h1
  · rcases List.mem_cons.1 hd with rfl | hd
    · refine ⟨⟨hp.1, fun x hx => ?_⟩, fun b hb => ?_⟩
      · have := h.ok x (by simp [hx])
        exact ⟨this.1, fun b hb => (this.2 b hb).1⟩
      · obtain ⟨x, hx, h1⟩ := (bun_fp b).1 hb
        exact (h.ok x (by simp [hx])).2 b h1
    · exact h.ok d (by simp [hd])
theorem St.unbundle (h : St S w W (bun L1 :: L2)) : St S w W (L1 ++ L2) := by
  have hp := List.pairwise_cons.1 h.sep
  have hb1 := h.ok _ (List.mem_cons_self)
  refine ⟨h.fr, List.pairwise_append.2 ⟨hb1.1.1, hp.2, fun x hx d hd b hb => hp.1 d hd b ((bun_fp b).2 ⟨x, hx, hb⟩)⟩, fun d hd => ?_⟩
  rcases List.mem_append.1 hd with hd | hd
  · exact ⟨(hb1.1.2 d hd).1, fun b hb => hb1.2 b ((bun_fp b).2 ⟨d, hd, hb⟩)⟩
  · exact h.ok d (by simp [hd])

/-- A call that was made of what some chunks hold. -/
theorem St.call (h : St S w W (L1 ++ L2)) {L1' : List Chunk} (k : St (bun L1).fp W W' L1') : St S w W' (L1' ++ L2) := (h.bundle.turn (by exact Upd.head) k.toTurn).unbundle
theorem St.call1 (h : St S w W L) (k : St (bun L).fp W W' L') : St S w W' L' := by
  have := St.call (L1 := L) (L2 := []) (by simpa using h) k
  simpa using this
theorem St.frame_bun (h : St S w W L) {W2 : World} (k : Fr (bun L).fp W W2) : Fr S w W2 := by
  refine ⟨k.os.trans h.fr.os, k.tape.trans h.fr.tape, k.output.trans h.fr.output, Nat.le_trans h.fr.size k.size, fun i hi hn => ?_⟩
  rw [k.block i (Nat.lt_of_lt_of_le hi h.fr.size) (fun hb => ?_)]
  · exact h.fr.block i hi hn
  · obtain ⟨c, hc, h1⟩ := (bun_fp i).1 hb
    rcases ((h.ok c hc).2 i h1).2 with h2 | h2
    · omega
    · exact hn h2
theorem St.turnOf (h : St c.fp w W L) (hc : Has L c') : Turn c w W c' := ⟨h.fr, h.get hc, fun b hb => by
  have := (h.ok c' hc.mem).2 b hb
  exact ⟨this.1, this.2.symm⟩⟩
/-- A chunk said otherwise. -/
theorem St.recast (h : St S w W L) (hu : Upd L c c' L') (hok : c'.ok W) (hfp : c'.fp = c.fp) : St S w W L' :=
  h.step hu (Fr.refl _ _) hok (fun b hb => by rw [hfp] at hb; exact ⟨((h.ok _ hu.mem).2 b hb).1, .inl hb⟩)
/-- What a call has made. -/
theorem St.join (h : St S w W L) (k : St [] W W' L1) : St S w W' (L1 ++ L) := by
  have h1 := h.keep k.fr
  refine ⟨h1.fr, List.pairwise_append.2 ⟨k.sep, h1.sep, fun x hx d hd b hb hb' => ?_⟩, fun d hd => ?_⟩
  · have h2 := ((h.ok d hd).2 b hb').1
    rcases ((k.ok x hx).2 b hb).2 with h3 | h3
    · omega
    · cases h3
  · rcases List.mem_append.1 hd with hd | hd
    · refine ⟨(k.ok d hd).1, fun b hb => ⟨((k.ok d hd).2 b hb).1, ?_⟩⟩
      rcases ((k.ok d hd).2 b hb).2 with h3 | h3
      · exact .inl (Nat.le_trans h.fr.size h3)
      · cases h3
    · exact h1.ok d hd
/-- What holds no block. -/
theorem St.addNil (h : St S w W L) (hok : c'.ok W) (hn : c'.fp = []) : St S w W (c' :: L) := h.add (Fr.refl _ _) hok (fun b hb => by rw [hn] at hb; cases hb)

inductive Pick : List Chunk → Chunk → List Chunk → Prop
  | head {L : List Chunk} {c : Chunk} : Pick (c :: L) c L
  | tail {L L' : List Chunk} {c d : Chunk} (h : Pick L c L') : Pick (d :: L) c (d :: L')
theorem Pick.perm (h : Pick L c L') : L.Perm (c :: L') := by
  induction h with
  | head => exact .refl _
  | tail _ ih => exact (ih.cons _).trans (.swap _ _ _)
theorem St.perm (h : St S w W L) (hp : L.Perm L') : St S w W L' :=
  ⟨h.fr, (hp.pairwise_iff (fun {x y} hxy b hb hb' => hxy b hb' hb)).1 h.sep, fun d hd => h.ok d (hp.mem_iff.2 hd)⟩
theorem St.pick (h : St S w W L) (hp : Pick L c L') : St S w W (c :: L') := h.perm hp.perm

/-- The block for the rounds' deferred calls, of which there are none. -/
def dfr (D : Nat) : Chunk := blk D (.deferred (some []))
theorem fr_putObj (W : World) (l : Nat) (o : Obj) : Fr [l] W (W.putObj l o) := ⟨rfl, rfl, rfl, by simp, fun k _ hn => World.putObj_heap_other (by simpa using hn)⟩
theorem St.putObj {b : Nat} {o o' : Obj} (h : St S w W L) (hu : Upd L (blk b o) (blk b o') L') : St S w (W.putObj b o') L' := by
  have hc : W.heap[b]? = some o := (h.ok _ hu.mem).1
  have hlt := (Array.getElem?_eq_some_iff.1 hc).1
  refine h.step hu (fr_putObj W b o') (World.putObj_heap_same hlt) (fun x hx => ?_)
  simp [blk] at hx
  subst hx
  exact ⟨by simpa using hlt, .inl (by simp [blk])⟩
/-- The block's calls are taken over: none; the block is shut. -/
theorem St.take {P : Program} {D : Nat} (h : St S w W (dfr D :: L)) : ∃ W', (Instr.takeDeferred D).run P W = .ok [] W' ∧ St S w W' L :=
  ⟨_, run_takeDeferred (h.ok (dfr D) (by simp)).1, (h.putObj (o' := .deferred none) (by exact Upd.head)).drop⟩
end

/-! ### A range over a function -/
section
variable {P : Program} {α : Type}

/-- What a round does with what it is handed, as the iterator sees it. -/
def Yields (P : Program) (l : Nat) (encs : α → Array Value) (xs : List α) (I Ix : List α → Chunk → Prop) : Prop :=
  ∀ (pre : List α) (x : α) (c : Chunk) (W : World), pre ++ [x] <+: xs → I pre c → c.ok W → (∀ b ∈ c.fp, b < W.heap.size) →
    YieldAt Fence.wide 0 P l (encs x) W fun e W' => (e = .returned (.bool true) ∧ ∃ c', I (pre ++ [x]) c' ∧ Turn c W W' c') ∨ (e = .returned (.bool false) ∧ ∃ c', Ix (pre ++ [x]) c' ∧ Turn c W W' c')
/-- An iterator: it hands on just these things, in order; it reads these blocks; it writes none but its own. -/
def SeqC (P : Program) (gf : Nat) (lb : Array Value) (encs : α → Array Value) (xs : List α) (rb : List Nat) (w : World) : Prop :=
  ∀ (l : Nat) (c : Chunk) (I Ix : List α → Chunk → Prop) (T : List Nat) (W : World), Fr T w W → (∀ b ∈ rb, b ∉ T) → (∀ b ∈ c.fp, b ∉ rb) → I [] c → c.ok W → (∀ b ∈ c.fp, b < W.heap.size) →
    Yields P l encs xs I Ix →
    Calls P gf (#[.func (.yield l) #[] #[]] ++ lb) W fun e W' => (∃ v, e = .returned v) ∧ ((∃ c', I xs c' ∧ Turn c W W' c') ∨ (∃ pre c', pre <+: xs ∧ Ix pre c' ∧ Turn c W W' c'))

/-- How a round's body may be left. -/
def endsR (I : List α → Chunk → Prop) (Ix : Code → List α → Chunk → Prop) (pre : List α) (c : Chunk) (W : World) : Exit → Act → World → Prop
  | .normal, _, W' => ∃ c', I pre c' ∧ Turn c W W' c'
  | .ret, _, W' => ∃ c', Ix .ret pre c' ∧ Turn c W W' c'
  | .exit id, _, W' => ∃ c', Ix (.exit id) pre c' ∧ Turn c W W' c'
  | .goto t, _, W' => ∃ c', Ix (.goto t) pre c' ∧ Turn c W W' c'
  | .panic _, _, _ => False
  | .outgrown, _, _ => False

theorem i_rangeFunc {n : Nat} {g : Operand} {ps : Array Tmp} {assign body : Code} {Q : Exit → Act → World → Prop} {a : Act} {S : List Nat} {w0 W : World} {c : Chunk} {L : List Chunk}
    (hS : St S w0 W (c :: L)) {gf : Nat} {lb : Array Value} (hg : a.eval g = .func (.func gf) #[] lb) (eg : ∀ args w, (callFunc gf args).run P w = .ok (.enter gf args) w)
    {encs : α → Array Value} {xs : List α} {rb : List Nat} {w : World} (hseq : SeqC P gf lb encs xs rb w) {T : List Nat} (hfr : Fr T w W) (hrb1 : ∀ b ∈ rb, b ∉ T) (hrb2 : ∀ b ∈ c.fp, b ∉ rb) (hrb3 : ∀ b ∈ rb, b < w.heap.size)
    (hps : ∀ x, (encs x).size = ps.size) (I : List α → Chunk → Prop) (Ix : Code → List α → Chunk → Prop) (h0 : I [] c)
    (hround : ∀ (l : Nat) (pre : List α) (x : α) (c : Chunk) (W : World) (K : Act → World → Prop), pre ++ [x] <+: xs → I pre c → c.ok W → (∀ b ∈ c.fp, b < W.heap.size) →
      (∀ a₁ W₁ c₁, Turn c W W₁ c₁ → (∀ W₂, c₁.ok W₂ → (∀ b ∈ c₁.fp, b < W₂.heap.size) → body.wpIn (Fence.wide.inRound l) 0 P (endsR I Ix (pre ++ [x]) c₁ W₂) a₁ W₂) → K a₁ W₁) →
      assign.wpIn (Fence.wide.inRound l) 0 P (Exit.then K (fun _ _ _ => False)) { tmps := (ps.zip (encs x)).foldl (fun t (p, v) => t.setIfInBounds p v) a.tmps, defers := [] } W)
    (hdone : ∀ (D : Nat) (W' : World) (c' : Chunk), I xs c' → St S w0 W' (dfr D :: c' :: L) → Q .normal { a with defers := { target := .collected D, args := #[] } :: a.defers } W')
    (hstop : ∀ (D : Nat) (code : Code) (pre : List α) (c' : Chunk) (W' : World), pre <+: xs → Ix code pre c' → St S w0 W' (dfr D :: c' :: L) → code.wpIn Fence.wide n P Q { a with defers := { target := .collected D, args := #[] } :: a.defers } W') :
    (Code.rangeFunc g ps assign body).wpIn Fence.wide n P Q a W := by
  refine wpIn_rangeFunc ?_
  intro fn hfn
  obtain ⟨rec, hrec⟩ : ∃ rec : LoopState → Option Code → Loop, rec = fun st pe => { state := st, pending := pe, fn, tmps := a.tmps, params := ps, assign, body, defers := W.heap.size } := ⟨_, rfl⟩
  have hS1 := (hS.allocObj (.deferred (some []))).allocObj (.loop (rec .ready none))
  obtain ⟨W1, hW1⟩ : ∃ W1, (W.alloc (.deferred (some []))).alloc (.loop (rec .ready none)) = W1 := ⟨_, rfl⟩
  rw [hW1] at hS1
  rw [World.size_alloc] at hS1
  have hf1 : Fr T w W1 := by rw [← hW1]; exact (hfr.trans (Fr.alloc _ _ _)).trans (Fr.alloc _ _ _)
  have hS2 : St S w0 W1 (bun [blk (W.heap.size + 1) (.loop (rec .ready none)), dfr W.heap.size, c] :: L) := St.bundle (L1 := [blk (W.heap.size + 1) (.loop (rec .ready none)), dfr W.heap.size, c]) hS1
  refine ⟨W.heap.size + 1, [{ target := .collected W.heap.size, args := #[] }], W1, { target := .fn (.func gf) lb, args := #[.func (.yield (W.heap.size + 1)) #[] #[]] }, W1, gf,
    #[.func (.yield (W.heap.size + 1)) #[] #[]] ++ lb, W1, ?_, ?_, ?_, ?_, fun h => (by cases h), ?_⟩
  · rw [← hW1, hrec]; exact run_enterLoop_outer _ _ _ _ _
  · simp only [resolve, hg]
    simp [go_sem]
  · intro f' hf'; trivial
  · simp [invoke, go_sem, eg]
  · refine callsIn_wide.2 ((hseq (W.heap.size + 1) _ (fun pre C => ∃ c, I pre c ∧ C = bun [blk (W.heap.size + 1) (.loop (rec .ready none)), dfr W.heap.size, c])
      (fun pre C => ∃ code c, Ix code pre c ∧ C = bun [blk (W.heap.size + 1) (.loop (rec .done (some code))), dfr W.heap.size, c]) T W1 hf1 hrb1 ?_ ⟨c, h0, rfl⟩ (hS2.ok _ (by simp)).1 (fun b hb => ((hS2.ok _ (by simp)).2 b hb).1) ?_).mono ?_)
    · intro b hb hr
      have hlt := hrb3 b hr
      have hsz := hfr.size
      obtain ⟨d, hd, h1⟩ := (bun_fp b).1 hb
      simp only [List.mem_cons, List.not_mem_nil, or_false] at hd
      rcases hd with rfl | rfl | rfl
      · simp [blk] at h1; omega
      · simp [dfr, blk] at h1; omega
      · exact hrb2 b h1 hr
    · -- one round
      rintro pre x C Wr hpre ⟨c1, hI, rfl⟩ hok hlt
      have hR := St.open hok
      have hl := hR.get (c := blk (W.heap.size + 1) (.loop (rec .ready none))) (by exact Has.head)
      have hy := run_yield (P := P) (args := encs x) hl (by rw [hrec]; exact hps x)
      rw [hrec] at hy
      refine ⟨fn, _, assign, body, hy, roundIn_of_wpIn trivial (hround _ pre x c1 Wr _ hpre hI (hR.get (by exact Has.head.tail.tail)) (fun b hb => ((hR.ok c1 (by simp)).2 b hb).1) ?_)⟩
      intro a₁ W₁ c₁ ht hb
      have hR1 := hR.turn (c' := c₁) (by exact Upd.head.tail.tail) ht
      have hl1 := hR1.get (c := blk (W.heap.size + 1) (.loop (rec .ready none))) (by exact Has.head)
      refine ⟨_, run_beginRound hl1 (by rw [hrec]), ?_⟩
      have hR2 := hR1.putObj (o' := .loop { rec .ready none with state := .busy }) (by exact Upd.head)
      refine wpIn_mono (hb _ (hR2.get (by exact Has.head.tail.tail)) (fun b hb => ((hR2.ok c₁ (by simp)).2 b hb).1)) ?_
      have fin : ∀ (jump : Option Code) (W3 : World) (c' : Chunk), Turn c₁ (W₁.putObj (W.heap.size + 1) (.loop { rec .ready none with state := .busy })) W3 c' →
          ∃ v W4, (Instr.endRound (W.heap.size + 1) jump).run P W3 = .ok v W4 ∧ v = .bool jump.isNone ∧
            Turn (bun [blk (W.heap.size + 1) (.loop (rec .ready none)), dfr W.heap.size, c1]) Wr W4 (bun [blk (W.heap.size + 1) (.loop (rec (if jump.isNone then .ready else .done) jump)), dfr W.heap.size, c']) := by
        intro jump W3 c' ht3
        have hR3 := hR2.turn (c' := c') (by exact Upd.head.tail.tail) ht3
        have hl3 := hR3.get (c := blk (W.heap.size + 1) (.loop { rec .ready none with state := .busy })) (by exact Has.head)
        have hr := run_endRound (P := P) jump hl3
        refine ⟨_, _, hr, rfl, ?_⟩
        have hR4 := hR3.putObj (o' := .loop (rec (if jump.isNone then .ready else .done) jump)) (by exact Upd.head)
        have e : ({ rec .ready none with state := if jump.isNone then .ready else .done, pending := jump } : Loop) = rec (if jump.isNone then .ready else .done) jump := by rw [hrec]
        rw [← e] at hR4 ⊢
        exact hR4.toTurn
      rintro e a3 W3 hp
      cases e with
      | normal =>
        obtain ⟨c', hi, ht3⟩ := hp
        obtain ⟨v, W4, hr, rfl, ht4⟩ := fin none W3 c' ht3
        exact ⟨_, _, hr, .inl ⟨rfl, _, ⟨c', hi, rfl⟩, ht4⟩⟩
      | ret =>
        obtain ⟨c', hi, ht3⟩ := hp
        obtain ⟨v, W4, hr, rfl, ht4⟩ := fin (some .ret) W3 c' ht3
        exact ⟨_, _, hr, .inr ⟨rfl, _, ⟨_, c', hi, rfl⟩, ht4⟩⟩
      | exit id =>
        obtain ⟨c', hi, ht3⟩ := hp
        obtain ⟨v, W4, hr, rfl, ht4⟩ := fin (some (.exit id)) W3 c' ht3
        exact ⟨_, _, hr, .inr ⟨rfl, _, ⟨_, c', hi, rfl⟩, ht4⟩⟩
      | goto t =>
        obtain ⟨c', hi, ht3⟩ := hp
        obtain ⟨v, W4, hr, rfl, ht4⟩ := fin (some (.goto t)) W3 c' ht3
        exact ⟨_, _, hr, .inr ⟨rfl, _, ⟨_, c', hi, rfl⟩, ht4⟩⟩
      | panic ch => exact hp.elim
      | outgrown => exact hp.elim
    · -- behind the iterator
      rintro e W2 ⟨⟨v, rfl⟩, (⟨_, ⟨c', hi, rfl⟩, ht⟩ | ⟨pre, _, hpre, ⟨code, c', hi, rfl⟩, ht⟩)⟩
      · have h2 := (hS2.turn (by exact Upd.head) ht).unbundle
        have hl := h2.get (c := blk (W.heap.size + 1) (.loop (rec .ready none))) (by exact Has.head)
        have hr := run_endLoop (P := P) hl (by rw [hrec]; simp)
        have h3 := (h2.putObj (o' := .loop { rec .ready none with state := .exhausted }) (by exact Upd.head)).drop
        refine ⟨none, _, by rw [hr, hrec], hdone _ _ c' hi h3⟩
      · have h2 := (hS2.turn (by exact Upd.head) ht).unbundle
        have hl := h2.get (c := blk (W.heap.size + 1) (.loop (rec .done (some code)))) (by exact Has.head)
        have hr := run_endLoop (P := P) hl (by rw [hrec]; simp)
        have h3 := (h2.putObj (o' := .loop { rec .done (some code) with state := .exhausted }) (by exact Upd.head)).drop
        refine ⟨some code, _, by rw [hr, hrec], hstop _ code pre c' _ hpre hi h3⟩
end
end Go.Proofs.YtaejmginhkbbhaaGreatDoor
