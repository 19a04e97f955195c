/- An iterator whose rounds may read what lay there; the walks through package event, last part: an event's lines, gone over (F221, F169, F168, F86). Conditions: as each contract says. -/
import Derived.Test.YtaejmginhkbbhaaGreatDoorY1
import Derived.Test.YtaejmginhkbbhaaGreatDoorU6
import Derived.Sort.LoopGhostIn
import Derived.WalkMore
set_option linter.unusedSimpArgs false
set_option linter.unusedVariables false
set_option maxRecDepth 100000
set_option maxHeartbeats 1000000
namespace Go.Proofs.YtaejmginhkbbhaaGreatDoor
open Go Go.RowKit
attribute [local go_sem] Oper.semAt_some
section
variable {P : Program} {α : Type}
/-- What a round does with what it is handed, as the iterator sees it: what lay there ahead of the iterator lies there still, but for the round's own. -/
def YieldsF (P : Program) (l : Nat) (encs : α → Array Value) (xs : List α) (S : List Nat) (W0 : World) (I Ix : List α → Chunk → Prop) : Prop :=
  ∀ (pre : List α) (x : α) (c : Chunk) (W : World), pre ++ [x] <+: xs → Fr S W0 W → I pre c → c.ok W → (∀ b ∈ c.fp, b < W.heap.size) →
    YieldAt Fence.wide 0 P l (encs x) W fun e W' => (e = .returned (.bool true) ∧ ∃ c', I (pre ++ [x]) c' ∧ Turn c W W' c') ∨ (e = .returned (.bool false) ∧ ∃ c', Ix (pre ++ [x]) c' ∧ Turn c W W' c')
/-- An iterator: it hands on just these things, in order; it reads these blocks; it writes none but its own; a round may read what lay there. -/
def SeqF (P : Program) (gf : Nat) (lb : Array Value) (encs : α → Array Value) (xs : List α) (rb : List Nat) (w : World) : Prop :=
  ∀ (l : Nat) (c : Chunk) (I Ix : List α → Chunk → Prop) (T : List Nat) (W : World), Fr T w W → (∀ b ∈ rb, b ∉ T) → (∀ b ∈ c.fp, b ∉ rb) → I [] c → c.ok W → (∀ b ∈ c.fp, b < W.heap.size) →
    YieldsF P l encs xs c.fp W I Ix →
    Calls P gf (#[.func (.yield l) #[] #[]] ++ lb) W fun e W' => (∃ v, e = .returned v) ∧ ((∃ c', I xs c' ∧ Turn c W W' c') ∨ (∃ pre c', pre <+: xs ∧ Ix pre c' ∧ Turn c W W' c'))

theorem i_rangeFuncF {n : Nat} {g : Operand} {ps : Array Tmp} {assign body : Code} {Q : Exit → Act → World → Prop} {a : Act} {S : List Nat} {w0 W₀ : World} {c₀ : Chunk} {L : List Chunk}
    (hS : St S w0 W₀ (c₀ :: L)) {gf : Nat} {lb : Array Value} (hg : a.eval g = .func (.func gf) #[] lb) (eg : ∀ args w, (callFunc gf args).run P w = .ok (.enter gf args) w)
    {encs : α → Array Value} {xs : List α} {rb : List Nat} {w : World} (hseq : SeqF P gf lb encs xs rb w) {T : List Nat} (hfr : Fr T w W₀) (hrb1 : ∀ b ∈ rb, b ∉ T) (hrb2 : ∀ b ∈ c₀.fp, b ∉ rb) (hrb3 : ∀ b ∈ rb, b < w.heap.size)
    (hps : ∀ x, (encs x).size = ps.size) (I : List α → Chunk → Prop) (Ix : Code → List α → Chunk → Prop) (h0 : I [] c₀)
    (hround : ∀ (l : Nat) (pre : List α) (x : α) (c : Chunk) (W : World) (K : Act → World → Prop), pre ++ [x] <+: xs → Fr c₀.fp W₀ W → I pre c → c.ok W → (∀ b ∈ c.fp, b < W.heap.size) →
      (∀ a₁ W₁ c₁, Turn c W W₁ c₁ → (∀ W₂, (∀ S, Fr S W₀ W₁ → Fr S W₀ W₂) → c₁.ok W₂ → (∀ b ∈ c₁.fp, b < W₂.heap.size) → body.wpIn (Fence.wide.inRound l) 0 P (endsR I Ix (pre ++ [x]) c₁ W₂) a₁ W₂) → K a₁ W₁) →
      assign.wpIn (Fence.wide.inRound l) 0 P (Exit.then K (fun _ _ _ => False)) { tmps := (ps.zip (encs x)).foldl (fun t (p, v) => t.setIfInBounds p v) a.tmps, defers := [] } W)
    (hdone : ∀ (D : Nat) (W' : World) (c' : Chunk), I xs c' → St S w0 W' (dfr D :: c' :: L) → Q .normal { a with defers := { target := .collected D, args := #[] } :: a.defers } W')
    (hstop : ∀ (D : Nat) (code : Code) (pre : List α) (c' : Chunk) (W' : World), pre <+: xs → Ix code pre c' → St S w0 W' (dfr D :: c' :: L) → code.wpIn Fence.wide n P Q { a with defers := { target := .collected D, args := #[] } :: a.defers } W') :
    (Code.rangeFunc g ps assign body).wpIn Fence.wide n P Q a W₀ := by
  refine wpIn_rangeFunc ?_
  intro fn hfn
  obtain ⟨rec, hrec⟩ : ∃ rec : LoopState → Option Code → Loop, rec = fun st pe => { state := st, pending := pe, fn, tmps := a.tmps, params := ps, assign, body, defers := W₀.heap.size } := ⟨_, rfl⟩
  have hS1 := (hS.allocObj (.deferred (some []))).allocObj (.loop (rec .ready none))
  obtain ⟨W1, hW1⟩ : ∃ W1, (W₀.alloc (.deferred (some []))).alloc (.loop (rec .ready none)) = W1 := ⟨_, rfl⟩
  rw [hW1] at hS1
  rw [World.size_alloc] at hS1
  have hf1 : Fr T w W1 := by rw [← hW1]; exact (hfr.trans (Fr.alloc _ _ _)).trans (Fr.alloc _ _ _)
  have hS2 : St S w0 W1 (bun [blk (W₀.heap.size + 1) (.loop (rec .ready none)), dfr W₀.heap.size, c₀] :: L) := St.bundle (L1 := [blk (W₀.heap.size + 1) (.loop (rec .ready none)), dfr W₀.heap.size, c₀]) hS1
  refine ⟨W₀.heap.size + 1, [{ target := .collected W₀.heap.size, args := #[] }], W1, { target := .fn (.func gf) lb, args := #[.func (.yield (W₀.heap.size + 1)) #[] #[]] }, W1, gf,
    #[.func (.yield (W₀.heap.size + 1)) #[] #[]] ++ lb, W1, ?_, ?_, ?_, ?_, fun h => (by cases h), ?_⟩
  · rw [← hW1, hrec]; exact run_enterLoop_outer _ _ _ _ _
  · simp only [resolve, hg]
    simp [go_sem]
  · intro f' hf'; trivial
  · simp [invoke, go_sem, eg]
  have hFW : ∀ Wr, Fr (bun [blk (W₀.heap.size + 1) (.loop (rec .ready none)), dfr W₀.heap.size, c₀]).fp W1 Wr → Fr c₀.fp W₀ Wr := by
    intro Wr h
    have h0 : Fr [] W₀ W1 := by rw [← hW1]; exact (Fr.alloc _ _ _).trans (Fr.alloc _ _ _)
    refine ⟨h.os.trans h0.os, h.tape.trans h0.tape, h.output.trans h0.output, Nat.le_trans h0.size h.size, fun i hi hn => ?_⟩
    rw [h.block i (Nat.lt_of_lt_of_le hi h0.size) (fun hb => ?_)]
    · exact h0.block i hi (by simp)
    · obtain ⟨d, hd, h1⟩ := (bun_fp i).1 hb
      simp only [List.mem_cons, List.not_mem_nil, or_false] at hd
      rcases hd with rfl | rfl | rfl
      · simp [blk] at h1; omega
      · simp [dfr, blk] at h1; omega
      · exact hn h1
  · refine callsIn_wide.2 ((hseq (W₀.heap.size + 1) _ (fun pre C => ∃ c, I pre c ∧ C = bun [blk (W₀.heap.size + 1) (.loop (rec .ready none)), dfr W₀.heap.size, c])
      (fun pre C => ∃ code c, Ix code pre c ∧ C = bun [blk (W₀.heap.size + 1) (.loop (rec .done (some code))), dfr W₀.heap.size, c]) T W1 hf1 hrb1 ?_ ⟨c₀, h0, rfl⟩ (hS2.ok _ (by simp)).1 (fun b hb => ((hS2.ok _ (by simp)).2 b hb).1) ?_).mono ?_)
    · intro b hb hr
      have hlt := hrb3 b hr
      have hsz := hfr.size
      obtain ⟨d, hd, h1⟩ := (bun_fp b).1 hb
      simp only [List.mem_cons, List.not_mem_nil, or_false] at hd
      rcases hd with rfl | rfl | rfl
      · simp [blk] at h1; omega
      · simp [dfr, blk] at h1; omega
      · exact hrb2 b h1 hr
    · -- one round
      rintro pre x C Wr hpre hfW ⟨c1, hI, rfl⟩ hok hlt
      have hR := St.open hok
      have hl := hR.get (c := blk (W₀.heap.size + 1) (.loop (rec .ready none))) (by exact Has.head)
      have hy := run_yield (P := P) (args := encs x) hl (by rw [hrec]; exact hps x)
      rw [hrec] at hy
      refine ⟨fn, _, assign, body, hy, roundIn_of_wpIn trivial (hround _ pre x c1 Wr _ hpre (hFW Wr hfW) hI (hR.get (by exact Has.head.tail.tail)) (fun b hb => ((hR.ok c1 (by simp)).2 b hb).1) ?_)⟩
      intro a₁ W₁ c₁ ht hb
      have hR1 := hR.turn (c' := c₁) (by exact Upd.head.tail.tail) ht
      have hl1 := hR1.get (c := blk (W₀.heap.size + 1) (.loop (rec .ready none))) (by exact Has.head)
      refine ⟨_, run_beginRound hl1 (by rw [hrec]), ?_⟩
      have hR2 := hR1.putObj (o' := .loop { rec .ready none with state := .busy }) (by exact Upd.head)
      refine wpIn_mono (hb _ (fun S h => ⟨(fr_putObj W₁ _ _).os.trans h.os, (fr_putObj W₁ _ _).tape.trans h.tape, (fr_putObj W₁ _ _).output.trans h.output, Nat.le_trans h.size (fr_putObj W₁ _ _).size, fun i hi hn => ((fr_putObj W₁ (W₀.heap.size + 1) _).block i (Nat.lt_of_lt_of_le hi h.size) (by simp; omega)).trans (h.block i hi hn)⟩) (hR2.get (by exact Has.head.tail.tail)) (fun b hb => ((hR2.ok c₁ (by simp)).2 b hb).1)) ?_
      have fin : ∀ (jump : Option Code) (W3 : World) (c' : Chunk), Turn c₁ (W₁.putObj (W₀.heap.size + 1) (.loop { rec .ready none with state := .busy })) W3 c' →
          ∃ v W4, (Instr.endRound (W₀.heap.size + 1) jump).run P W3 = .ok v W4 ∧ v = .bool jump.isNone ∧
            Turn (bun [blk (W₀.heap.size + 1) (.loop (rec .ready none)), dfr W₀.heap.size, c1]) Wr W4 (bun [blk (W₀.heap.size + 1) (.loop (rec (if jump.isNone then .ready else .done) jump)), dfr W₀.heap.size, c']) := by
        intro jump W3 c' ht3
        have hR3 := hR2.turn (c' := c') (by exact Upd.head.tail.tail) ht3
        have hl3 := hR3.get (c := blk (W₀.heap.size + 1) (.loop { rec .ready none with state := .busy })) (by exact Has.head)
        have hr := run_endRound (P := P) jump hl3
        refine ⟨_, _, hr, rfl, ?_⟩
        have hR4 := hR3.putObj (o' := .loop (rec (if jump.isNone then .ready else .done) jump)) (by exact Upd.head)
        have e : ({ rec .ready none with state := if jump.isNone then .ready else .done, pending := jump } : Loop) = rec (if jump.isNone then .ready else .done) jump := by rw [hrec]
        rw [← e] at hR4 ⊢
        exact hR4.toTurn
      rintro e a3 W3 hp
      cases e with
      | normal =>
        obtain ⟨c', hi, ht3⟩ := hp
        obtain ⟨v, W4, hr, rfl, ht4⟩ := fin none W3 c' ht3
        exact ⟨_, _, hr, .inl ⟨rfl, _, ⟨c', hi, rfl⟩, ht4⟩⟩
      | ret =>
        obtain ⟨c', hi, ht3⟩ := hp
        obtain ⟨v, W4, hr, rfl, ht4⟩ := fin (some .ret) W3 c' ht3
        exact ⟨_, _, hr, .inr ⟨rfl, _, ⟨_, c', hi, rfl⟩, ht4⟩⟩
      | exit id =>
        obtain ⟨c', hi, ht3⟩ := hp
        obtain ⟨v, W4, hr, rfl, ht4⟩ := fin (some (.exit id)) W3 c' ht3
        exact ⟨_, _, hr, .inr ⟨rfl, _, ⟨_, c', hi, rfl⟩, ht4⟩⟩
      | goto t =>
        obtain ⟨c', hi, ht3⟩ := hp
        obtain ⟨v, W4, hr, rfl, ht4⟩ := fin (some (.goto t)) W3 c' ht3
        exact ⟨_, _, hr, .inr ⟨rfl, _, ⟨_, c', hi, rfl⟩, ht4⟩⟩
      | panic ch => exact hp.elim
      | outgrown => exact hp.elim
    · -- behind the iterator
      rintro e W2 ⟨⟨v, rfl⟩, (⟨_, ⟨c', hi, rfl⟩, ht⟩ | ⟨pre, _, hpre, ⟨code, c', hi, rfl⟩, ht⟩)⟩
      · have h2 := (hS2.turn (by exact Upd.head) ht).unbundle
        have hl := h2.get (c := blk (W₀.heap.size + 1) (.loop (rec .ready none))) (by exact Has.head)
        have hr := run_endLoop (P := P) hl (by rw [hrec]; simp)
        have h3 := (h2.putObj (o' := .loop { rec .ready none with state := .exhausted }) (by exact Upd.head)).drop
        refine ⟨none, _, by rw [hr, hrec], hdone _ _ c' hi h3⟩
      · have h2 := (hS2.turn (by exact Upd.head) ht).unbundle
        have hl := h2.get (c := blk (W₀.heap.size + 1) (.loop (rec .done (some code)))) (by exact Has.head)
        have hr := run_endLoop (P := P) hl (by rw [hrec]; simp)
        have h3 := (h2.putObj (o' := .loop { rec .done (some code) with state := .exhausted }) (by exact Upd.head)).drop
        refine ⟨some code, _, by rw [hr, hrec], hstop _ code pre c' _ hpre hi h3⟩
end
/-- Texts, each with its number. -/
def numL (ls : List (List UInt8)) : List (Nat × List UInt8) := ls.zipIdx.map fun p => (p.2, p.1)
theorem numL_len (ls : List (List UInt8)) : (numL ls).length = ls.length := by simp [numL]
theorem numL_get {ls : List (List UInt8)} {i : Nat} {x : List UInt8} (h : ls[i]? = some x) : (numL ls)[i]? = some (i, x) := by
  simp [numL, List.getElem?_zipIdx, h]
theorem numL_take {ls : List (List UInt8)} {i : Nat} {x : List UInt8} (h : ls[i]? = some x) : (numL ls).take (i + 1) = (numL ls).take i ++ [(i, x)] := by
  have h1 := map_take id (numL ls) i (i, x) (numL_get h)
  simpa using h1
abbrev argsL (x : Nat × List UInt8) : Array Value := #[.int .i64 (x.1 : Int), txt x.2]
/-- What an event's lines hand on. -/
noncomputable def seqP (e : Ev) : List (Nat × List UInt8) := if rightQ e then numL (linesP e ++ [[]]) else []

theorem eachP_s (eb : Nat) (e : Ev) (w : World) (hG : Glob w) (hb : (row eb 34 e.cs).ok w) (hq : rightQ e = true) :
    SeqF Tryz.prog 221 #[.pointer (some ⟨eb, 0, none⟩)] argsL (numL (linesP e ++ [[]])) [0, eb] w := by
  intro l c I Ix T W hfr hT hcr h0 hok hlt hY
  have hch : checkP e = true := by rw [checkP_eq, hq]
  have hsm := checkP_small hch
  have hok1 : okNo (rightP e) = 0 := by unfold rightP; rw [hch]; rfl
  have hGW : ∀ W', Fr c.fp W W' → Glob W' := fun W' h => (hG.fr hfr (hT 0 (by simp))).fr h (fun h => hcr _ h (by simp))
  have hb0 : ∀ W', Fr c.fp W W' → Rd W' eb 0 [txt e.id, txt e.ty, txt e.da] := fun W' h => ((Rd.of_row hb).fr hfr (hT eb (by simp))).fr h (fun h => hcr _ h (by simp))
  have hS : St c.fp W W [c] := ⟨Fr.refl _ _, by simp, fun d hd => by
    have : d = c := by simpa using hd
    subst this
    exact ⟨hok, fun b hb => ⟨hlt b hb, .inr hb⟩⟩⟩
  have hck := fun W' (hW : Glob W') => check_c W' hW e (by omega) (by omega) (by omega)
  rw [hok1] at hck
  have hly := fun W' (hW : Glob W') => lines_y W' hW e hsm hch
  have hll := (linesP_len e hsm).1
  obtain ⟨X, hX⟩ : ∃ X, X = linesP e := ⟨_, rfl⟩
  rw [← hX] at hY hly hll ⊢
  have e1 : sv X ++ [txt []] = sv (X ++ [[]]) := by rw [sv_append]; rfl
  have hlY : (X ++ [[]]).length = X.length + 1 := by simp
  obtain ⟨Y, hYd⟩ : ∃ Y, Y = X ++ [[]] := ⟨_, rfl⟩
  rw [← hYd] at hY e1 hlY ⊢
  have He1 := Lib.hid e1
  have Hb := Lib.hid hb0
  have HG := Lib.hid hGW
  have HY := Lib.hid hY
  have H0 := Lib.hid h0
  have Hck := Lib.hid hck
  have Hly := Lib.hid hly
  clear hb hfr hT hcr h0 hok hlt hY hb0 hGW hck hly hX hch hok1 hG e1 hYd
  refine (callsIn_wide (n := 1)).1 ?_
  change CallsIn Fence.wide 1 Tryz.prog 221 #[yv l, .pointer (some ⟨eb, 0, none⟩)] W _
  gi_enter Tryz.func221, Tryz.ntmps221
  gi_wp2_with (first | ((with_reducible apply i_want); rfl) | ((with_reducible apply i_read); rfl; exact Hb.out _ hS.fr; rfl) | (gi_at_call 45; go_must (refine callsIn_wide.2 ((Hck.out _ (HG.out _ hS.fr)).mono ?_)); rintro en w1 ⟨rfl, hf1⟩; replace hS := hS.keep hf1) | (gi_at_call 136; go_must (refine callsIn_wide.2 ((Hly.out _ (HG.out _ hS.fr)).mono ?_)); rintro en w1 ⟨v, rfl, hT⟩; replace hS := hS.join hT; simp only [List.cons_append, List.nil_append] at hS; obtain ⟨A, cp, rfl, hcp⟩ := (RdS.of_own (hT.get (c := own 9 1 v X.length (sv X)) (by exact Has.head))).shape; clear hT) | ((with_reducible apply i_append); assumption; rfl; rfl; (intro v'; (repeat (first | exact Upd.head | apply Upd.tail))); rfl; exact RdS.of_row (hS.get (by exact Has.head)) 1 1 rfl (Nat.le_refl _); simp [Value.oneCell']; omega; omega; clear hS; intro v' w hS hnil; obtain ⟨Aw, cw, rfl, hcw⟩ := (RdS.of_own (hS.get (by exact Has.head.tail))).shape) | ((with_reducible apply i_alloc); assumption; rfl; clear hS; intro b w hS) | ((with_reducible apply i_box); assumption; rfl; clear hS; intro b w hS) | ((with_reducible apply i_load); assumption; rfl; (repeat (first | exact Has.head | apply Has.tail)); (first | rfl | (simp [takeV]; done))) | ((with_reducible apply i_build); rfl; (simp [fillL, splice, Value.cells, Act.eval]; rfl)) | ((with_reducible apply i_buildA); rfl; (simp [fillL, splice, Value.cells, Act.eval]; rfl)) | ((with_reducible apply i_bslice); assumption; rfl; rfl; (first | (simp [fillL, splice, zeros, Value.cells, Act.eval]; rfl) | rfl); clear hS; intro b w hS) | ((with_reducible apply i_storeF); assumption; rfl; rfl; (repeat (first | exact Upd.head | apply Upd.tail)); rfl; clear hS; intro w hS) | ((with_reducible apply i_store); assumption; rfl; rfl; (repeat (first | exact Upd.head | apply Upd.tail)); rfl; clear hS; intro w hS; simp only [splice] at hS; try rw [splice_nil] at hS))
  have hS := hS.sub (L' := [own 9 1 (.slice Aw (X.length + 1) cw) (X.length + 1) (sv X ++ [txt []]), c]) (by (repeat (first | exact List.Sublist.slnil | exact List.Sublist.refl _ | apply List.Sublist.cons_cons | apply List.Sublist.cons)))
  rw [He1.out] at hS
  clear hnil hf1 Hck Hly He1
  gi_loopg [14] (X.length + 1) (fun g t14 wr => ∃ (i : Nat) (cc : Chunk), i + g = X.length + 1 ∧ t14 = .int .i64 (i : Int) ∧ Hid (I ((numL Y).take i) cc) ∧ St c.fp W wr [own 9 1 (.slice Aw (X.length + 1) cw) (X.length + 1) (sv Y), cc])
  case atStart => exact ⟨0, c, by omega, rfl, by simpa using H0, hS⟩
  case round =>
    obtain ⟨i, cc, hig, rfl, HI, hS⟩ := hrel
    by_cases hlt : i < X.length + 1
    · obtain ⟨x, hx⟩ : ∃ x, Y[i]? = some x := ⟨_, List.getElem?_eq_getElem (by omega)⟩
      have htk := numL_take hx
      have hrd0 := RdS.of_own (hS.get (c := own 9 1 (.slice Aw (X.length + 1) cw) (X.length + 1) (sv Y)) (by exact Has.head))
      obtain ⟨_, bb, o, rfl, hrd⟩ := hrd0.at i hlt (by decide)
      have hrd1 : Rd wr bb (o + i) [txt x] := by
        have := hrd.take 1
        rw [Nat.mul_one] at this
        have e1 : ((sv Y).drop i).take 1 = [txt x] := by
          rw [List.drop_eq_getElem_cons (by rw [sv_length]; omega)]
          have := (List.getElem?_eq_some_iff.1 hx).2
          simp [sv, this]
        rwa [e1] at this
      have hpx : (numL Y).take i ++ [(i, x)] <+: numL Y := by rw [← htk]; exact List.take_prefix _ _
      obtain ⟨fn, tmps, assign, body, hy, hR⟩ := HY.out _ (i, x) cc wr hpx hS.fr HI.out (hS.get (by repeat (first | exact Has.head | apply Has.tail))) (fun b hb => ((hS.ok cc (by simp)).2 b hb).1)
      have Hrd := Lib.hid hrd1
      have Htk := Lib.hid htk
      have HR := Lib.hid hR
      have Hpx := Lib.hid hpx
      clear hrd0 hrd hrd1 htk hx hR hpx HI HY
      gi_wp2_with (first | ((with_reducible apply i_want); rfl) | ((with_reducible apply i_read); rfl; exact Hrd.out; rfl) | ((with_reducible apply i_alloc); assumption; rfl; clear hS; intro b w hS) | ((with_reducible apply i_box); assumption; rfl; clear hS; intro b w hS) | ((with_reducible apply i_load); assumption; rfl; (repeat (first | exact Has.head | apply Has.tail)); (first | rfl | (simp [takeV]; done))) | ((with_reducible apply i_build); rfl; (simp [fillL, splice, Value.cells, Act.eval]; rfl)) | ((with_reducible apply i_buildA); rfl; (simp [fillL, splice, Value.cells, Act.eval]; rfl)) | ((with_reducible apply i_bslice); assumption; rfl; rfl; (first | (simp [fillL, splice, zeros, Value.cells, Act.eval]; rfl) | rfl); clear hS; intro b w hS) | ((with_reducible apply i_storeF); assumption; rfl; rfl; (repeat (first | exact Upd.head | apply Upd.tail)); rfl; clear hS; intro w hS) | ((with_reducible apply i_store); assumption; rfl; rfl; (repeat (first | exact Upd.head | apply Upd.tail)); rfl; clear hS; intro w hS; simp only [splice] at hS; try rw [splice_nil] at hS))
      refine HR.out.mono ?_
      rw [← Htk.out]
      rintro e5 w5 (⟨rfl, c2, hI2, ht⟩ | ⟨rfl, c2, hI2, ht⟩)
      · replace hS := hS.turn (c' := c2) (by exact Upd.head.tail) ht
        have HI2 := Lib.hid hI2
        clear hI2 ht HR
        gi_wp2_with (first | ((with_reducible apply i_want); rfl) | ((with_reducible apply i_alloc); assumption; rfl; clear hS; intro b w hS) | ((with_reducible apply i_box); assumption; rfl; clear hS; intro b w hS) | ((with_reducible apply i_load); assumption; rfl; (repeat (first | exact Has.head | apply Has.tail)); (first | rfl | (simp [takeV]; done))) | ((with_reducible apply i_build); rfl; (simp [fillL, splice, Value.cells, Act.eval]; rfl)) | ((with_reducible apply i_buildA); rfl; (simp [fillL, splice, Value.cells, Act.eval]; rfl)) | ((with_reducible apply i_bslice); assumption; rfl; rfl; (first | (simp [fillL, splice, zeros, Value.cells, Act.eval]; rfl) | rfl); clear hS; intro b w hS) | ((with_reducible apply i_storeF); assumption; rfl; rfl; (repeat (first | exact Upd.head | apply Upd.tail)); rfl; clear hS; intro w hS) | ((with_reducible apply i_store); assumption; rfl; rfl; (repeat (first | exact Upd.head | apply Upd.tail)); rfl; clear hS; intro w hS; simp only [splice] at hS; try rw [splice_nil] at hS))
        gi_roundg (gk - 1)
        case measure => omega
        case rel => exact ⟨i + 1, c2, by omega, by go_num, HI2, hS⟩
      · replace hS := hS.turn (c' := c2) (by exact Upd.head.tail) ht
        have HI2 := Lib.hid hI2
        clear hI2 ht HR
        gi_wp2_with (first | ((with_reducible apply i_want); rfl) | ((with_reducible apply i_alloc); assumption; rfl; clear hS; intro b w hS) | ((with_reducible apply i_box); assumption; rfl; clear hS; intro b w hS) | ((with_reducible apply i_load); assumption; rfl; (repeat (first | exact Has.head | apply Has.tail)); (first | rfl | (simp [takeV]; done))) | ((with_reducible apply i_build); rfl; (simp [fillL, splice, Value.cells, Act.eval]; rfl)) | ((with_reducible apply i_buildA); rfl; (simp [fillL, splice, Value.cells, Act.eval]; rfl)) | ((with_reducible apply i_bslice); assumption; rfl; rfl; (first | (simp [fillL, splice, zeros, Value.cells, Act.eval]; rfl) | rfl); clear hS; intro b w hS) | ((with_reducible apply i_storeF); assumption; rfl; rfl; (repeat (first | exact Upd.head | apply Upd.tail)); rfl; clear hS; intro w hS) | ((with_reducible apply i_store); assumption; rfl; rfl; (repeat (first | exact Upd.head | apply Upd.tail)); rfl; clear hS; intro w hS; simp only [splice] at hS; try rw [splice_nil] at hS))
        refine bodyPost_ret (results_none rfl _ _ _) rfl ?_
        exact ⟨⟨_, rfl⟩, .inr ⟨_, c2, List.take_prefix _ _, HI2.out, hS.turnOf (by repeat (first | exact Has.head | apply Has.tail))⟩⟩
    · have hie : i = X.length + 1 := by omega
      have hn : ¬ ((i : Int) < (X.length : Int) + 1) := by omega
      subst hie
      gi_wp2_with (first | ((with_reducible apply i_want); rfl) | ((with_reducible apply i_alloc); assumption; rfl; clear hS; intro b w hS) | ((with_reducible apply i_box); assumption; rfl; clear hS; intro b w hS) | ((with_reducible apply i_load); assumption; rfl; (repeat (first | exact Has.head | apply Has.tail)); (first | rfl | (simp [takeV]; done))) | ((with_reducible apply i_build); rfl; (simp [fillL, splice, Value.cells, Act.eval]; rfl)) | ((with_reducible apply i_buildA); rfl; (simp [fillL, splice, Value.cells, Act.eval]; rfl)) | ((with_reducible apply i_bslice); assumption; rfl; rfl; (first | (simp [fillL, splice, zeros, Value.cells, Act.eval]; rfl) | rfl); clear hS; intro b w hS) | ((with_reducible apply i_storeF); assumption; rfl; rfl; (repeat (first | exact Upd.head | apply Upd.tail)); rfl; clear hS; intro w hS) | ((with_reducible apply i_store); assumption; rfl; rfl; (repeat (first | exact Upd.head | apply Upd.tail)); rfl; clear hS; intro w hS; simp only [splice] at hS; try rw [splice_nil] at hS))
      go_end0
      refine ⟨⟨_, rfl⟩, .inl ⟨cc, ?_, hS.turnOf (by repeat (first | exact Has.head | apply Has.tail))⟩⟩
      have h := HI.out
      rwa [List.take_of_length_le (by rw [numL_len, hlY]; exact Nat.le_refl _)] at h

theorem eachN_s (eb : Nat) (e : Ev) (w : World) (hG : Glob w) (hb : (row eb 34 e.cs).ok w) (hq : rightQ e = false) (h0 : e.id.length ≤ 1099511627776) (h1 : e.ty.length ≤ 1099511627776) (h2 : e.da.length ≤ 1099511627776) :
    SeqF Tryz.prog 221 #[.pointer (some ⟨eb, 0, none⟩)] argsL [] [0, eb] w := by
  intro l c I Ix T W hfr hT hcr hI0 hok hlt hY
  have hch : checkP e = false := by rw [checkP_eq, hq]
  have hok1 : okNo (rightP e) = 2 := by unfold rightP; rw [hch]; rfl
  have hGW : ∀ W', Fr c.fp W W' → Glob W' := fun W' h => (hG.fr hfr (hT 0 (by simp))).fr h (fun h => hcr _ h (by simp))
  have hb0 : ∀ W', Fr c.fp W W' → Rd W' eb 0 [txt e.id, txt e.ty, txt e.da] := fun W' h => ((Rd.of_row hb).fr hfr (hT eb (by simp))).fr h (fun h => hcr _ h (by simp))
  have hS : St c.fp W W [c] := ⟨Fr.refl _ _, by simp, fun d hd => by
    have : d = c := by simpa using hd
    subst this
    exact ⟨hok, fun b hb => ⟨hlt b hb, .inr hb⟩⟩⟩
  have hck := fun W' (hW : Glob W') => check_c W' hW e h0 h1 h2
  rw [hok1] at hck
  have Hb := Lib.hid hb0
  have HG := Lib.hid hGW
  have H0 := Lib.hid hI0
  have Hck := Lib.hid hck
  clear hb hfr hT hcr hI0 hok hlt hY hb0 hGW hck hch hok1 hG h0 h1 h2
  refine (callsIn_wide (n := 1)).1 ?_
  change CallsIn Fence.wide 1 Tryz.prog 221 #[yv l, .pointer (some ⟨eb, 0, none⟩)] W _
  gi_enter Tryz.func221, Tryz.ntmps221
  gi_wp2_with (first | ((with_reducible apply i_want); rfl) | ((with_reducible apply i_read); rfl; exact Hb.out _ hS.fr; rfl) | (gi_at_call 45; go_must (refine callsIn_wide.2 ((Hck.out _ (HG.out _ hS.fr)).mono ?_)); rintro en w1 ⟨rfl, hf1⟩; replace hS := hS.keep hf1) | ((with_reducible apply i_alloc); assumption; rfl; clear hS; intro b w hS) | ((with_reducible apply i_box); assumption; rfl; clear hS; intro b w hS) | ((with_reducible apply i_load); assumption; rfl; (repeat (first | exact Has.head | apply Has.tail)); (first | rfl | (simp [takeV]; done))) | ((with_reducible apply i_build); rfl; (simp [fillL, splice, Value.cells, Act.eval]; rfl)) | ((with_reducible apply i_buildA); rfl; (simp [fillL, splice, Value.cells, Act.eval]; rfl)) | ((with_reducible apply i_bslice); assumption; rfl; rfl; (first | (simp [fillL, splice, zeros, Value.cells, Act.eval]; rfl) | rfl); clear hS; intro b w hS) | ((with_reducible apply i_storeF); assumption; rfl; rfl; (repeat (first | exact Upd.head | apply Upd.tail)); rfl; clear hS; intro w hS) | ((with_reducible apply i_store); assumption; rfl; rfl; (repeat (first | exact Upd.head | apply Upd.tail)); rfl; clear hS; intro w hS; simp only [splice] at hS; try rw [splice_nil] at hS))
  refine bodyPost_ret (results_none rfl _ _ _) rfl ?_
  exact ⟨⟨_, rfl⟩, .inl ⟨c, H0.out, hS.turnOf (by repeat (first | exact Has.head | apply Has.tail))⟩⟩

theorem each_s (eb : Nat) (e : Ev) (w : World) (hG : Glob w) (hb : (row eb 34 e.cs).ok w) (h0 : e.id.length ≤ 1099511627776) (h1 : e.ty.length ≤ 1099511627776) (h2 : e.da.length ≤ 1099511627776) :
    SeqF Tryz.prog 221 #[.pointer (some ⟨eb, 0, none⟩)] argsL (seqP e) [0, eb] w := by
  unfold seqP
  cases hq : rightQ e with
  | true => exact eachP_s eb e w hG hb hq
  | false => exact eachN_s eb e w hG hb hq h0 h1 h2

theorem everyE_c (w : World) (e : Ev) : Calls Tryz.prog 169 #[e.v] w fun en w' => ∃ eb, en = .returned (.func (.func 221) #[] #[.pointer (some ⟨eb, 0, none⟩)]) ∧ St [] w w' [row eb 34 e.cs] := by
  change Calls Tryz.prog 169 #[.agg ⟨[txt e.id, txt e.ty, txt e.da]⟩] w _
  go_enter Tryz.func169, Tryz.ntmps169
  have hS := St.start [] w
  go_wp2_with (first | ((with_reducible apply l_want); rfl) | ((with_reducible apply l_alloc); assumption; rfl; clear hS; intro b w hS) | ((with_reducible apply l_box); assumption; rfl; clear hS; intro b w hS) | ((with_reducible apply l_load); assumption; rfl; (repeat (first | exact Has.head | apply Has.tail)); (first | rfl | (simp [takeV]; done))) | ((with_reducible apply l_build); rfl; (simp [fillL, splice, Value.cells, Act.eval]; rfl)) | ((with_reducible apply l_buildA); rfl; (simp [fillL, splice, Value.cells, Act.eval]; rfl)) | ((with_reducible apply l_bslice); assumption; rfl; rfl; (first | (simp [fillL, splice, zeros, Value.cells, Act.eval]; rfl) | rfl); clear hS; intro b w hS) | ((with_reducible apply l_storeF); assumption; rfl; rfl; (repeat (first | exact Upd.head | apply Upd.tail)); rfl; clear hS; intro w hS) | ((with_reducible apply l_store); assumption; rfl; rfl; (repeat (first | exact Upd.head | apply Upd.tail)); rfl; clear hS; intro w hS; simp only [splice] at hS; try rw [splice_nil] at hS))
  go_ret
  exact ⟨_, rfl, hS⟩
theorem linesE_c (w : World) (e : Ev) : Calls Tryz.prog 86 #[e.v] w fun en w' => ∃ eb, en = .returned (.func (.func 168) #[] #[.pointer (some ⟨eb, 0, none⟩)]) ∧ St [] w w' [row eb 34 e.cs] := by
  change Calls Tryz.prog 86 #[.agg ⟨[txt e.id, txt e.ty, txt e.da]⟩] w _
  go_enter Tryz.func86, Tryz.ntmps86
  have hS := St.start [] w
  go_wp2_with (first | ((with_reducible apply l_want); rfl) | ((with_reducible apply l_alloc); assumption; rfl; clear hS; intro b w hS) | ((with_reducible apply l_box); assumption; rfl; clear hS; intro b w hS) | ((with_reducible apply l_load); assumption; rfl; (repeat (first | exact Has.head | apply Has.tail)); (first | rfl | (simp [takeV]; done))) | ((with_reducible apply l_build); rfl; (simp [fillL, splice, Value.cells, Act.eval]; rfl)) | ((with_reducible apply l_buildA); rfl; (simp [fillL, splice, Value.cells, Act.eval]; rfl)) | ((with_reducible apply l_bslice); assumption; rfl; rfl; (first | (simp [fillL, splice, zeros, Value.cells, Act.eval]; rfl) | rfl); clear hS; intro b w hS) | ((with_reducible apply l_storeF); assumption; rfl; rfl; (repeat (first | exact Upd.head | apply Upd.tail)); rfl; clear hS; intro w hS) | ((with_reducible apply l_store); assumption; rfl; rfl; (repeat (first | exact Upd.head | apply Upd.tail)); rfl; clear hS; intro w hS; simp only [splice] at hS; try rw [splice_nil] at hS))
  go_ret
  exact ⟨_, rfl, hS⟩
theorem i_scope {n : Nat} {P : Program} {c : Code} {Q : Exit → Act → World → Prop} {a : Act} {w : World} (h : c.wpIn Fence.wide n P (Exit.noGoto Q) a w) : (Code.scope c).wpIn Fence.wide n P Q a w :=
  wpIn_wide.2 (wp_scope_straight (wpIn_wide.1 h))
theorem linesE_s (eb : Nat) (e : Ev) (w : World) (hG : Glob w) (hb : (row eb 34 e.cs).ok w) (h0 : e.id.length ≤ 1099511627776) (h1 : e.ty.length ≤ 1099511627776) (h2 : e.da.length ≤ 1099511627776) :
    SeqF Tryz.prog 168 #[.pointer (some ⟨eb, 0, none⟩)] argsL (seqP e) [0, eb] w := by
  obtain ⟨X, hX⟩ : ∃ X, X = seqP e := ⟨_, rfl⟩
  have hsq := fun eb' W' (hW : Glob W') (hb' : (row eb' 34 e.cs).ok W') => each_s eb' e W' hW hb' h0 h1 h2
  rw [← hX] at hsq ⊢
  clear hX h0 h1 h2
  intro l c I Ix T W hfr hT hcr hI0 hok hlt hY
  have hGW : ∀ W', Fr c.fp W W' → Glob W' := fun W' h => (hG.fr hfr (hT 0 (by simp))).fr h (fun h => hcr _ h (by simp))
  have hb0 : ∀ W', Fr c.fp W W' → Rd W' eb 0 [txt e.id, txt e.ty, txt e.da] := fun W' h => ((Rd.of_row hb).fr hfr (hT eb (by simp))).fr h (fun h => hcr _ h (by simp))
  have hS : St c.fp W W [c] := ⟨Fr.refl _ _, by simp, fun d hd => by
    have : d = c := by simpa using hd
    subst this
    exact ⟨hok, fun b hb => ⟨hlt b hb, .inr hb⟩⟩⟩
  have hW0 : 0 < W.heap.size := by
    obtain ⟨m, hm⟩ := (hGW W (Fr.refl _ _)).maxLen
    exact World.block_lt_of_cell? W ⟨0, 0, none⟩ hm
  have h0c : 0 ∉ c.fp := fun h => hcr _ h (by simp)
  have Hb := Lib.hid hb0
  have HG := Lib.hid hGW
  have HY := Lib.hid hY
  have H0 := Lib.hid hI0
  have Hsq := Lib.hid hsq
  have Hcr := Lib.hid h0c
  clear hb hfr hT hcr hI0 hok hlt hY hb0 hGW hG hsq h0c
  refine (callsIn_wide (n := 1)).1 ?_
  change CallsIn Fence.wide 1 Tryz.prog 168 #[yv l, .pointer (some ⟨eb, 0, none⟩)] W _
  refine callsIn_of_wp_marks Tryz.func168 rfl trivial ?_
  simp only [Tryz.ntmps168, List.size_toArray, List.length_cons, List.length_nil, Nat.reduceAdd, Nat.reduceSub, Array.replicate_succ, Array.replicate_zero, List.push_toArray, List.append_toArray, List.nil_append, List.cons_append]
  gi_wp2_with (first | ((with_reducible apply i_want); rfl) | ((with_reducible apply i_alloc); assumption; rfl; clear hS; intro b w hS) | ((with_reducible apply i_box); assumption; rfl; clear hS; intro b w hS) | ((with_reducible apply i_load); assumption; rfl; (repeat (first | exact Has.head | apply Has.tail)); (first | rfl | (simp [takeV]; done))) | ((with_reducible apply i_build); rfl; (simp [fillL, splice, Value.cells, Act.eval]; rfl)) | ((with_reducible apply i_buildA); rfl; (simp [fillL, splice, Value.cells, Act.eval]; rfl)) | ((with_reducible apply i_bslice); assumption; rfl; rfl; (first | (simp [fillL, splice, zeros, Value.cells, Act.eval]; rfl) | rfl); clear hS; intro b w hS) | ((with_reducible apply i_storeF); assumption; rfl; rfl; (repeat (first | exact Upd.head | apply Upd.tail)); rfl; clear hS; intro w hS) | ((with_reducible apply i_store); assumption; rfl; rfl; (repeat (first | exact Upd.head | apply Upd.tail)); rfl; clear hS; intro w hS; simp only [splice] at hS; try rw [splice_nil] at hS))
  refine i_scope ?_
  gi_wp2_with (first | ((with_reducible apply i_want); rfl) | ((with_reducible apply i_alloc); assumption; rfl; clear hS; intro b w hS) | ((with_reducible apply i_box); assumption; rfl; clear hS; intro b w hS) | ((with_reducible apply i_load); assumption; rfl; (repeat (first | exact Has.head | apply Has.tail)); (first | rfl | (simp [takeV]; done))) | ((with_reducible apply i_build); rfl; (simp [fillL, splice, Value.cells, Act.eval]; rfl)) | ((with_reducible apply i_buildA); rfl; (simp [fillL, splice, Value.cells, Act.eval]; rfl)) | ((with_reducible apply i_bslice); assumption; rfl; rfl; (first | (simp [fillL, splice, zeros, Value.cells, Act.eval]; rfl) | rfl); clear hS; intro b w hS) | ((with_reducible apply i_storeF); assumption; rfl; rfl; (repeat (first | exact Upd.head | apply Upd.tail)); rfl; clear hS; intro w hS) | ((with_reducible apply i_store); assumption; rfl; rfl; (repeat (first | exact Upd.head | apply Upd.tail)); rfl; clear hS; intro w hS; simp only [splice] at hS; try rw [splice_nil] at hS))
  refine wpIn_label ?_
  gi_wp2_with (first | ((with_reducible apply i_want); rfl) | ((with_reducible apply i_read); rfl; exact Hb.out _ hS.fr; rfl) | (gi_at_call 169; go_must (refine callsIn_wide.2 ((everyE_c _ e).mono ?_)); rintro en w1 ⟨e2, rfl, hT⟩; have hE := hT.get (c := row e2 34 e.cs) (by exact Has.head); have hbb := (hT.ok _ (List.mem_cons_self)).2 e2 (by simp [row, blk]); have hf1 := hT.fr; have hold := hS; replace hS := hS.keep hf1) | ((with_reducible apply i_alloc); assumption; rfl; clear hS; intro b w hS) | ((with_reducible apply i_box); assumption; rfl; clear hS; intro b w hS) | ((with_reducible apply i_load); assumption; rfl; (repeat (first | exact Has.head | apply Has.tail)); (first | rfl | (simp [takeV]; done))) | ((with_reducible apply i_build); rfl; (simp [fillL, splice, Value.cells, Act.eval]; rfl)) | ((with_reducible apply i_buildA); rfl; (simp [fillL, splice, Value.cells, Act.eval]; rfl)) | ((with_reducible apply i_bslice); assumption; rfl; rfl; (first | (simp [fillL, splice, zeros, Value.cells, Act.eval]; rfl) | rfl); clear hS; intro b w hS) | ((with_reducible apply i_storeF); assumption; rfl; rfl; (repeat (first | exact Upd.head | apply Upd.tail)); rfl; clear hS; intro w hS) | ((with_reducible apply i_store); assumption; rfl; rfl; (repeat (first | exact Upd.head | apply Upd.tail)); rfl; clear hS; intro w hS; simp only [splice] at hS; try rw [splice_nil] at hS))
  have hG1 : Glob w1 := HG.out _ hS.fr
  have hS2 := St.bundle (L1 := [_, _]) (L2 := []) hS
  have hSb := hS
  refine i_rangeFuncF (P := Tryz.prog) hS2 rfl (enters_of Tryz.func221 (by kernel_rfl) rfl) (Hsq.out e2 w1 hG1 hE) (T := []) (Fr.refl _ _) (by simp) ?_ ?_ (fun x => rfl)
    (fun pre C => ∃ c1, I pre c1 ∧ C = bun [row b 270 [yv l], c1]) (fun code pre C => code = .exit 0 ∧ ∃ c1, Ix pre c1 ∧ C = bun [row b 270 [yv l], c1]) ⟨_, H0.out, rfl⟩ ?_ ?_ ?_
  · intro k hk hk2
    obtain ⟨d, hd, h1⟩ := (bun_fp k).1 hk
    have hkS := (hold.ok d hd).2 k h1
    rcases List.mem_cons.1 hk2 with rfl | h2
    · rcases hkS.2 with h3 | h3
      · omega
      · exact Hcr.out h3
    · have : k = e2 := by simpa using h2
      subst this
      rcases hbb.2 with h3 | h3
      · omega
      · cases h3
  · intro k hk
    rcases List.mem_cons.1 hk with rfl | h2
    · exact Nat.lt_of_lt_of_le hW0 hS.fr.size
    · have : k = e2 := by simpa using h2
      subst this
      exact hbb.1
  · rintro l2 pre ⟨i, x⟩ C W3 K hpre hfr0 ⟨c1, hI, rfl⟩ hok hlt hK
    gi_wp2
    refine hK _ _ _ (Turn.refl hok hlt) ?_
    intro W2 hfr2 hok2 hlt2
    have hS := St.open hok2
    obtain ⟨fn, tmps, assign, body, hy, hR⟩ := HY.out pre (i, x) c1 W2 hpre (hSb.frame_bun (hfr2 _ hfr0)) hI (hS.get (by repeat (first | exact Has.head | apply Has.tail))) (fun b hb => ((hS.ok c1 (by simp)).2 b hb).1)
    have HR := Lib.hid hR
    clear hok hlt hK hSb hfr0 hfr2 hS2 hT hE hbb hold hf1 hR hpre hI hok2 hlt2 HY
    gi_wp2_with (first | ((with_reducible apply i_want); rfl) | ((with_reducible apply i_alloc); assumption; rfl; clear hS; intro b w hS) | ((with_reducible apply i_box); assumption; rfl; clear hS; intro b w hS) | ((with_reducible apply i_load); assumption; rfl; (repeat (first | exact Has.head | apply Has.tail)); (first | rfl | (simp [takeV]; done))) | ((with_reducible apply i_build); rfl; (simp [fillL, splice, Value.cells, Act.eval]; rfl)) | ((with_reducible apply i_buildA); rfl; (simp [fillL, splice, Value.cells, Act.eval]; rfl)) | ((with_reducible apply i_bslice); assumption; rfl; rfl; (first | (simp [fillL, splice, zeros, Value.cells, Act.eval]; rfl) | rfl); clear hS; intro b w hS) | ((with_reducible apply i_storeF); assumption; rfl; rfl; (repeat (first | exact Upd.head | apply Upd.tail)); rfl; clear hS; intro w hS) | ((with_reducible apply i_store); assumption; rfl; rfl; (repeat (first | exact Upd.head | apply Upd.tail)); rfl; clear hS; intro w hS; simp only [splice] at hS; try rw [splice_nil] at hS))
    refine HR.out.mono ?_
    rintro e5 w5 (⟨rfl, c2, hI2, ht⟩ | ⟨rfl, c2, hI2, ht⟩)
    · replace hS := hS.turn (c' := c2) (by exact Upd.head.tail) ht
      have HI2 := Lib.hid hI2
      clear hI2 ht HR
      gi_wp2_with (first | ((with_reducible apply i_want); rfl) | ((with_reducible apply i_alloc); assumption; rfl; clear hS; intro b w hS) | ((with_reducible apply i_box); assumption; rfl; clear hS; intro b w hS) | ((with_reducible apply i_load); assumption; rfl; (repeat (first | exact Has.head | apply Has.tail)); (first | rfl | (simp [takeV]; done))) | ((with_reducible apply i_build); rfl; (simp [fillL, splice, Value.cells, Act.eval]; rfl)) | ((with_reducible apply i_buildA); rfl; (simp [fillL, splice, Value.cells, Act.eval]; rfl)) | ((with_reducible apply i_bslice); assumption; rfl; rfl; (first | (simp [fillL, splice, zeros, Value.cells, Act.eval]; rfl) | rfl); clear hS; intro b w hS) | ((with_reducible apply i_storeF); assumption; rfl; rfl; (repeat (first | exact Upd.head | apply Upd.tail)); rfl; clear hS; intro w hS) | ((with_reducible apply i_store); assumption; rfl; rfl; (repeat (first | exact Upd.head | apply Upd.tail)); rfl; clear hS; intro w hS; simp only [splice] at hS; try rw [splice_nil] at hS))
      exact ⟨_, ⟨c2, HI2.out, rfl⟩, hS.toTurn⟩
    · replace hS := hS.turn (c' := c2) (by exact Upd.head.tail) ht
      have HI2 := Lib.hid hI2
      clear hI2 ht HR
      gi_wp2_with (first | ((with_reducible apply i_want); rfl) | ((with_reducible apply i_alloc); assumption; rfl; clear hS; intro b w hS) | ((with_reducible apply i_box); assumption; rfl; clear hS; intro b w hS) | ((with_reducible apply i_load); assumption; rfl; (repeat (first | exact Has.head | apply Has.tail)); (first | rfl | (simp [takeV]; done))) | ((with_reducible apply i_build); rfl; (simp [fillL, splice, Value.cells, Act.eval]; rfl)) | ((with_reducible apply i_buildA); rfl; (simp [fillL, splice, Value.cells, Act.eval]; rfl)) | ((with_reducible apply i_bslice); assumption; rfl; rfl; (first | (simp [fillL, splice, zeros, Value.cells, Act.eval]; rfl) | rfl); clear hS; intro b w hS) | ((with_reducible apply i_storeF); assumption; rfl; rfl; (repeat (first | exact Upd.head | apply Upd.tail)); rfl; clear hS; intro w hS) | ((with_reducible apply i_store); assumption; rfl; rfl; (repeat (first | exact Upd.head | apply Upd.tail)); rfl; clear hS; intro w hS; simp only [splice] at hS; try rw [splice_nil] at hS))
      exact ⟨_, ⟨rfl, c2, HI2.out, rfl⟩, hS.toTurn⟩
  · rintro D W' _ ⟨c1, hI, rfl⟩ hS
    have hS := (hS.pick (by exact .tail .head)).unbundle
    simp only [List.cons_append, List.nil_append] at hS
    have HI := Lib.hid hI
    clear hS2 hSb hT hE hbb hold hf1 hI
    gi_wp2_with (first | ((with_reducible apply i_want); rfl) | ((with_reducible apply i_alloc); assumption; rfl; clear hS; intro b w hS) | ((with_reducible apply i_box); assumption; rfl; clear hS; intro b w hS) | ((with_reducible apply i_load); assumption; rfl; (repeat (first | exact Has.head | apply Has.tail)); (first | rfl | (simp [takeV]; done))) | ((with_reducible apply i_build); rfl; (simp [fillL, splice, Value.cells, Act.eval]; rfl)) | ((with_reducible apply i_buildA); rfl; (simp [fillL, splice, Value.cells, Act.eval]; rfl)) | ((with_reducible apply i_bslice); assumption; rfl; rfl; (first | (simp [fillL, splice, zeros, Value.cells, Act.eval]; rfl) | rfl); clear hS; intro b w hS) | ((with_reducible apply i_storeF); assumption; rfl; rfl; (repeat (first | exact Upd.head | apply Upd.tail)); rfl; clear hS; intro w hS) | ((with_reducible apply i_store); assumption; rfl; rfl; (repeat (first | exact Upd.head | apply Upd.tail)); rfl; clear hS; intro w hS; simp only [splice] at hS; try rw [splice_nil] at hS))
    obtain ⟨W7, ht7, hS7⟩ := (hS.pick (by exact .tail (.tail .head))).take (P := Tryz.prog)
    refine ⟨by simp, .inl ⟨_, _, rfl, ht7, ?_⟩⟩
    exact ⟨_, results_none rfl _ _ _, ⟨_, rfl⟩, .inl ⟨c1, HI.out, hS7.turnOf (by repeat (first | exact Has.head | apply Has.tail))⟩⟩
  · rintro D code pre _ W' hpre ⟨rfl, c1, hI, rfl⟩ hS
    have hS := (hS.pick (by exact .tail .head)).unbundle
    simp only [List.cons_append, List.nil_append] at hS
    have HI := Lib.hid hI
    have Hpre := Lib.hid hpre
    clear hS2 hSb hT hE hbb hold hf1 hI hpre
    gi_wp2_with (first | ((with_reducible apply i_want); rfl) | ((with_reducible apply i_alloc); assumption; rfl; clear hS; intro b w hS) | ((with_reducible apply i_box); assumption; rfl; clear hS; intro b w hS) | ((with_reducible apply i_load); assumption; rfl; (repeat (first | exact Has.head | apply Has.tail)); (first | rfl | (simp [takeV]; done))) | ((with_reducible apply i_build); rfl; (simp [fillL, splice, Value.cells, Act.eval]; rfl)) | ((with_reducible apply i_buildA); rfl; (simp [fillL, splice, Value.cells, Act.eval]; rfl)) | ((with_reducible apply i_bslice); assumption; rfl; rfl; (first | (simp [fillL, splice, zeros, Value.cells, Act.eval]; rfl) | rfl); clear hS; intro b w hS) | ((with_reducible apply i_storeF); assumption; rfl; rfl; (repeat (first | exact Upd.head | apply Upd.tail)); rfl; clear hS; intro w hS) | ((with_reducible apply i_store); assumption; rfl; rfl; (repeat (first | exact Upd.head | apply Upd.tail)); rfl; clear hS; intro w hS; simp only [splice] at hS; try rw [splice_nil] at hS))
    obtain ⟨W7, ht7, hS7⟩ := (hS.pick (by exact .tail (.tail .head))).take (P := Tryz.prog)
    refine ⟨by simp, .inl ⟨_, _, rfl, ht7, ?_⟩⟩
    exact ⟨_, results_none rfl _ _ _, ⟨_, rfl⟩, .inr ⟨_, c1, Hpre.out, HI.out, hS7.turnOf (by repeat (first | exact Has.head | apply Has.tail))⟩⟩
/-- A range over a function in a block that its rounds may leave. -/
theorem i_rangeFuncG {α : Type} {P : Program} {n : Nat} {g : Operand} {ps : Array Tmp} {assign body : Code} {Q : Exit → Act → World → Prop} {a : Act} {S : List Nat} {w0 W₀ : World} {c₀ : Chunk} {L : List Chunk} {id : Nat}
    (hS : St S w0 W₀ (c₀ :: L)) {gf : Nat} {lb : Array Value} (hg : a.eval g = .func (.func gf) #[] lb) (eg : ∀ args w, (callFunc gf args).run P w = .ok (.enter gf args) w)
    {encs : α → Array Value} {xs : List α} {rb : List Nat} {w : World} (hseq : SeqF P gf lb encs xs rb w) {T : List Nat} (hfr : Fr T w W₀) (hrb1 : ∀ b ∈ rb, b ∉ T) (hrb2 : ∀ b ∈ c₀.fp, b ∉ rb) (hrb3 : ∀ b ∈ rb, b < w.heap.size)
    (hps : ∀ x, (encs x).size = ps.size) (I : List α → Chunk → Prop) (Ix : List α → Chunk → Prop) (J : Chunk → Prop) (h0 : I [] c₀)
    (hround : ∀ (l : Nat) (pre : List α) (x : α) (c : Chunk) (W : World) (K : Act → World → Prop), pre ++ [x] <+: xs → Fr c₀.fp W₀ W → I pre c → c.ok W → (∀ b ∈ c.fp, b < W.heap.size) →
      (∀ a₁ W₁ c₁, Turn c W W₁ c₁ → (∀ W₂, (∀ S, Fr S W₀ W₁ → Fr S W₀ W₂) → c₁.ok W₂ → (∀ b ∈ c₁.fp, b < W₂.heap.size) → body.wpIn (Fence.wide.inRound l) 0 P (endsR I (fun code pre c => code = .exit id ∧ Ix pre c) (pre ++ [x]) c₁ W₂) a₁ W₂) → K a₁ W₁) →
      assign.wpIn (Fence.wide.inRound l) 0 P (Exit.then K (fun _ _ _ => False)) { tmps := (ps.zip (encs x)).foldl (fun t (p, v) => t.setIfInBounds p v) a.tmps, defers := [] } W)
    (hJ : ∀ c', I xs c' → J c') (hJx : ∀ pre c', pre <+: xs → Ix pre c' → J c')
    (hend : ∀ (D : Nat) (W' : World) (c' : Chunk), J c' → St S w0 W' (dfr D :: c' :: L) → Q .normal { a with defers := { target := .collected D, args := #[] } :: a.defers } W') :
    (Code.rangeFunc g ps assign body).wpIn Fence.wide n P (Exit.inBlock id Q) a W₀ := by
  refine i_rangeFuncF hS hg eg hseq hfr hrb1 hrb2 hrb3 hps I (fun code pre c => code = .exit id ∧ Ix pre c) h0 hround ?_ ?_
  · intro D W' c' hI hS'
    exact hend D W' c' (hJ c' hI) hS'
  · rintro D code pre c' W' hpre ⟨rfl, hI⟩ hS'
    refine wpIn_exit ?_
    show (if id = id then Q .normal _ _ else _)
    rw [if_pos rfl]
    exact hend D W' c' (hJx pre c' hpre hI) hS'
theorem numL_at (X : List (List UInt8)) (k : Nat) : (numL X)[k]? = (X[k]?).map fun x => (k, x) := by
  cases h : X[k]? <;> simp [numL, List.getElem?_zipIdx, h]
theorem numL_pre {X : List (List UInt8)} {pre : List (Nat × List UInt8)} {i : Nat} {x : List UInt8} (h : pre ++ [(i, x)] <+: numL X) : i = pre.length ∧ X[pre.length]? = some x := by
  obtain ⟨t, ht⟩ := h
  have h1 := congrArg (fun l => l[pre.length]?) ht
  simp only [List.append_assoc] at h1
  rw [List.getElem?_append_right (Nat.le_refl _), Nat.sub_self, numL_at] at h1
  cases hX : X[pre.length]? with
  | none => rw [hX] at h1; cases h1
  | some y =>
    rw [hX] at h1
    simp at h1
    exact ⟨h1.1, by rw [h1.2]⟩
theorem sv_rd {W : World} {A : Option Addr} {n cp : Nat} {X : List (List UInt8)} (h : RdS W 1 (.slice A n cp) n (sv X)) {i : Nat} {x : List UInt8} (hn : X.length = n) (hx : X[i]? = some x) (hc : n ≤ 1000000) :
    ∃ bb o, A = some ⟨bb, o, none⟩ ∧ Rd W bb (o + i) [txt x] := by
  have hlt := (List.getElem?_eq_some_iff.1 hx).1
  obtain ⟨_, bb, o, rfl, hrd⟩ := h.at i (by omega) (by decide)
  refine ⟨bb, o, rfl, ?_⟩
  have := hrd.take 1
  rw [Nat.mul_one] at this
  have e1 : ((sv X).drop i).take 1 = [txt x] := by
    rw [List.drop_eq_getElem_cons (by rw [sv_length]; omega)]
    have := (List.getElem?_eq_some_iff.1 hx).2
    simp [sv, this]
  rwa [e1] at this
theorem run_eqNil (k : Nat) (lb : Array Value) (W : World) : (binOp .eql 146 (.func (.func k) #[] lb) .nilFunc).run Tryz.prog W = .ok (.bool false) W := by
  kernel_rfl
/-- What the document's Lines tells. -/
noncomputable def wantP (e : Ev) : List (List UInt8) := if rightQ e then linesP e ++ [[]] else []
theorem seqP_want (e : Ev) : seqP e = numL (wantP e) := by
  unfold seqP wantP
  cases rightQ e <;> rfl
end Go.Proofs.YtaejmginhkbbhaaGreatDoor
