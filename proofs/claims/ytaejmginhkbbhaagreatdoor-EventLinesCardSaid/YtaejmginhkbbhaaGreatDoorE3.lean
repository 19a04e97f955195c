/- The walk through law 07's EventLines (F13). Conditions: as each contract says. -/
import Derived.Test.YtaejmginhkbbhaaGreatDoorE1
import Derived.Test.YtaejmginhkbbhaaGreatDoorL2
set_option linter.unusedSimpArgs false
set_option linter.unusedVariables false
set_option maxRecDepth 100000
set_option maxHeartbeats 1000000
namespace Go.Proofs.YtaejmginhkbbhaaGreatDoor
open Go Go.RowKit
attribute [local go_sem] Oper.semAt_some
/-- A range over a function in a block that its rounds may leave. -/
theorem i_rangeFuncB {α : Type} {P : Program} {n : Nat} {g : Operand} {ps : Array Tmp} {assign body : Code} {Q : Exit → Act → World → Prop} {a : Act} {S : List Nat} {w0 W : World} {c : Chunk} {L : List Chunk} {id : Nat}
    (hS : St S w0 W (c :: L)) {gf : Nat} {lb : Array Value} (hg : a.eval g = .func (.func gf) #[] lb) (eg : ∀ args w, (callFunc gf args).run P w = .ok (.enter gf args) w)
    {encs : α → Array Value} {xs : List α} {rb : List Nat} {w : World} (hseq : SeqC P gf lb encs xs rb w) {T : List Nat} (hfr : Fr T w W) (hrb1 : ∀ b ∈ rb, b ∉ T) (hrb2 : ∀ b ∈ c.fp, b ∉ rb) (hrb3 : ∀ b ∈ rb, b < w.heap.size)
    (hps : ∀ x, (encs x).size = ps.size) (I : List α → Chunk → Prop) (Ix : List α → Chunk → Prop) (J : Chunk → Prop) (h0 : I [] c)
    (hround : ∀ (l : Nat) (pre : List α) (x : α) (c : Chunk) (W : World) (K : Act → World → Prop), pre ++ [x] <+: xs → I pre c → c.ok W → (∀ b ∈ c.fp, b < W.heap.size) →
      (∀ a₁ W₁ c₁, Turn c W W₁ c₁ → (∀ W₂, c₁.ok W₂ → (∀ b ∈ c₁.fp, b < W₂.heap.size) → body.wpIn (Fence.wide.inRound l) 0 P (endsR I (fun code pre c => code = .exit id ∧ Ix pre c) (pre ++ [x]) c₁ W₂) a₁ W₂) → K a₁ W₁) →
      assign.wpIn (Fence.wide.inRound l) 0 P (Exit.then K (fun _ _ _ => False)) { tmps := (ps.zip (encs x)).foldl (fun t (p, v) => t.setIfInBounds p v) a.tmps, defers := [] } W)
    (hJ : ∀ c', I xs c' → J c') (hJx : ∀ pre c', pre <+: xs → Ix pre c' → J c')
    (hend : ∀ (D : Nat) (W' : World) (c' : Chunk), J c' → St S w0 W' (dfr D :: c' :: L) → Q .normal { a with defers := { target := .collected D, args := #[] } :: a.defers } W') :
    (Code.rangeFunc g ps assign body).wpIn Fence.wide n P (Exit.inBlock id Q) a W := by
  refine i_rangeFunc hS hg eg hseq hfr hrb1 hrb2 hrb3 hps I (fun code pre c => code = .exit id ∧ Ix pre c) h0 hround ?_ ?_
  · intro D W' c' hI hS'
    exact hend D W' c' (hJ c' hI) hS'
  · rintro D code pre c' W' hpre ⟨rfl, hI⟩ hS'
    refine wpIn_exit ?_
    show (if id = id then Q .normal _ _ else _)
    rw [if_pos rfl]
    exact hend D W' c' (hJx pre c' hpre hI) hS'
theorem numL_at (X : List (List UInt8)) (k : Nat) : (numL X)[k]? = (X[k]?).map fun x => (k, x) := by
  cases h : X[k]? <;> simp [numL, List.getElem?_zipIdx, h]
theorem numL_pre {X : List (List UInt8)} {pre : List (Nat × List UInt8)} {i : Nat} {x : List UInt8} (h : pre ++ [(i, x)] <+: numL X) : i = pre.length ∧ X[pre.length]? = some x := by
  obtain ⟨t, ht⟩ := h
  have h1 := congrArg (fun l => l[pre.length]?) ht
  simp only [List.append_assoc] at h1
  rw [List.getElem?_append_right (Nat.le_refl _), Nat.sub_self, numL_at] at h1
  cases hX : X[pre.length]? with
  | none => rw [hX] at h1; cases h1
  | some y =>
    rw [hX] at h1
    simp at h1
    exact ⟨h1.1, by rw [h1.2]⟩
theorem sv_rd {W : World} {A : Option Addr} {n cp : Nat} {X : List (List UInt8)} (h : RdS W 1 (.slice A n cp) n (sv X)) {i : Nat} {x : List UInt8} (hn : X.length = n) (hx : X[i]? = some x) (hc : n ≤ 1000000) :
    ∃ bb o, A = some ⟨bb, o, none⟩ ∧ Rd W bb (o + i) [txt x] := by
  have hlt := (List.getElem?_eq_some_iff.1 hx).1
  obtain ⟨_, bb, o, rfl, hrd⟩ := h.at i (by omega) (by decide)
  refine ⟨bb, o, rfl, ?_⟩
  have := hrd.take 1
  rw [Nat.mul_one] at this
  have e1 : ((sv X).drop i).take 1 = [txt x] := by
    rw [List.drop_eq_getElem_cons (by rw [sv_length]; omega)]
    have := (List.getElem?_eq_some_iff.1 hx).2
    simp [sv, this]
  rwa [e1] at this
theorem run_eqNil (k : Nat) (lb : Array Value) (W : World) : (binOp .eql 146 (.func (.func k) #[] lb) .nilFunc).run Tryz.prog W = .ok (.bool false) W := by
  kernel_rfl
attribute [local go_sem] run_eqNil
theorem elines_f (w0 : World) (hG : GlobT w0) (e : Ev) (m : Int) (hf : fewP e = false) : Calls Tryz.prog 13 #[e.v, .int .i64 m] w0 fun en w' => en = .returned (.bool true) ∧ Fr [] w0 w' := by
  have hfw := fun W => few_c W e
  rw [hf] at hfw
  have Hfw := Lib.hid hfw
  clear hfw hf
  change Calls Tryz.prog 13 #[.agg ⟨[txt e.id, txt e.ty, txt e.da]⟩, .int .i64 m] w0 _
  go_enter Tryz.func13, Tryz.ntmps13
  have hS := St.start [] w0
  go_wp2_with (first | ((with_reducible apply l_want); rfl) | (go_at_call 36; go_must (refine (Hfw.out _).mono ?_); rintro en w1 ⟨rfl, hf1⟩; replace hS := hS.keep hf1) | (go_at_call 37; go_must (refine (works_c _ (hG.keep hS.fr)).mono ?_); rintro en w1 ⟨rfl, hf1⟩; replace hS := hS.keep hf1) | ((with_reducible apply l_alloc); assumption; rfl; clear hS; intro b w hS) | ((with_reducible apply l_box); assumption; rfl; clear hS; intro b w hS) | ((with_reducible apply l_load); assumption; rfl; (repeat (first | exact Has.head | apply Has.tail)); (first | rfl | (simp [takeV]; done))) | ((with_reducible apply l_build); rfl; (simp [fillL, splice, Value.cells, Act.eval]; rfl)) | ((with_reducible apply l_buildA); rfl; (simp [fillL, splice, Value.cells, Act.eval]; rfl)) | ((with_reducible apply l_bslice); assumption; rfl; rfl; (first | (simp [fillL, splice, zeros, Value.cells, Act.eval]; rfl) | rfl); clear hS; intro b w hS) | ((with_reducible apply l_storeF); assumption; rfl; rfl; (repeat (first | exact Upd.head | apply Upd.tail)); rfl; clear hS; intro w hS) | ((with_reducible apply l_store); assumption; rfl; rfl; (repeat (first | exact Upd.head | apply Upd.tail)); rfl; clear hS; intro w hS; simp only [splice] at hS; try rw [splice_nil] at hS))
  refine bodyPost_ret (results_c1 (k := 1) (agg := false) rfl hS rfl (by repeat (first | exact Has.head | apply Has.tail)) rfl) rfl ⟨rfl, hS.fr⟩
/-- What the document's Lines tells. -/
noncomputable def wantP (e : Ev) : List (List UInt8) := if rightQ e then linesP e ++ [[]] else []
theorem want_c (w0 : World) (e : Ev) (hsm : e.id.length + e.ty.length + e.da.length ≤ 65536) :
    Calls Tryz.prog 85 #[e.v] w0 fun en w' => ∃ v, en = .returned v ∧ St [] w0 w' [own 9 1 v (wantP e).length (sv (wantP e))] := by
  unfold wantP
  cases hq : rightQ e with
  | true => exact rlines_y w0 e hq
  | false =>
    refine (rlines_n w0 e hsm hq).mono ?_
    rintro en w1 ⟨rfl, hf⟩
    refine ⟨_, rfl, ?_⟩
    have hS := ((St.start [] w0).keep hf).addNil (c' := own 9 1 (.slice none 0 0) ([] : List (List UInt8)).length (sv [])) (ownNil _ _ _) rfl
    simpa using hS
theorem seqP_want (e : Ev) : seqP e = numL (wantP e) := by
  unfold seqP wantP
  cases rightQ e <;> rfl
theorem elines_t (w0 : World) (hG : GlobT w0) (e : Ev) (m : Int) (hf : fewP e = true) : Calls Tryz.prog 13 #[e.v, .int .i64 m] w0 fun en w' => en = .returned (.bool true) ∧ Fr [] w0 w' := by
  have hfl := fewP_len hf
  have hsm : e.id.length + e.ty.length + e.da.length ≤ 65536 := by omega
  have hfw := fun W => few_c W e
  rw [hf] at hfw
  have hwt := fun W => want_c W e hsm
  have hsq := fun eb W (hW : Glob W) (hb : (row eb 34 e.cs).ok W) => linesE_s eb e W hW hb (by omega) (by omega) (by omega)
  rw [seqP_want] at hsq
  have hXl : (wantP e).length ≤ 65541 := by
    unfold wantP
    split
    · have := (linesP_len e hsm).1
      simp; omega
    · simp
  obtain ⟨X, hX⟩ : ∃ X, X = wantP e := ⟨_, rfl⟩
  rw [← hX] at hwt hsq hXl
  have Hfw := Lib.hid hfw
  have Hwt := Lib.hid hwt
  have Hsq := Lib.hid hsq
  clear hfw hwt hsq hX hf hfl hsm
  refine (callsIn_wide (n := 1)).1 ?_
  change CallsIn Fence.wide 1 Tryz.prog 13 #[.agg ⟨[txt e.id, txt e.ty, txt e.da]⟩, .int .i64 m] w0 _
  refine callsIn_of_wp_marks Tryz.func13 rfl trivial ?_
  simp only [Tryz.ntmps13, List.size_toArray, List.length_cons, List.length_nil, Nat.reduceAdd, Nat.reduceSub, Array.replicate_succ, Array.replicate_zero, List.push_toArray, List.append_toArray, List.nil_append, List.cons_append]
  have hS := St.start [] w0
  gi_wp2_with (first | ((with_reducible apply i_want); rfl) | ((with_reducible apply i_box (t := 34)); assumption; rfl; clear hS; intro bx w hS) | ((with_reducible apply i_box (t := 3)); assumption; rfl; clear hS; intro bm w hS) | ((with_reducible apply i_alloc (t := 4)); assumption; rfl; clear hS; intro br w hS) | ((with_reducible apply i_alloc (t := 143)); assumption; rfl; clear hS; intro bq w hS) | ((with_reducible apply i_alloc (t := 3)); assumption; rfl; clear hS; intro bt w hS) | (gi_at_call 36; go_must (refine callsIn_wide.2 ((Hfw.out _).mono ?_)); rintro en w1 ⟨rfl, hf1⟩; replace hS := hS.keep hf1) | (gi_at_call 85; go_must (refine callsIn_wide.2 ((Hwt.out _).mono ?_)); rintro en w1 ⟨v, rfl, hT⟩; obtain ⟨A, cp, rfl, hcp⟩ := (RdS.of_own (hT.get (c := own 9 1 v X.length (sv X)) (by exact Has.head))).shape; replace hS := hS.join hT; simp only [List.cons_append, List.nil_append] at hS; clear hT) | (gi_at_call 86; go_must (refine callsIn_wide.2 ((linesE_c _ e).mono ?_)); rintro en w1 ⟨eb, rfl, hT⟩; replace hS := hS.join hT; simp only [List.cons_append, List.nil_append] at hS; clear hT) | ((with_reducible apply i_alloc); assumption; rfl; clear hS; intro b w hS) | ((with_reducible apply i_box); assumption; rfl; clear hS; intro b w hS) | ((with_reducible apply i_load); assumption; rfl; (repeat (first | exact Has.head | apply Has.tail)); (first | rfl | (simp [takeV]; done))) | ((with_reducible apply i_build); rfl; (simp [fillL, splice, Value.cells, Act.eval]; rfl)) | ((with_reducible apply i_buildA); rfl; (simp [fillL, splice, Value.cells, Act.eval]; rfl)) | ((with_reducible apply i_bslice); assumption; rfl; rfl; (first | (simp [fillL, splice, zeros, Value.cells, Act.eval]; rfl) | rfl); clear hS; intro b w hS) | ((with_reducible apply i_storeF); assumption; rfl; rfl; (repeat (first | exact Upd.head | apply Upd.tail)); rfl; clear hS; intro w hS) | ((with_reducible apply i_store); assumption; rfl; rfl; (repeat (first | exact Upd.head | apply Upd.tail)); rfl; clear hS; intro w hS; simp only [splice] at hS; try rw [splice_nil] at hS))
  refine wpIn_wide.2 (wp_loop_rounds 3 ?_)
  rw [rounds_succ]
  refine (wpIn_wide (n := 1)).1 ?_
  gi_wp2_with (first | ((with_reducible apply i_want); rfl) | ((with_reducible apply i_alloc (t := 3)); assumption; rfl; clear hS; intro bn w hS) | ((with_reducible apply i_alloc); assumption; rfl; clear hS; intro b w hS) | ((with_reducible apply i_box); assumption; rfl; clear hS; intro b w hS) | ((with_reducible apply i_load); assumption; rfl; (repeat (first | exact Has.head | apply Has.tail)); (first | rfl | (simp [takeV]; done))) | ((with_reducible apply i_build); rfl; (simp [fillL, splice, Value.cells, Act.eval]; rfl)) | ((with_reducible apply i_buildA); rfl; (simp [fillL, splice, Value.cells, Act.eval]; rfl)) | ((with_reducible apply i_bslice); assumption; rfl; rfl; (first | (simp [fillL, splice, zeros, Value.cells, Act.eval]; rfl) | rfl); clear hS; intro b w hS) | ((with_reducible apply i_storeF); assumption; rfl; rfl; (repeat (first | exact Upd.head | apply Upd.tail)); rfl; clear hS; intro w hS) | ((with_reducible apply i_store); assumption; rfl; rfl; (repeat (first | exact Upd.head | apply Upd.tail)); rfl; clear hS; intro w hS; simp only [splice] at hS; try rw [splice_nil] at hS))
  have hE := hS.get (c := row eb 34 e.cs) (by exact Has.head.tail.tail)
  have hG1 : Glob w := hG.base.keep hS.fr
  have hS1 := (hS.pick (by exact .tail (.tail .head))).perm (List.perm_append_comm (l₁ := [_]))
  simp only [List.cons_append, List.nil_append] at hS1
  have hElt := ((hS.ok (row eb 34 e.cs) (by simp)).2 eb (by simp [row, blk])).1
  have hW0 : 0 < w0.heap.size := by
    obtain ⟨v, hv⟩ := hG.base.maxLen
    exact World.block_lt_of_cell? w0 ⟨0, 0, none⟩ hv
  have hS2 := St.bundle (L1 := [_, _, _, _, _, _, _]) (L2 := [_]) hS1
  clear hS1
  refine i_rangeFuncB (P := Tryz.prog) hS2 rfl (enters_of Tryz.func168 (by kernel_rfl) rfl) (Hsq.out eb w hG1 hE) (T := []) (Fr.refl _ _) (by simp) ?_ ?_ (fun x => rfl)
    (fun pre C => ((pre.length : Int) < m ∨ pre.length = 0) ∧ C = bun [row bn 3 [.int .i64 (pre.length : Int)], row bt 3 [.int .i64 0], row bq 143 [.slice A X.length cp], own 9 1 (.slice A X.length cp) X.length (sv X), row br 4 [.bool false], row bm 3 [.int .i64 m], row bx 34 [txt e.id, txt e.ty, txt e.da]])
    (fun pre C => (∃ k : Nat, pre.length = k + 1 ∧ m ≤ (k : Int) + 1 ∧ ((k : Int) < m ∨ k = 0)) ∧ C = bun [row bn 3 [.int .i64 (pre.length : Int)], row bt 3 [.int .i64 0], row bq 143 [.slice A X.length cp], own 9 1 (.slice A X.length cp) X.length (sv X), row br 4 [.bool false], row bm 3 [.int .i64 m], row bx 34 [txt e.id, txt e.ty, txt e.da]])
    (fun C => ∃ n : Nat, (n : Int) = min (X.length : Int) (max 1 m) ∧ C = bun [row bn 3 [.int .i64 (n : Int)], row bt 3 [.int .i64 0], row bq 143 [.slice A X.length cp], own 9 1 (.slice A X.length cp) X.length (sv X), row br 4 [.bool false], row bm 3 [.int .i64 m], row bx 34 [txt e.id, txt e.ty, txt e.da]])
    ⟨.inr rfl, rfl⟩ ?_ ?_ ?_ ?_
  · intro k hk hk2
    have hkS := (hS2.ok _ (List.mem_cons_self)).2 k hk
    rcases List.mem_cons.1 hk2 with rfl | h2
    · rcases hkS.2 with h3 | h3
      · omega
      · cases h3
    · have : k = eb := by simpa using h2
      subst this
      exact (List.pairwise_cons.1 hS2.sep).1 _ (List.mem_cons_self) k hk (by simp [row, blk])
  · intro k hk
    rcases List.mem_cons.1 hk with rfl | h2
    · exact Nat.lt_of_lt_of_le hW0 hS.fr.size
    · have : k = eb := by simpa using h2
      subst this
      exact hElt
  · rintro l pre ⟨i, x⟩ C W3 K hpre ⟨hb, rfl⟩ hok hlt hK
    gi_wp2
    refine hK _ _ _ (Turn.refl hok hlt) ?_
    intro W2 hok2 hlt2
    have hS := St.open hok2
    obtain ⟨rfl, hx⟩ := numL_pre hpre
    have hil := (List.getElem?_eq_some_iff.1 hx).1
    obtain ⟨bb, o, rfl, hrd⟩ := sv_rd (RdS.of_own (hS.get (c := own 9 1 (.slice A X.length cp) X.length (sv X)) (by exact Has.head.tail.tail.tail))) rfl hx (by omega)
    have Hrd := Lib.hid hrd
    have hge : ¬ ((X.length : Int) ≤ (pre.length : Int)) := by omega
    clear hok hlt hK hS2 hE hG1 hpre hok2 hlt2 hx hrd hil
    have elen : ((pre ++ [(pre.length, x)]).length : Int) = (pre.length : Int) + 1 := by simp
    have Hel := Lib.hid elen
    clear elen
    by_cases hm : m ≤ (pre.length : Int) + 1
    · gi_wp2_with (first | ((with_reducible apply i_want); rfl) | ((with_reducible apply i_read); rfl; exact Hrd.out; rfl) | ((with_reducible apply i_alloc); assumption; rfl; clear hS; intro b w hS) | ((with_reducible apply i_box); assumption; rfl; clear hS; intro b w hS) | ((with_reducible apply i_load); assumption; rfl; (repeat (first | exact Has.head | apply Has.tail)); (first | rfl | (simp [takeV]; done))) | ((with_reducible apply i_build); rfl; (simp [fillL, splice, Value.cells, Act.eval]; rfl)) | ((with_reducible apply i_buildA); rfl; (simp [fillL, splice, Value.cells, Act.eval]; rfl)) | ((with_reducible apply i_bslice); assumption; rfl; rfl; (first | (simp [fillL, splice, zeros, Value.cells, Act.eval]; rfl) | rfl); clear hS; intro b w hS) | ((with_reducible apply i_storeF); assumption; rfl; rfl; (repeat (first | exact Upd.head | apply Upd.tail)); rfl; clear hS; intro w hS) | ((with_reducible apply i_store); assumption; rfl; rfl; (repeat (first | exact Upd.head | apply Upd.tail)); rfl; clear hS; intro w hS; simp only [splice] at hS; try rw [splice_nil] at hS))
      refine ⟨_, ⟨rfl, ⟨pre.length, by simp, hm, hb⟩, ?_⟩, hS.toTurn⟩
      rw [Hel.out]
    · gi_wp2_with (first | ((with_reducible apply i_want); rfl) | ((with_reducible apply i_read); rfl; exact Hrd.out; rfl) | ((with_reducible apply i_alloc); assumption; rfl; clear hS; intro b w hS) | ((with_reducible apply i_box); assumption; rfl; clear hS; intro b w hS) | ((with_reducible apply i_load); assumption; rfl; (repeat (first | exact Has.head | apply Has.tail)); (first | rfl | (simp [takeV]; done))) | ((with_reducible apply i_build); rfl; (simp [fillL, splice, Value.cells, Act.eval]; rfl)) | ((with_reducible apply i_buildA); rfl; (simp [fillL, splice, Value.cells, Act.eval]; rfl)) | ((with_reducible apply i_bslice); assumption; rfl; rfl; (first | (simp [fillL, splice, zeros, Value.cells, Act.eval]; rfl) | rfl); clear hS; intro b w hS) | ((with_reducible apply i_storeF); assumption; rfl; rfl; (repeat (first | exact Upd.head | apply Upd.tail)); rfl; clear hS; intro w hS) | ((with_reducible apply i_store); assumption; rfl; rfl; (repeat (first | exact Upd.head | apply Upd.tail)); rfl; clear hS; intro w hS; simp only [splice] at hS; try rw [splice_nil] at hS))
      refine ⟨_, ⟨.inl ?_, ?_⟩, hS.toTurn⟩
      · have := Hel.out; omega
      · rw [Hel.out]
  · rintro C ⟨hb, rfl⟩
    rw [numL_len] at hb ⊢
    exact ⟨X.length, by omega, rfl⟩
  · rintro pre C hpre ⟨⟨k, hk, h1, h2⟩, rfl⟩
    have hpl := hpre.length_le
    rw [numL_len] at hpl
    exact ⟨pre.length, by omega, rfl⟩
  · rintro D1 W1 C ⟨n, hn, rfl⟩ hS
    have hS := (hS.pick (by exact .tail .head)).unbundle
    simp only [List.cons_append, List.nil_append] at hS
    clear hS2 hE hG1 hElt
    gi_wp2_with (first | ((with_reducible apply i_want); rfl) | ((with_reducible apply i_alloc (t := 3)); assumption; rfl; clear hS; intro bt2 w hS) | ((with_reducible apply i_alloc); assumption; rfl; clear hS; intro b w hS) | ((with_reducible apply i_box); assumption; rfl; clear hS; intro b w hS) | ((with_reducible apply i_load); assumption; rfl; (repeat (first | exact Has.head | apply Has.tail)); (first | rfl | (simp [takeV]; done))) | ((with_reducible apply i_build); rfl; (simp [fillL, splice, Value.cells, Act.eval]; rfl)) | ((with_reducible apply i_buildA); rfl; (simp [fillL, splice, Value.cells, Act.eval]; rfl)) | ((with_reducible apply i_bslice); assumption; rfl; rfl; (first | (simp [fillL, splice, zeros, Value.cells, Act.eval]; rfl) | rfl); clear hS; intro b w hS) | ((with_reducible apply i_storeF); assumption; rfl; rfl; (repeat (first | exact Upd.head | apply Upd.tail)); rfl; clear hS; intro w hS) | ((with_reducible apply i_store); assumption; rfl; rfl; (repeat (first | exact Upd.head | apply Upd.tail)); rfl; clear hS; intro w hS; simp only [splice] at hS; try rw [splice_nil] at hS))
    rw [rounds_succ]
    refine (wpIn_wide (n := 1)).1 ?_
    have hS := hS.sub (L' := [row bt2 3 [.int .i64 1], row bq 143 [.slice A X.length cp], own 9 1 (.slice A X.length cp) X.length (sv X), row br 4 [.bool false], row bm 3 [.int .i64 m], row bx 34 [txt e.id, txt e.ty, txt e.da], dfr D1, row eb 34 e.cs]) (by (repeat (first | exact List.Sublist.slnil | exact List.Sublist.refl _ | apply List.Sublist.cons_cons | apply List.Sublist.cons)))
    clear hn
    gi_wp2_with (first | ((with_reducible apply i_want); rfl) | ((with_reducible apply i_alloc (t := 3)); assumption; rfl; clear hS; intro bn2 w hS) | ((with_reducible apply i_alloc); assumption; rfl; clear hS; intro b w hS) | ((with_reducible apply i_box); assumption; rfl; clear hS; intro b w hS) | ((with_reducible apply i_load); assumption; rfl; (repeat (first | exact Has.head | apply Has.tail)); (first | rfl | (simp [takeV]; done))) | ((with_reducible apply i_build); rfl; (simp [fillL, splice, Value.cells, Act.eval]; rfl)) | ((with_reducible apply i_buildA); rfl; (simp [fillL, splice, Value.cells, Act.eval]; rfl)) | ((with_reducible apply i_bslice); assumption; rfl; rfl; (first | (simp [fillL, splice, zeros, Value.cells, Act.eval]; rfl) | rfl); clear hS; intro b w hS) | ((with_reducible apply i_storeF); assumption; rfl; rfl; (repeat (first | exact Upd.head | apply Upd.tail)); rfl; clear hS; intro w hS) | ((with_reducible apply i_store); assumption; rfl; rfl; (repeat (first | exact Upd.head | apply Upd.tail)); rfl; clear hS; intro w hS; simp only [splice] at hS; try rw [splice_nil] at hS))
    have hE := hS.get (c := row eb 34 e.cs) (by repeat (first | exact Has.head | apply Has.tail))
    have hG1 : Glob w := hG.base.keep hS.fr
    have hP1 := hS.pick (by exact .tail (.tail (.tail (.tail (.tail (.tail (.tail (.tail .head))))))))
    have hP2 := hP1.pick (by exact .tail (.tail (.tail (.tail (.tail (.tail (.tail (.tail .head))))))))
    have hS1 := hP2.perm (List.perm_append_comm (l₁ := [_, _]))
    simp only [List.cons_append, List.nil_append] at hS1
    have hElt := ((hS.ok (row eb 34 e.cs) (by simp)).2 eb (by simp [row, blk])).1
    have hS2 := St.bundle (L1 := [_, _, _, _, _, _, _]) (L2 := [_, _]) hS1
    clear hS1 hP1 hP2
    refine i_rangeFuncB (P := Tryz.prog) hS2 rfl (enters_of Tryz.func168 (by kernel_rfl) rfl) (Hsq.out eb w hG1 hE) (T := []) (Fr.refl _ _) (by simp) ?_ ?_ (fun x => rfl)
      (fun pre C => C = bun [row bn2 3 [.int .i64 (pre.length : Int)], row bt2 3 [.int .i64 1], row bq 143 [.slice A X.length cp], own 9 1 (.slice A X.length cp) X.length (sv X), row br 4 [.bool false], row bm 3 [.int .i64 m], row bx 34 [txt e.id, txt e.ty, txt e.da]])
      (fun _ _ => False)
      (fun C => C = bun [row bn2 3 [.int .i64 (X.length : Int)], row bt2 3 [.int .i64 1], row bq 143 [.slice A X.length cp], own 9 1 (.slice A X.length cp) X.length (sv X), row br 4 [.bool false], row bm 3 [.int .i64 m], row bx 34 [txt e.id, txt e.ty, txt e.da]])
      rfl ?_ ?_ ?_ ?_
    · intro k hk hk2
      have hkS := (hS2.ok _ (List.mem_cons_self)).2 k hk
      rcases List.mem_cons.1 hk2 with rfl | h2
      · rcases hkS.2 with h3 | h3
        · omega
        · cases h3
      · have : k = eb := by simpa using h2
        subst this
        exact (List.pairwise_cons.1 hS2.sep).1 (row k 34 e.cs) (by simp) k hk (by simp [row, blk])
    · intro k hk
      rcases List.mem_cons.1 hk with rfl | h2
      · exact Nat.lt_of_lt_of_le hW0 hS.fr.size
      · have : k = eb := by simpa using h2
        subst this
        exact hElt
    · rintro l pre ⟨i, x⟩ C W3 K hpre rfl hok hlt hK
      gi_wp2
      refine hK _ _ _ (Turn.refl hok hlt) ?_
      intro W2 hok2 hlt2
      have hS := St.open hok2
      obtain ⟨rfl, hx⟩ := numL_pre hpre
      have hil := (List.getElem?_eq_some_iff.1 hx).1
      obtain ⟨bb, o, rfl, hrd⟩ := sv_rd (RdS.of_own (hS.get (c := own 9 1 (.slice A X.length cp) X.length (sv X)) (by exact Has.head.tail.tail.tail))) rfl hx (by omega)
      have Hrd := Lib.hid hrd
      have hge : ¬ ((X.length : Int) ≤ (pre.length : Int)) := by omega
      clear hok hlt hK hS2 hE hG1 hpre hok2 hlt2 hx hrd hil hElt
      have elen : ((pre ++ [(pre.length, x)]).length : Int) = (pre.length : Int) + 1 := by simp
      have Hel := Lib.hid elen
      clear elen
      gi_wp2_with (first | ((with_reducible apply i_want); rfl) | ((with_reducible apply i_read); rfl; exact Hrd.out; rfl) | ((with_reducible apply i_alloc); assumption; rfl; clear hS; intro b w hS) | ((with_reducible apply i_box); assumption; rfl; clear hS; intro b w hS) | ((with_reducible apply i_load); assumption; rfl; (repeat (first | exact Has.head | apply Has.tail)); (first | rfl | (simp [takeV]; done))) | ((with_reducible apply i_build); rfl; (simp [fillL, splice, Value.cells, Act.eval]; rfl)) | ((with_reducible apply i_buildA); rfl; (simp [fillL, splice, Value.cells, Act.eval]; rfl)) | ((with_reducible apply i_bslice); assumption; rfl; rfl; (first | (simp [fillL, splice, zeros, Value.cells, Act.eval]; rfl) | rfl); clear hS; intro b w hS) | ((with_reducible apply i_storeF); assumption; rfl; rfl; (repeat (first | exact Upd.head | apply Upd.tail)); rfl; clear hS; intro w hS) | ((with_reducible apply i_store); assumption; rfl; rfl; (repeat (first | exact Upd.head | apply Upd.tail)); rfl; clear hS; intro w hS; simp only [splice] at hS; try rw [splice_nil] at hS))
      refine ⟨_, ?_, hS.toTurn⟩
      show _ = bun _
      rw [Hel.out]
    · rintro C rfl
      rw [numL_len]
    · rintro pre C hpre h
      exact h.elim
    · rintro D2 W1 C rfl hS
      have hS := (hS.pick (by exact .tail .head)).unbundle
      simp only [List.cons_append, List.nil_append] at hS
      clear hS2 hE hG1 hElt
      gi_wp2_with (first | ((with_reducible apply i_want); rfl) | ((with_reducible apply i_alloc (t := 3)); assumption; rfl; clear hS; intro bt3 w hS) | ((with_reducible apply i_alloc); assumption; rfl; clear hS; intro b w hS) | ((with_reducible apply i_box); assumption; rfl; clear hS; intro b w hS) | ((with_reducible apply i_load); assumption; rfl; (repeat (first | exact Has.head | apply Has.tail)); (first | rfl | (simp [takeV]; done))) | ((with_reducible apply i_build); rfl; (simp [fillL, splice, Value.cells, Act.eval]; rfl)) | ((with_reducible apply i_buildA); rfl; (simp [fillL, splice, Value.cells, Act.eval]; rfl)) | ((with_reducible apply i_bslice); assumption; rfl; rfl; (first | (simp [fillL, splice, zeros, Value.cells, Act.eval]; rfl) | rfl); clear hS; intro b w hS) | ((with_reducible apply i_storeF); assumption; rfl; rfl; (repeat (first | exact Upd.head | apply Upd.tail)); rfl; clear hS; intro w hS) | ((with_reducible apply i_store); assumption; rfl; rfl; (repeat (first | exact Upd.head | apply Upd.tail)); rfl; clear hS; intro w hS; simp only [splice] at hS; try rw [splice_nil] at hS))
      rw [rounds_succ]
      refine (wpIn_wide (n := 1)).1 ?_
      gi_wp2_with (first | ((with_reducible apply i_want); rfl) | (gi_at_call 37; go_must (refine callsIn_wide.2 ((works_c _ (hG.keep hS.fr)).mono ?_)); rintro en w1 ⟨rfl, hf1⟩; replace hS := hS.keep hf1) | ((with_reducible apply i_alloc); assumption; rfl; clear hS; intro b w hS) | ((with_reducible apply i_box); assumption; rfl; clear hS; intro b w hS) | ((with_reducible apply i_load); assumption; rfl; (repeat (first | exact Has.head | apply Has.tail)); (first | rfl | (simp [takeV]; done))) | ((with_reducible apply i_build); rfl; (simp [fillL, splice, Value.cells, Act.eval]; rfl)) | ((with_reducible apply i_buildA); rfl; (simp [fillL, splice, Value.cells, Act.eval]; rfl)) | ((with_reducible apply i_bslice); assumption; rfl; rfl; (first | (simp [fillL, splice, zeros, Value.cells, Act.eval]; rfl) | rfl); clear hS; intro b w hS) | ((with_reducible apply i_storeF); assumption; rfl; rfl; (repeat (first | exact Upd.head | apply Upd.tail)); rfl; clear hS; intro w hS) | ((with_reducible apply i_store); assumption; rfl; rfl; (repeat (first | exact Upd.head | apply Upd.tail)); rfl; clear hS; intro w hS; simp only [splice] at hS; try rw [splice_nil] at hS))
      have hP3 := hS.pick (by exact .tail (.tail (.tail (.tail (.tail (.tail (.tail (.tail .head))))))))
      obtain ⟨W7, ht7, hS7⟩ := hP3.take (P := Tryz.prog)
      have hP4 := hS7.pick (by exact .tail (.tail (.tail (.tail (.tail (.tail (.tail (.tail .head))))))))
      obtain ⟨W8, ht8, hS8⟩ := hP4.take (P := Tryz.prog)
      refine ⟨by simp, .inl ⟨_, _, rfl, ht7, by simp, .inl ⟨_, _, rfl, ht8, ?_⟩⟩⟩
      exact ⟨_, results_c1 (k := 1) (agg := false) rfl hS8 rfl (by repeat (first | exact Has.head | apply Has.tail)) rfl, rfl, hS8.fr⟩
/-- EventLines tells true. -/
theorem elines_c (w0 : World) (hG : GlobT w0) (e : Ev) (m : Int) : Calls Tryz.prog 13 #[e.v, .int .i64 m] w0 fun en w' => en = .returned (.bool true) ∧ Fr [] w0 w' := by
  cases hf : fewP e with
  | false => exact elines_f w0 hG e m hf
  | true => exact elines_t w0 hG e m hf
end Go.Proofs.YtaejmginhkbbhaaGreatDoor
