/- The walk through law 07's EventHolds (F14). Conditions: as each contract says. -/
import Derived.Test.YtaejmginhkbbhaaGreatDoorE1
import Derived.Test.YtaejmginhkbbhaaGreatDoorL2
import Derived.Test.YtaejmginhkbbhaaGreatDoorY4
set_option linter.unusedSimpArgs false
set_option linter.unusedVariables false
set_option maxRecDepth 100000
set_option maxHeartbeats 1000000
namespace Go.Proofs.YtaejmginhkbbhaaGreatDoor
open Go Go.RowKit
attribute [local go_sem] Oper.semAt_some
attribute [local irreducible] Calls
attribute [local go_sem] run_eqNil
theorem i_eqEv {F : Fence} {fn : Nat} {ops : Array Oper} {Q : Exit → Act → World → Prop} {a : Act} {W : World} {rest : List Oper} {dst : Option Tmp} {ty ty2 : TypeId} {pos : String} {after : Array Edge} {x y : Operand} {f g : Ev} {r : Bool} (hx : a.eval x = f.v) (hy : a.eval y = g.v) (hr : decide (f = g) = r) (hk : wpListIn F fn Tryz.prog ops Q rest (a.put dst (.bool r)) W) :
    wpListIn F fn Tryz.prog ops Q (⟨dst, .binOp .eql 34 x y ty2, ty, pos, after, none⟩ :: rest) a W := by
  subst hr
  refine wpListIn_val rfl rfl ?_ hk
  have hg := guard_ev .eql 34 x y f g W (by kernel_rfl)
  simp [execOp, hx, hy, hg, run_eqEv, Result.andThen]
theorem i_cat {P : Program} {F : Fence} {fn : Nat} {ops : Array Oper} {Q : Exit → Act → World → Prop} {a : Act} {W : World} {rest : List Oper} {dst : Option Tmp} {ty ty2 : TypeId} {pos : String} {after : Array Edge} {t : TypeId} [Str P t] {x y : Operand} {l m : List UInt8} (hx : a.eval x = txt l) (hy : a.eval y = txt m) (hb : l.length + m.length ≤ 9223372036854775807) (hk : wpListIn F fn P ops Q rest (a.put dst (txt (l ++ m))) W) :
    wpListIn F fn P ops Q (⟨dst, .binOp .add t x y ty2, ty, pos, after, none⟩ :: rest) a W :=
  wpListIn_val rfl rfl (by simp [execOp, hx, hy, run_cat (P := P) l m hb, eqGuard]) hk
theorem St.frame_head {S : List Nat} {w0 W W2 : World} {c : Chunk} {L : List Chunk} (h : St S w0 W (c :: L)) (k : Fr c.fp W W2) : Fr S w0 W2 := by
  refine ⟨k.os.trans h.fr.os, k.tape.trans h.fr.tape, k.output.trans h.fr.output, Nat.le_trans h.fr.size k.size, fun i hi hn => ?_⟩
  rw [k.block i (Nat.lt_of_lt_of_le hi h.fr.size) (fun hb => ?_)]
  · exact h.fr.block i hi hn
  · rcases ((h.ok c (List.mem_cons_self)).2 i hb).2 with h2 | h2
    · omega
    · exact hn h2
theorem eholds_a (w0 : World) (hG : GlobT w0) (e f : Ev) (hf : fewP e = false) : Calls Tryz.prog 14 #[e.v, f.v] w0 fun en w' => en = .returned (.bool true) ∧ Fr [] w0 w' := by
  have hfw := fun W => few_c W e
  rw [hf] at hfw
  have Hfw := Lib.hid hfw
  clear hfw hf
  change Calls Tryz.prog 14 #[.agg ⟨[txt e.id, txt e.ty, txt e.da]⟩, .agg ⟨[txt f.id, txt f.ty, txt f.da]⟩] w0 _
  go_enter Tryz.func14, Tryz.ntmps14
  have hS := St.start [] w0
  go_wp2_with (first | ((with_reducible apply l_want); rfl) | (go_at_call 36; go_must (refine (Hfw.out _).mono ?_); rintro en w1 ⟨rfl, hf1⟩; replace hS := hS.keep hf1) | (go_at_call 37; go_must (refine (works_c _ (hG.keep hS.fr)).mono ?_); rintro en w1 ⟨rfl, hf1⟩; replace hS := hS.keep hf1) | ((with_reducible apply l_alloc); assumption; rfl; clear hS; intro b w hS) | ((with_reducible apply l_box); assumption; rfl; clear hS; intro b w hS) | ((with_reducible apply l_load); assumption; rfl; (repeat (first | exact Has.head | apply Has.tail)); (first | rfl | (simp [takeV]; done))) | ((with_reducible apply l_build); rfl; (simp [fillL, splice, Value.cells, Act.eval]; rfl)) | ((with_reducible apply l_buildA); rfl; (simp [fillL, splice, Value.cells, Act.eval]; rfl)) | ((with_reducible apply l_bslice); assumption; rfl; rfl; (first | (simp [fillL, splice, zeros, Value.cells, Act.eval]; rfl) | rfl); clear hS; intro b w hS) | ((with_reducible apply l_storeF); assumption; rfl; rfl; (repeat (first | exact Upd.head | apply Upd.tail)); rfl; clear hS; intro w hS) | ((with_reducible apply l_store); assumption; rfl; rfl; (repeat (first | exact Upd.head | apply Upd.tail)); rfl; clear hS; intro w hS; simp only [splice] at hS; try rw [splice_nil] at hS))
  refine bodyPost_ret (results_c1 (k := 1) (agg := false) rfl hS rfl (by repeat (first | exact Has.head | apply Has.tail)) rfl) rfl ⟨rfl, hS.fr⟩
theorem eholds_b (w0 : World) (hG : GlobT w0) (e f : Ev) (hf : fewP e = true) (hg : fewP f = false) : Calls Tryz.prog 14 #[e.v, f.v] w0 fun en w' => en = .returned (.bool true) ∧ Fr [] w0 w' := by
  have hfw := fun W => few_c W e
  rw [hf] at hfw
  have hgw := fun W => few_c W f
  rw [hg] at hgw
  have Hfw := Lib.hid hfw
  have Hgw := Lib.hid hgw
  clear hfw hf hgw hg
  change Calls Tryz.prog 14 #[.agg ⟨[txt e.id, txt e.ty, txt e.da]⟩, .agg ⟨[txt f.id, txt f.ty, txt f.da]⟩] w0 _
  go_enter Tryz.func14, Tryz.ntmps14
  have hS := St.start [] w0
  go_wp2_with (first | ((with_reducible apply l_want); rfl) | (go_at_call 36; refine (Hfw.out _).mono ?_; rintro en w1 ⟨rfl, hf1⟩; replace hS := hS.keep hf1) | (go_at_call 36; refine (Hgw.out _).mono ?_; rintro en w1 ⟨rfl, hf1⟩; replace hS := hS.keep hf1) | (go_at_call 37; go_must (refine (works_c _ (hG.keep hS.fr)).mono ?_); rintro en w1 ⟨rfl, hf1⟩; replace hS := hS.keep hf1) | ((with_reducible apply l_alloc); assumption; rfl; clear hS; intro b w hS) | ((with_reducible apply l_box); assumption; rfl; clear hS; intro b w hS) | ((with_reducible apply l_load); assumption; rfl; (repeat (first | exact Has.head | apply Has.tail)); (first | rfl | (simp [takeV]; done))) | ((with_reducible apply l_build); rfl; (simp [fillL, splice, Value.cells, Act.eval]; rfl)) | ((with_reducible apply l_buildA); rfl; (simp [fillL, splice, Value.cells, Act.eval]; rfl)) | ((with_reducible apply l_bslice); assumption; rfl; rfl; (first | (simp [fillL, splice, zeros, Value.cells, Act.eval]; rfl) | rfl); clear hS; intro b w hS) | ((with_reducible apply l_storeF); assumption; rfl; rfl; (repeat (first | exact Upd.head | apply Upd.tail)); rfl; clear hS; intro w hS) | ((with_reducible apply l_store); assumption; rfl; rfl; (repeat (first | exact Upd.head | apply Upd.tail)); rfl; clear hS; intro w hS; simp only [splice] at hS; try rw [splice_nil] at hS))
  refine bodyPost_ret (results_c1 (k := 1) (agg := false) rfl hS rfl (by repeat (first | exact Has.head | apply Has.tail)) rfl) rfl ⟨rfl, hS.fr⟩
theorem eholds_ct (w0 : World) (hG : GlobT w0) (e f : Ev) (hf : fewP e = true) (hg : fewP f = true) (hq : rightQ e = false) (hr : rightQ f = true) : Calls Tryz.prog 14 #[e.v, f.v] w0 fun en w' => en = .returned (.bool true) ∧ Fr [] w0 w' := by
  have hfl := fewP_len hf
  have hgl := fewP_len hg
  have hfw := fun W => few_c W e
  rw [hf] at hfw
  have hgw := fun W => few_c W f
  rw [hg] at hgw
  have hen := fun W (hW : GlobT W) => encode_n W hW.base e (by omega) (by omega) (by omega) (by rw [checkP_eq, hq])
  have heo := fun W (hW : GlobT W) => encode_t W hW.base f (by rw [checkP_eq, hr])
  obtain ⟨Y, hY⟩ : ∃ Y, Y = encP f := ⟨_, rfl⟩
  rw [← hY] at heo
  have Hfw := Lib.hid hfw
  have Hgw := Lib.hid hgw
  have Hen := Lib.hid hen
  have Heo := Lib.hid heo
  clear hfw hf hgw hg hen heo hq hr hfl hgl hY
  change Calls Tryz.prog 14 #[.agg ⟨[txt e.id, txt e.ty, txt e.da]⟩, .agg ⟨[txt f.id, txt f.ty, txt f.da]⟩] w0 _
  go_enter Tryz.func14, Tryz.ntmps14
  have hS := St.start [] w0
  go_wp2_with (first | ((with_reducible apply l_want); rfl) | (go_at_call 36; refine (Hfw.out _).mono ?_; rintro en w1 ⟨rfl, hf1⟩; replace hS := hS.keep hf1) | (go_at_call 36; refine (Hgw.out _).mono ?_; rintro en w1 ⟨rfl, hf1⟩; replace hS := hS.keep hf1) | (go_at_call 47; refine (Hen.out _ (hG.keep hS.fr)).mono ?_; rintro en w1 ⟨rfl, hf1⟩; replace hS := hS.keep hf1) | (go_at_call 47; refine (Heo.out _ (hG.keep hS.fr)).mono ?_; rintro en w1 ⟨v, rfl, hT⟩; replace hS := hS.join hT; simp only [List.cons_append, List.nil_append] at hS; obtain ⟨A, cp, rfl, hcp⟩ := (hT.get (c := rdS 1 v Y.length (bv Y)) (by exact Has.head)).shape; clear hT) | ((with_reducible apply l_alloc); assumption; rfl; clear hS; intro b w hS) | ((with_reducible apply l_box); assumption; rfl; clear hS; intro b w hS) | ((with_reducible apply l_load); assumption; rfl; (repeat (first | exact Has.head | apply Has.tail)); (first | rfl | (simp [takeV]; done))) | ((with_reducible apply l_build); rfl; (simp [fillL, splice, Value.cells, Act.eval]; rfl)) | ((with_reducible apply l_buildA); rfl; (simp [fillL, splice, Value.cells, Act.eval]; rfl)) | ((with_reducible apply l_bslice); assumption; rfl; rfl; (first | (simp [fillL, splice, zeros, Value.cells, Act.eval]; rfl) | rfl); clear hS; intro b w hS) | ((with_reducible apply l_storeF); assumption; rfl; rfl; (repeat (first | exact Upd.head | apply Upd.tail)); rfl; clear hS; intro w hS) | ((with_reducible apply l_store); assumption; rfl; rfl; (repeat (first | exact Upd.head | apply Upd.tail)); rfl; clear hS; intro w hS; simp only [splice] at hS; try rw [splice_nil] at hS))
  refine mix_start mixed (by kernel_rfl) _ (Stable.st _ _ _) hS.drew ?_
  replace hS := hS.drew
  apply mix_f 0 rfl (by kernel_rfl) rfl
  · intro w; go_wp2_with (first | ((with_reducible apply l_want); rfl)); exact ⟨rfl, Fr.refl _ _⟩
  · rfl
  apply mix_q 1 rfl (by kernel_rfl) rfl rfl
  · intro w hS; go_wp2_with (first | ((with_reducible apply l_want); rfl) | (go_at_call 43; go_must (refine (num_c _ _).mono ?_); rintro en w1 ⟨rfl, rfl⟩)); exact ⟨rfl, by first | exact Fr.refl _ _ | assumption⟩
  · rfl
  apply mix_f 2 rfl (by kernel_rfl) rfl
  · intro w; go_wp2_with (first | ((with_reducible apply l_want); rfl)); exact ⟨rfl, Fr.refl _ _⟩
  · rfl
  apply mix_q 3 rfl (by kernel_rfl) rfl rfl
  · intro w hS; go_wp2_with (first | ((with_reducible apply l_want); rfl) | (go_at_call 43; go_must (refine (num_c _ _).mono ?_); rintro en w1 ⟨rfl, rfl⟩)); exact ⟨rfl, by first | exact Fr.refl _ _ | assumption⟩
  · rfl
  apply mix_q 4 rfl (by kernel_rfl) rfl rfl
  · intro w hS; go_wp2_with (first | ((with_reducible apply l_want); rfl)); exact ⟨rfl, by first | exact Fr.refl _ _ | assumption⟩
  · rfl
  apply mix_q 5 rfl (by kernel_rfl) rfl rfl
  · intro w hS; go_wp2_with (first | ((with_reducible apply l_want); rfl)); exact ⟨rfl, by first | exact Fr.refl _ _ | assumption⟩
  · rfl
  apply mix_f 6 rfl (by kernel_rfl) rfl
  · intro w; go_wp2_with (first | ((with_reducible apply l_want); rfl)); exact ⟨rfl, Fr.refl _ _⟩
  · rfl
  apply mix_f 7 rfl (by kernel_rfl) rfl
  · intro w; go_wp2_with (first | ((with_reducible apply l_want); rfl)); exact ⟨rfl, Fr.refl _ _⟩
  · rfl
  apply mix_q 8 rfl (by kernel_rfl) rfl rfl
  · intro w hS; go_wp2_with (first | ((with_reducible apply l_want); rfl)); exact ⟨rfl, by first | exact Fr.refl _ _ | assumption⟩
  · rfl
  apply mix_f 9 rfl (by kernel_rfl) rfl
  · intro w; go_wp2_with (first | ((with_reducible apply l_want); rfl)); exact ⟨rfl, Fr.refl _ _⟩
  · rfl
  apply mix_q 10 rfl (by kernel_rfl) rfl rfl
  · intro w hS; go_wp2_with (first | ((with_reducible apply l_want); rfl)); exact ⟨rfl, by first | exact Fr.refl _ _ | assumption⟩
  · rfl
  apply mix_q 11 rfl (by kernel_rfl) rfl rfl
  · intro w hS; go_wp2_with (first | ((with_reducible apply l_want); rfl)); exact ⟨rfl, by first | exact Fr.refl _ _ | assumption⟩
  · rfl
  apply mix_q 12 rfl (by kernel_rfl) rfl rfl
  · intro w hS; go_wp2_with (first | ((with_reducible apply l_want); rfl) | ((with_reducible apply l_load); assumption; rfl; (repeat (first | exact Has.head | apply Has.tail)); (first | rfl | (simp [takeV]; done)))); exact ⟨rfl, by first | exact Fr.refl _ _ | assumption⟩
  · rfl
  apply mix_q 13 rfl (by kernel_rfl) rfl rfl
  · intro w hS; go_wp2_with (first | ((with_reducible apply l_want); rfl) | ((with_reducible apply l_load); assumption; rfl; (repeat (first | exact Has.head | apply Has.tail)); (first | rfl | (simp [takeV]; done)))); exact ⟨rfl, by first | exact Fr.refl _ _ | assumption⟩
  · rfl
  apply mix_q 14 rfl (by kernel_rfl) rfl rfl
  · intro w hS; go_wp2_with (first | ((with_reducible apply l_want); rfl)); exact ⟨rfl, by first | exact Fr.refl _ _ | assumption⟩
  · rfl
  apply mix_q 15 rfl (by kernel_rfl) rfl rfl
  · intro w hS; go_wp2_with (first | ((with_reducible apply l_want); rfl)); exact ⟨rfl, by first | exact Fr.refl _ _ | assumption⟩
  · rfl
  apply mix_f 16 rfl (by kernel_rfl) rfl
  · intro w; go_wp2_with (first | ((with_reducible apply l_want); rfl)); exact ⟨rfl, Fr.refl _ _⟩
  · rfl
  refine mixE (by kernel_rfl) ?_
  intro w hf _; replace hS := hS.keep hf; clear hf
  go_wp2_with (first | ((with_reducible apply l_want); rfl) | (go_at_call 43; go_must (refine (num_c _ _).mono ?_); rintro en w1 ⟨rfl, rfl⟩) | (go_at_call 37; go_must (refine (works_c _ (hG.keep hS.fr)).mono ?_); rintro en w1 ⟨rfl, hf1⟩; replace hS := hS.keep hf1) | ((with_reducible apply l_alloc); assumption; rfl; clear hS; intro b w hS) | ((with_reducible apply l_box); assumption; rfl; clear hS; intro b w hS) | ((with_reducible apply l_load); assumption; rfl; (repeat (first | exact Has.head | apply Has.tail)); (first | rfl | (simp [takeV]; done))) | ((with_reducible apply l_build); rfl; (simp [fillL, splice, Value.cells, Act.eval]; rfl)) | ((with_reducible apply l_buildA); rfl; (simp [fillL, splice, Value.cells, Act.eval]; rfl)) | ((with_reducible apply l_bslice); assumption; rfl; rfl; (first | (simp [fillL, splice, zeros, Value.cells, Act.eval]; rfl) | rfl); clear hS; intro b w hS) | ((with_reducible apply l_storeF); assumption; rfl; rfl; (repeat (first | exact Upd.head | apply Upd.tail)); rfl; clear hS; intro w hS) | ((with_reducible apply l_store); assumption; rfl; rfl; (repeat (first | exact Upd.head | apply Upd.tail)); rfl; clear hS; intro w hS; simp only [splice] at hS; try rw [splice_nil] at hS))
  refine bodyPost_ret (results_c1 (k := 1) (agg := false) rfl hS rfl (by repeat (first | exact Has.head | apply Has.tail)) rfl) rfl ⟨rfl, hS.fr⟩
theorem eholds_cf (w0 : World) (hG : GlobT w0) (e f : Ev) (hf : fewP e = true) (hg : fewP f = true) (hq : rightQ e = false) (hr : rightQ f = false) : Calls Tryz.prog 14 #[e.v, f.v] w0 fun en w' => en = .returned (.bool true) ∧ Fr [] w0 w' := by
  have hfl := fewP_len hf
  have hgl := fewP_len hg
  have hfw := fun W => few_c W e
  rw [hf] at hfw
  have hgw := fun W => few_c W f
  rw [hg] at hgw
  have hen := fun W (hW : GlobT W) => encode_n W hW.base e (by omega) (by omega) (by omega) (by rw [checkP_eq, hq])
  have heo := fun W (hW : GlobT W) => encode_n W hW.base f (by omega) (by omega) (by omega) (by rw [checkP_eq, hr])
  have Hfw := Lib.hid hfw
  have Hgw := Lib.hid hgw
  have Hen := Lib.hid hen
  have Heo := Lib.hid heo
  clear hfw hf hgw hg hen heo hq hr hfl hgl
  change Calls Tryz.prog 14 #[.agg ⟨[txt e.id, txt e.ty, txt e.da]⟩, .agg ⟨[txt f.id, txt f.ty, txt f.da]⟩] w0 _
  go_enter Tryz.func14, Tryz.ntmps14
  have hS := St.start [] w0
  go_wp2_with (first | ((with_reducible apply l_want); rfl) | (go_at_call 36; refine (Hfw.out _).mono ?_; rintro en w1 ⟨rfl, hf1⟩; replace hS := hS.keep hf1) | (go_at_call 36; refine (Hgw.out _).mono ?_; rintro en w1 ⟨rfl, hf1⟩; replace hS := hS.keep hf1) | (go_at_call 47; refine (Hen.out _ (hG.keep hS.fr)).mono ?_; rintro en w1 ⟨rfl, hf1⟩; replace hS := hS.keep hf1) | (go_at_call 47; refine (Heo.out _ (hG.keep hS.fr)).mono ?_; rintro en w1 ⟨rfl, hf1⟩; replace hS := hS.keep hf1) | ((with_reducible apply l_alloc); assumption; rfl; clear hS; intro b w hS) | ((with_reducible apply l_box); assumption; rfl; clear hS; intro b w hS) | ((with_reducible apply l_load); assumption; rfl; (repeat (first | exact Has.head | apply Has.tail)); (first | rfl | (simp [takeV]; done))) | ((with_reducible apply l_build); rfl; (simp [fillL, splice, Value.cells, Act.eval]; rfl)) | ((with_reducible apply l_buildA); rfl; (simp [fillL, splice, Value.cells, Act.eval]; rfl)) | ((with_reducible apply l_bslice); assumption; rfl; rfl; (first | (simp [fillL, splice, zeros, Value.cells, Act.eval]; rfl) | rfl); clear hS; intro b w hS) | ((with_reducible apply l_storeF); assumption; rfl; rfl; (repeat (first | exact Upd.head | apply Upd.tail)); rfl; clear hS; intro w hS) | ((with_reducible apply l_store); assumption; rfl; rfl; (repeat (first | exact Upd.head | apply Upd.tail)); rfl; clear hS; intro w hS; simp only [splice] at hS; try rw [splice_nil] at hS))
  refine mix_start mixed (by kernel_rfl) _ (Stable.st _ _ _) hS.drew ?_
  replace hS := hS.drew
  apply mix_f 0 rfl (by kernel_rfl) rfl
  · intro w; go_wp2_with (first | ((with_reducible apply l_want); rfl)); exact ⟨rfl, Fr.refl _ _⟩
  · rfl
  apply mix_q 1 rfl (by kernel_rfl) rfl rfl
  · intro w hS; go_wp2_with (first | ((with_reducible apply l_want); rfl) | (go_at_call 43; go_must (refine (num_c _ _).mono ?_); rintro en w1 ⟨rfl, rfl⟩)); exact ⟨rfl, by first | exact Fr.refl _ _ | assumption⟩
  · rfl
  apply mix_f 2 rfl (by kernel_rfl) rfl
  · intro w; go_wp2_with (first | ((with_reducible apply l_want); rfl)); exact ⟨rfl, Fr.refl _ _⟩
  · rfl
  apply mix_q 3 rfl (by kernel_rfl) rfl rfl
  · intro w hS; go_wp2_with (first | ((with_reducible apply l_want); rfl) | (go_at_call 43; go_must (refine (num_c _ _).mono ?_); rintro en w1 ⟨rfl, rfl⟩)); exact ⟨rfl, by first | exact Fr.refl _ _ | assumption⟩
  · rfl
  apply mix_q 4 rfl (by kernel_rfl) rfl rfl
  · intro w hS; go_wp2_with (first | ((with_reducible apply l_want); rfl)); exact ⟨rfl, by first | exact Fr.refl _ _ | assumption⟩
  · rfl
  apply mix_q 5 rfl (by kernel_rfl) rfl rfl
  · intro w hS; go_wp2_with (first | ((with_reducible apply l_want); rfl)); exact ⟨rfl, by first | exact Fr.refl _ _ | assumption⟩
  · rfl
  apply mix_f 6 rfl (by kernel_rfl) rfl
  · intro w; go_wp2_with (first | ((with_reducible apply l_want); rfl)); exact ⟨rfl, Fr.refl _ _⟩
  · rfl
  apply mix_f 7 rfl (by kernel_rfl) rfl
  · intro w; go_wp2_with (first | ((with_reducible apply l_want); rfl)); exact ⟨rfl, Fr.refl _ _⟩
  · rfl
  apply mix_q 8 rfl (by kernel_rfl) rfl rfl
  · intro w hS; go_wp2_with (first | ((with_reducible apply l_want); rfl)); exact ⟨rfl, by first | exact Fr.refl _ _ | assumption⟩
  · rfl
  apply mix_f 9 rfl (by kernel_rfl) rfl
  · intro w; go_wp2_with (first | ((with_reducible apply l_want); rfl)); exact ⟨rfl, Fr.refl _ _⟩
  · rfl
  apply mix_q 10 rfl (by kernel_rfl) rfl rfl
  · intro w hS; go_wp2_with (first | ((with_reducible apply l_want); rfl)); exact ⟨rfl, by first | exact Fr.refl _ _ | assumption⟩
  · rfl
  apply mix_q 11 rfl (by kernel_rfl) rfl rfl
  · intro w hS; go_wp2_with (first | ((with_reducible apply l_want); rfl)); exact ⟨rfl, by first | exact Fr.refl _ _ | assumption⟩
  · rfl
  apply mix_q 12 rfl (by kernel_rfl) rfl rfl
  · intro w hS; go_wp2_with (first | ((with_reducible apply l_want); rfl) | ((with_reducible apply l_load); assumption; rfl; (repeat (first | exact Has.head | apply Has.tail)); (first | rfl | (simp [takeV]; done)))); exact ⟨rfl, by first | exact Fr.refl _ _ | assumption⟩
  · rfl
  apply mix_q 13 rfl (by kernel_rfl) rfl rfl
  · intro w hS; go_wp2_with (first | ((with_reducible apply l_want); rfl) | ((with_reducible apply l_load); assumption; rfl; (repeat (first | exact Has.head | apply Has.tail)); (first | rfl | (simp [takeV]; done)))); exact ⟨rfl, by first | exact Fr.refl _ _ | assumption⟩
  · rfl
  apply mix_q 14 rfl (by kernel_rfl) rfl rfl
  · intro w hS; go_wp2_with (first | ((with_reducible apply l_want); rfl)); exact ⟨rfl, by first | exact Fr.refl _ _ | assumption⟩
  · rfl
  apply mix_q 15 rfl (by kernel_rfl) rfl rfl
  · intro w hS; go_wp2_with (first | ((with_reducible apply l_want); rfl)); exact ⟨rfl, by first | exact Fr.refl _ _ | assumption⟩
  · rfl
  apply mix_f 16 rfl (by kernel_rfl) rfl
  · intro w; go_wp2_with (first | ((with_reducible apply l_want); rfl)); exact ⟨rfl, Fr.refl _ _⟩
  · rfl
  refine mixE (by kernel_rfl) ?_
  intro w hf _; replace hS := hS.keep hf; clear hf
  go_wp2_with (first | ((with_reducible apply l_want); rfl) | (go_at_call 43; go_must (refine (num_c _ _).mono ?_); rintro en w1 ⟨rfl, rfl⟩) | (go_at_call 37; go_must (refine (works_c _ (hG.keep hS.fr)).mono ?_); rintro en w1 ⟨rfl, hf1⟩; replace hS := hS.keep hf1) | ((with_reducible apply l_alloc); assumption; rfl; clear hS; intro b w hS) | ((with_reducible apply l_box); assumption; rfl; clear hS; intro b w hS) | ((with_reducible apply l_load); assumption; rfl; (repeat (first | exact Has.head | apply Has.tail)); (first | rfl | (simp [takeV]; done))) | ((with_reducible apply l_build); rfl; (simp [fillL, splice, Value.cells, Act.eval]; rfl)) | ((with_reducible apply l_buildA); rfl; (simp [fillL, splice, Value.cells, Act.eval]; rfl)) | ((with_reducible apply l_bslice); assumption; rfl; rfl; (first | (simp [fillL, splice, zeros, Value.cells, Act.eval]; rfl) | rfl); clear hS; intro b w hS) | ((with_reducible apply l_storeF); assumption; rfl; rfl; (repeat (first | exact Upd.head | apply Upd.tail)); rfl; clear hS; intro w hS) | ((with_reducible apply l_store); assumption; rfl; rfl; (repeat (first | exact Upd.head | apply Upd.tail)); rfl; clear hS; intro w hS; simp only [splice] at hS; try rw [splice_nil] at hS))
  refine bodyPost_ret (results_c1 (k := 1) (agg := false) rfl hS rfl (by repeat (first | exact Has.head | apply Has.tail)) rfl) rfl ⟨rfl, hS.fr⟩
theorem eholds_dtt (w0 : World) (hG : GlobT w0) (e f : Ev) (hf : fewP e = true) (hg : fewP f = true) (hq : rightQ e = true) (hr : rightQ f = true) (hd : decide (e = f) = true) : Calls Tryz.prog 14 #[e.v, f.v] w0 fun en w' => en = .returned (.bool true) ∧ Fr [] w0 w' := by
  have hfl := fewP_len hf
  have hgl := fewP_len hg
  have hfw := fun W => few_c W e
  rw [hf] at hfw
  have hgw := fun W => few_c W f
  rw [hg] at hgw
  have hen := fun W (hW : GlobT W) => encode_t W hW.base e (by rw [checkP_eq, hq])
  have heo := fun W (hW : GlobT W) => encode_t W hW.base f (by rw [checkP_eq, hr])
  have hde : decide (encP e = encP f) = decide (e = f) := by
    by_cases h : e = f
    · rw [h]; simp
    · have h2 : ¬ encP e = encP f := fun h3 => h (enc_inj e f hq hr h3)
      rw [decide_eq_false h, decide_eq_false h2]
  obtain ⟨Y, hY⟩ : ∃ Y, Y = encP f := ⟨_, rfl⟩
  rw [← hY] at heo hde
  rw [hd] at hde
  obtain ⟨X, hX⟩ : ∃ X, X = encP e := ⟨_, rfl⟩
  rw [← hX] at hen hde
  have hbe : (X == Y) = true := by rw [of_decide_eq_true hde]; simp
  have hsq := fun eb W (hW : Glob W) (hb : (row eb 34 e.cs).ok W) => linesE_s eb e W hW hb (by omega) (by omega) (by omega)
  rw [seqP_want] at hsq
  have hwp : wantP e = linesP e ++ [[]] := by unfold wantP; rw [hq]; rfl
  rw [hwp] at hsq
  have hsm : e.id.length + e.ty.length + e.da.length ≤ 65536 := by omega
  have hLl := (linesP_len e hsm)
  have hkd := read_kinds e 300 hfl.1 hfl.2.1 hfl.2.2
  have hro := read_of e
  have hall := heldP_all e
  have hpp : 0 < (splitP 10 e.da).length := by
    have := splitP_ne 10 e.da
    cases h : splitP 10 e.da with
    | nil => exact absurd h this
    | cons x l => simp
  obtain ⟨L, hL⟩ : ∃ L, L = linesP e ++ [[]] := ⟨_, rfl⟩
  rw [← hL] at hsq hro hall
  have hLn : L.length ≤ 65541 := by rw [hL]; simp; omega
  have hLx : ∀ x ∈ L, x.length ≤ 65550 := by
    intro x hx
    rw [hL] at hx
    rcases List.mem_append.1 hx with h | h
    · exact hLl.2 x h
    · have : x = [] := by simpa using h
      rw [this]; simp
  have hLk : ∀ x ∈ L, ((ofP x).kind = 5 ∨ (ofP x).kind = 4 ∨ (ofP x).kind = 3 ∨ (ofP x).kind = 1) ∧ (ofP x).val.length ≤ 300 := fun x hx => hkd _ (by rw [← hro]; exact List.mem_map_of_mem hx)
  obtain ⟨np, hnp⟩ : ∃ np, np = (splitP 10 e.da).length := ⟨_, rfl⟩
  rw [← hnp] at hall hpp
  have hpi : (0 : Int) < (np : Int) := by omega
  have HLx := Lib.hid hLx
  have HLk := Lib.hid hLk
  have Hall := Lib.hid hall
  have Hsq := Lib.hid hsq
  have Hfw := Lib.hid hfw
  have Hgw := Lib.hid hgw
  have Hen := Lib.hid hen
  have Heo := Lib.hid heo
  have Hpi := Lib.hid hpp
  clear hfw hf hgw hg hen heo hq hr hfl hgl hX hsq hwp hLl hkd hro hall hL hLx hLk hsm hnp hpp hpi hY hde
  have Hd := Lib.hid hd
  clear hd
  refine (callsIn_wide (n := 1)).1 ?_
  change CallsIn Fence.wide 1 Tryz.prog 14 #[.agg ⟨[txt e.id, txt e.ty, txt e.da]⟩, .agg ⟨[txt f.id, txt f.ty, txt f.da]⟩] w0 _
  refine callsIn_of_wp_marks Tryz.func14 rfl trivial ?_
  simp only [Tryz.ntmps14, List.size_toArray, List.length_cons, List.length_nil, Nat.reduceAdd, Nat.reduceSub, Array.replicate_succ, Array.replicate_zero, List.push_toArray, List.append_toArray, List.nil_append, List.cons_append]
  have hS := St.start [] w0
  gi_wp2_with (first | ((with_reducible apply i_want); rfl) | ((with_reducible apply i_box (dst := some 2)); assumption; rfl; clear hS; intro bx w hS) | ((with_reducible apply i_box (dst := some 3)); assumption; rfl; clear hS; intro by_ w hS) | ((with_reducible apply i_alloc (dst := some 4)); assumption; rfl; clear hS; intro br w hS) | (gi_at_call 36; refine callsIn_wide.2 ((Hfw.out _).mono ?_); rintro en w1 ⟨rfl, hf1⟩; replace hS := hS.keep hf1) | (gi_at_call 36; refine callsIn_wide.2 ((Hgw.out _).mono ?_); rintro en w1 ⟨rfl, hf1⟩; replace hS := hS.keep hf1) | (gi_at_call 47; refine callsIn_wide.2 ((Hen.out _ (hG.keep hS.fr)).mono ?_); rintro en w1 ⟨v, rfl, hT⟩; replace hS := hS.join hT; simp only [List.cons_append, List.nil_append] at hS; obtain ⟨A, cp, rfl, hcp⟩ := (hT.get (c := rdS 1 v X.length (bv X)) (by exact Has.head)).shape; clear hT) | (gi_at_call 47; refine callsIn_wide.2 ((Heo.out _ (hG.keep hS.fr)).mono ?_); rintro en w1 ⟨v, rfl, hT⟩; replace hS := hS.join hT; simp only [List.cons_append, List.nil_append] at hS; obtain ⟨A, cp, rfl, hcp⟩ := (hT.get (c := rdS 1 v Y.length (bv Y)) (by exact Has.head)).shape; clear hT) | ((with_reducible apply i_alloc); assumption; rfl; clear hS; intro b w hS) | ((with_reducible apply i_box); assumption; rfl; clear hS; intro b w hS) | ((with_reducible apply i_load); assumption; rfl; (repeat (first | exact Has.head | apply Has.tail)); (first | rfl | (simp [takeV]; done))) | ((with_reducible apply i_build); rfl; (simp [fillL, splice, Value.cells, Act.eval]; rfl)) | ((with_reducible apply i_buildA); rfl; (simp [fillL, splice, Value.cells, Act.eval]; rfl)) | ((with_reducible apply i_bslice); assumption; rfl; rfl; (first | (simp [fillL, splice, zeros, Value.cells, Act.eval]; rfl) | rfl); clear hS; intro b w hS) | ((with_reducible apply i_storeF); assumption; rfl; rfl; (repeat (first | exact Upd.head | apply Upd.tail)); rfl; clear hS; intro w hS) | ((with_reducible apply i_store); assumption; rfl; rfl; (repeat (first | exact Upd.head | apply Upd.tail)); rfl; clear hS; intro w hS; simp only [splice] at hS; try rw [splice_nil] at hS))
  refine mix_startI mixed (fun _ => trivial) (by kernel_rfl) _ (Stable.st _ _ _) hS.drew ?_
  replace hS := hS.drew
  apply mix_fI 0 rfl (by kernel_rfl) rfl room_wide (by intro c h; cases h)
  · intro w; gi_wp2_with (first | ((with_reducible apply i_want); rfl)); exact ⟨rfl, Fr.refl _ _⟩
  · rfl
  apply mix_qI 1 rfl (by kernel_rfl) rfl rfl room_wide (by intro c h; cases h)
  · intro w hS; gi_wp2_with (first | ((with_reducible apply i_want); rfl) | (gi_at_call 43; go_must (refine callsIn_wide.2 ((num_c _ _).mono ?_)); rintro en w1 ⟨rfl, rfl⟩)); exact ⟨rfl, by first | exact Fr.refl _ _ | assumption⟩
  · rfl
  apply mix_fI 2 rfl (by kernel_rfl) rfl room_wide (by intro c h; cases h)
  · intro w; gi_wp2_with (first | ((with_reducible apply i_want); rfl)); exact ⟨rfl, Fr.refl _ _⟩
  · rfl
  apply mix_qI 3 rfl (by kernel_rfl) rfl rfl room_wide (by intro c h; cases h)
  · intro w hS; gi_wp2_with (first | ((with_reducible apply i_want); rfl) | (gi_at_call 43; go_must (refine callsIn_wide.2 ((num_c _ _).mono ?_)); rintro en w1 ⟨rfl, rfl⟩)); exact ⟨rfl, by first | exact Fr.refl _ _ | assumption⟩
  · rfl
  apply mix_qI 4 rfl (by kernel_rfl) rfl rfl room_wide (by intro c h; cases h)
  · intro w hS; gi_wp2_with (first | ((with_reducible apply i_want); rfl) | ((with_reducible apply i_eqEv (f := e) (g := f) (r := true)); rfl; rfl; exact Hd.out)); exact ⟨rfl, by first | exact Fr.refl _ _ | assumption⟩
  · rfl
  apply mix_qI 5 rfl (by kernel_rfl) rfl rfl room_wide (by intro c h; cases h)
  · intro w hS; gi_wp2_with (first | ((with_reducible apply i_want); rfl) | ((with_reducible apply i_eqEv (f := e) (g := f) (r := true)); rfl; rfl; exact Hd.out)); exact ⟨rfl, by first | exact Fr.refl _ _ | assumption⟩
  · rfl
  apply mix_fI 6 rfl (by kernel_rfl) rfl room_wide (by intro c h; cases h)
  · intro w; gi_wp2_with (first | ((with_reducible apply i_want); rfl)); exact ⟨rfl, Fr.refl _ _⟩
  · rfl
  apply mix_fI 7 rfl (by kernel_rfl) rfl room_wide (by intro c h; cases h)
  · intro w; gi_wp2_with (first | ((with_reducible apply i_want); rfl)); exact ⟨rfl, Fr.refl _ _⟩
  · rfl
  apply mix_qI 8 rfl (by kernel_rfl) rfl rfl room_wide (by intro c h; cases h)
  · intro w hS; gi_wp2_with (first | ((with_reducible apply i_want); rfl) | ((with_reducible apply i_b2s (l := X)); rfl; refine hS.get (c := rdS 1 _ X.length (bv X)) ?_; (first | exact Has.head | exact Has.head.tail | exact Has.head.tail.tail | exact Has.head.tail.tail.tail | exact Has.head.tail.tail.tail.tail | exact Has.head.tail.tail.tail.tail.tail | exact Has.head.tail.tail.tail.tail.tail.tail | exact Has.head.tail.tail.tail.tail.tail.tail.tail | exact Has.head.tail.tail.tail.tail.tail.tail.tail.tail | exact Has.head.tail.tail.tail.tail.tail.tail.tail.tail.tail | exact Has.head.tail.tail.tail.tail.tail.tail.tail.tail.tail.tail | exact Has.head.tail.tail.tail.tail.tail.tail.tail.tail.tail.tail.tail)) | ((with_reducible apply i_b2s (l := Y)); rfl; refine hS.get (c := rdS 1 _ Y.length (bv Y)) ?_; (first | exact Has.head | exact Has.head.tail | exact Has.head.tail.tail | exact Has.head.tail.tail.tail | exact Has.head.tail.tail.tail.tail | exact Has.head.tail.tail.tail.tail.tail | exact Has.head.tail.tail.tail.tail.tail.tail | exact Has.head.tail.tail.tail.tail.tail.tail.tail | exact Has.head.tail.tail.tail.tail.tail.tail.tail.tail | exact Has.head.tail.tail.tail.tail.tail.tail.tail.tail.tail | exact Has.head.tail.tail.tail.tail.tail.tail.tail.tail.tail.tail | exact Has.head.tail.tail.tail.tail.tail.tail.tail.tail.tail.tail.tail))); exact ⟨rfl, by first | exact Fr.refl _ _ | assumption⟩
  · rfl
  apply mix_fI 9 rfl (by kernel_rfl) rfl room_wide (by intro c h; cases h)
  · intro w; gi_wp2_with (first | ((with_reducible apply i_want); rfl)); exact ⟨rfl, Fr.refl _ _⟩
  · rfl
  apply mix_qI 10 rfl (by kernel_rfl) rfl rfl room_wide (by intro c h; cases h)
  · intro w hS; gi_wp2_with (first | ((with_reducible apply i_want); rfl) | ((with_reducible apply i_b2s (l := X)); rfl; refine hS.get (c := rdS 1 _ X.length (bv X)) ?_; (first | exact Has.head | exact Has.head.tail | exact Has.head.tail.tail | exact Has.head.tail.tail.tail | exact Has.head.tail.tail.tail.tail | exact Has.head.tail.tail.tail.tail.tail | exact Has.head.tail.tail.tail.tail.tail.tail | exact Has.head.tail.tail.tail.tail.tail.tail.tail | exact Has.head.tail.tail.tail.tail.tail.tail.tail.tail | exact Has.head.tail.tail.tail.tail.tail.tail.tail.tail.tail | exact Has.head.tail.tail.tail.tail.tail.tail.tail.tail.tail.tail | exact Has.head.tail.tail.tail.tail.tail.tail.tail.tail.tail.tail.tail)) | ((with_reducible apply i_b2s (l := Y)); rfl; refine hS.get (c := rdS 1 _ Y.length (bv Y)) ?_; (first | exact Has.head | exact Has.head.tail | exact Has.head.tail.tail | exact Has.head.tail.tail.tail | exact Has.head.tail.tail.tail.tail | exact Has.head.tail.tail.tail.tail.tail | exact Has.head.tail.tail.tail.tail.tail.tail | exact Has.head.tail.tail.tail.tail.tail.tail.tail | exact Has.head.tail.tail.tail.tail.tail.tail.tail.tail | exact Has.head.tail.tail.tail.tail.tail.tail.tail.tail.tail | exact Has.head.tail.tail.tail.tail.tail.tail.tail.tail.tail.tail | exact Has.head.tail.tail.tail.tail.tail.tail.tail.tail.tail.tail.tail))); exact ⟨rfl, by first | exact Fr.refl _ _ | assumption⟩
  · rfl
  apply mix_qI 11 rfl (by kernel_rfl) rfl rfl room_wide (by intro c h; cases h)
  · intro w hS; gi_wp2_with (first | ((with_reducible apply i_want); rfl) | ((with_reducible apply i_eqEv (f := e) (g := f) (r := true)); rfl; rfl; exact Hd.out)); exact ⟨rfl, by first | exact Fr.refl _ _ | assumption⟩
  · rfl
  apply mix_qI 12 rfl (by kernel_rfl) rfl rfl room_wide (by intro c h; cases h)
  · intro w hS; gi_wp2_with (first | ((with_reducible apply i_want); rfl) | ((with_reducible apply i_load); assumption; rfl; (repeat (first | exact Has.head | apply Has.tail)); (first | rfl | (simp [takeV]; done)))); exact ⟨rfl, by first | exact Fr.refl _ _ | assumption⟩
  · rfl
  apply mix_qI 13 rfl (by kernel_rfl) rfl rfl room_wide (by intro c h; cases h)
  · intro w hS; gi_wp2_with (first | ((with_reducible apply i_want); rfl) | ((with_reducible apply i_load); assumption; rfl; (repeat (first | exact Has.head | apply Has.tail)); (first | rfl | (simp [takeV]; done)))); exact ⟨rfl, by first | exact Fr.refl _ _ | assumption⟩
  · rfl
  apply mix_qI 14 rfl (by kernel_rfl) rfl rfl room_wide (by intro c h; cases h)
  · intro w hS; gi_wp2_with (first | ((with_reducible apply i_want); rfl) | ((with_reducible apply i_eqEv (f := e) (g := f) (r := true)); rfl; rfl; exact Hd.out)); exact ⟨rfl, by first | exact Fr.refl _ _ | assumption⟩
  · rfl
  apply mix_qI 15 rfl (by kernel_rfl) rfl rfl room_wide (by intro c h; cases h)
  · intro w hS; gi_wp2_with (first | ((with_reducible apply i_want); rfl) | ((with_reducible apply i_eqEv (f := e) (g := f) (r := true)); rfl; rfl; exact Hd.out)); exact ⟨rfl, by first | exact Fr.refl _ _ | assumption⟩
  · rfl
  apply mix_fI 16 rfl (by kernel_rfl) rfl room_wide (by intro c h; cases h)
  · intro w; gi_wp2_with (first | ((with_reducible apply i_want); rfl)); exact ⟨rfl, Fr.refl _ _⟩
  · rfl
  refine mixE (by kernel_rfl) ?_
  intro w hf _; replace hS := hS.keep hf; clear hf
  clear hbe Hd
  gi_wp2_with (first | ((with_reducible apply i_want); rfl) | (gi_at_call 43; go_must (refine callsIn_wide.2 ((num_c _ _).mono ?_)); rintro en w1 ⟨rfl, rfl⟩) | (gi_at_call 86; go_must (refine callsIn_wide.2 ((linesE_c _ e).mono ?_)); rintro en w1 ⟨eb, rfl, hT⟩; replace hS := hS.join hT; simp only [List.cons_append, List.nil_append] at hS; clear hT) | ((with_reducible apply i_alloc (dst := some 10)); assumption; rfl; clear hS; intro b10 w hS) | ((with_reducible apply i_alloc (dst := some 11)); assumption; rfl; clear hS; intro b11 w hS) | ((with_reducible apply i_alloc (dst := some 12)); assumption; rfl; clear hS; intro b12 w hS) | ((with_reducible apply i_alloc (dst := some 13)); assumption; rfl; clear hS; intro b13 w hS) | ((with_reducible apply i_alloc (dst := some 14)); assumption; rfl; clear hS; intro b14 w hS) | ((with_reducible apply i_alloc); assumption; rfl; clear hS; intro b w hS) | ((with_reducible apply i_box); assumption; rfl; clear hS; intro b w hS) | ((with_reducible apply i_load); assumption; rfl; (repeat (first | exact Has.head | apply Has.tail)); (first | rfl | (simp [takeV]; done))) | ((with_reducible apply i_build); rfl; (simp [fillL, splice, Value.cells, Act.eval]; rfl)) | ((with_reducible apply i_buildA); rfl; (simp [fillL, splice, Value.cells, Act.eval]; rfl)) | ((with_reducible apply i_bslice); assumption; rfl; rfl; (first | (simp [fillL, splice, zeros, Value.cells, Act.eval]; rfl) | rfl); clear hS; intro b w hS) | ((with_reducible apply i_storeF); assumption; rfl; rfl; (repeat (first | exact Upd.head | apply Upd.tail)); rfl; clear hS; intro w hS) | ((with_reducible apply i_store); assumption; rfl; rfl; (repeat (first | exact Upd.head | apply Upd.tail)); rfl; clear hS; intro w hS; simp only [splice] at hS; try rw [splice_nil] at hS))
  have hS := hS.sub (L' := [row b14 3 [.int .i64 0], row b13 3 [.int .i64 0], row b12 9 [txt []], row b11 9 [txt []], row b10 9 [txt []], row eb 34 e.cs, row br 4 [.bool false], row bx 34 [txt e.id, txt e.ty, txt e.da]]) (by (repeat (first | exact List.Sublist.slnil | exact List.Sublist.refl _ | apply List.Sublist.cons_cons | apply List.Sublist.cons)))
  have hE := hS.get (c := row eb 34 e.cs) (by repeat (first | exact Has.head | apply Has.tail))
  have hG1 : Glob w := hG.base.keep hS.fr
  have hP1 := hS.pick (by exact .tail (.tail (.tail (.tail (.tail .head)))))
  have hS1 := hP1.perm (List.perm_append_comm (l₁ := [_]))
  simp only [List.cons_append, List.nil_append] at hS1
  have hElt := ((hS.ok (row eb 34 e.cs) (by simp)).2 eb (by simp [row, blk])).1
  have hW0 : 0 < w0.heap.size := by
    obtain ⟨v, hv⟩ := hG.base.maxLen
    exact World.block_lt_of_cell? w0 ⟨0, 0, none⟩ hv
  have hS2 := St.bundle (L1 := [_, _, _, _, _, _, _]) (L2 := [_]) hS1
  clear hS1 hP1
  have hGr : ∀ (pre : List (Nat × List UInt8)), pre <+: numL L → (heldP pre).da.length ≤ 65541 * 301 ∧ (heldP pre).parts ≤ 65541 ∧ (heldP pre).ends ≤ 65541 := by
    intro pre hpre
    have h1 := heldP_small 300 pre (fun x hx => by
      have hm : x ∈ numL L := hpre.subset hx
      unfold numL at hm
      obtain ⟨y, hy, rfl⟩ := List.mem_map.1 hm
      exact (HLk.out y.1 (List.mem_of_getElem? (by simpa using List.mem_zipIdx_iff_getElem?.1 hy))).2)
    have h2 := hpre.length_le
    rw [numL_len] at h2
    have h3 : pre.length * (300 + 1) ≤ 65541 * 301 := Nat.mul_le_mul (by omega) (Nat.le_refl _)
    exact ⟨by omega, by omega, by omega⟩
  have HGr := Lib.hid hGr
  clear hGr
  have h0c : ∀ s : Hs, 0 ∉ (bun [row b14 3 [.int .i64 (s.ends : Int)], row b13 3 [.int .i64 (s.parts : Int)], row b12 9 [txt s.da], row b11 9 [txt s.ty], row b10 9 [txt s.id], row br 4 [.bool false], row bx 34 [txt e.id, txt e.ty, txt e.da]]).fp := by
    intro s hb
    rcases ((hS2.ok _ (List.mem_cons_self)).2 0 hb).2 with h3 | h3
    · omega
    · cases h3
  refine i_rangeFuncF (P := Tryz.prog) hS2 rfl (enters_of Tryz.func168 (by kernel_rfl) rfl) (Hsq.out eb w hG1 hE) (T := []) (Fr.refl _ _) (by simp) ?_ ?_ (fun x => rfl)
    (fun pre C => C = bun [row b14 3 [.int .i64 ((heldP pre).ends : Int)], row b13 3 [.int .i64 ((heldP pre).parts : Int)], row b12 9 [txt (heldP pre).da], row b11 9 [txt (heldP pre).ty], row b10 9 [txt (heldP pre).id], row br 4 [.bool false], row bx 34 [txt e.id, txt e.ty, txt e.da]])
    (fun _ _ _ => False) rfl ?_ ?_ ?_
  · intro k hk hk2
    have hkS := (hS2.ok _ (List.mem_cons_self)).2 k hk
    rcases List.mem_cons.1 hk2 with rfl | h2
    · rcases hkS.2 with h3 | h3
      · omega
      · cases h3
    · have : k = eb := by simpa using h2
      subst this
      exact (List.pairwise_cons.1 hS2.sep).1 _ (List.mem_cons_self) k hk (by simp [row, blk])
  · intro k hk
    rcases List.mem_cons.1 hk with rfl | h2
    · exact Nat.lt_of_lt_of_le hW0 hS.fr.size
    · have : k = eb := by simpa using h2
      subst this
      exact hElt
  · rintro l pre ⟨i, x⟩ C W3 K hpre hfr0 rfl hok hlt hK
    gi_wp2
    refine hK _ _ _ (Turn.refl hok hlt) ?_
    intro W2 hfr2 hok2 hlt2
    have hS := St.open hok2
    obtain ⟨-, hx⟩ := numL_pre hpre
    have hxm := List.mem_of_getElem? hx
    have hxl := HLx.out x hxm
    have hxk := HLk.out x hxm
    have hb := HGr.out pre ((List.prefix_append _ _).trans hpre)
    have hst := heldP_snoc pre (i, x)
    have hfo := fun W (hW : Glob W) => fieldOf_c W hW x (by omega)
    have hG2 : Glob W2 := hG.base.keep (hS2.frame_head (hfr2 _ hfr0))
    have hGw := fun W' (h : Fr (bun [row b14 3 [.int .i64 ((heldP pre).ends : Int)], row b13 3 [.int .i64 ((heldP pre).parts : Int)], row b12 9 [txt (heldP pre).da], row b11 9 [txt (heldP pre).ty], row b10 9 [txt (heldP pre).id], row br 4 [.bool false], row bx 34 [txt e.id, txt e.ty, txt e.da]]).fp W2 W') => hG2.fr h (h0c (heldP pre))
    have HGw := Lib.hid hGw
    clear hok hlt hK hfr0 hfr2 hS2 hE hG1 hpre hok2 hlt2 hx hxm hxl hElt hG2 h0c hGw
    obtain ⟨hd1, hd2, hd3⟩ := hb
    generalize heldP pre = s at *
    generalize ofP x = fd at *
    obtain ⟨sid, sty, sda, sp, se⟩ := s
    obtain ⟨k, nm, vl⟩ := fd
    obtain ⟨hxk, hvl⟩ := hxk
    have Hst := Lib.hid hst
    have Hfo := Lib.hid hfo
    clear hst hfo
    dsimp only at hxk hvl hd1 hd2 hd3 hS HGw
    rcases hxk with rfl | rfl | rfl | rfl
    · gi_wp2_with (first | ((with_reducible apply i_want); rfl) | (gi_at_call 87; go_must (refine callsIn_wide.2 ((Hfo.out _ (HGw.out _ hS.fr)).mono ?_)); rintro en w1 ⟨rfl, hf1⟩; replace hS := hS.keep hf1) | ((with_reducible apply i_alloc); assumption; rfl; clear hS; intro b w hS) | ((with_reducible apply i_box); assumption; rfl; clear hS; intro b w hS) | ((with_reducible apply i_load); assumption; rfl; (repeat (first | exact Has.head | apply Has.tail)); (first | rfl | (simp [takeV]; done))) | ((with_reducible apply i_build); rfl; (simp [fillL, splice, Value.cells, Act.eval]; rfl)) | ((with_reducible apply i_buildA); rfl; (simp [fillL, splice, Value.cells, Act.eval]; rfl)) | ((with_reducible apply i_bslice); assumption; rfl; rfl; (first | (simp [fillL, splice, zeros, Value.cells, Act.eval]; rfl) | rfl); clear hS; intro b w hS) | ((with_reducible apply i_storeF); assumption; rfl; rfl; (repeat (first | exact Upd.head | apply Upd.tail)); rfl; clear hS; intro w hS) | ((with_reducible apply i_store); assumption; rfl; rfl; (repeat (first | exact Upd.head | apply Upd.tail)); rfl; clear hS; intro w hS; simp only [splice] at hS; try rw [splice_nil] at hS))
      have hS := hS.sub (L' := [row b14 3 [.int .i64 (se : Int)], row b13 3 [.int .i64 (sp : Int)], row b12 9 [txt sda], row b11 9 [txt sty], row b10 9 [txt vl], row br 4 [.bool false], row bx 34 [txt e.id, txt e.ty, txt e.da]]) (by (repeat (first | exact List.Sublist.slnil | exact List.Sublist.refl _ | apply List.Sublist.cons_cons | apply List.Sublist.cons)))
      refine ⟨_, ?_, hS.toTurn⟩
      show _ = bun _
      rw [Hst.out]
      rfl
    · gi_wp2_with (first | ((with_reducible apply i_want); rfl) | (gi_at_call 87; go_must (refine callsIn_wide.2 ((Hfo.out _ (HGw.out _ hS.fr)).mono ?_)); rintro en w1 ⟨rfl, hf1⟩; replace hS := hS.keep hf1) | ((with_reducible apply i_alloc); assumption; rfl; clear hS; intro b w hS) | ((with_reducible apply i_box); assumption; rfl; clear hS; intro b w hS) | ((with_reducible apply i_load); assumption; rfl; (repeat (first | exact Has.head | apply Has.tail)); (first | rfl | (simp [takeV]; done))) | ((with_reducible apply i_build); rfl; (simp [fillL, splice, Value.cells, Act.eval]; rfl)) | ((with_reducible apply i_buildA); rfl; (simp [fillL, splice, Value.cells, Act.eval]; rfl)) | ((with_reducible apply i_bslice); assumption; rfl; rfl; (first | (simp [fillL, splice, zeros, Value.cells, Act.eval]; rfl) | rfl); clear hS; intro b w hS) | ((with_reducible apply i_storeF); assumption; rfl; rfl; (repeat (first | exact Upd.head | apply Upd.tail)); rfl; clear hS; intro w hS) | ((with_reducible apply i_store); assumption; rfl; rfl; (repeat (first | exact Upd.head | apply Upd.tail)); rfl; clear hS; intro w hS; simp only [splice] at hS; try rw [splice_nil] at hS))
      have hS := hS.sub (L' := [row b14 3 [.int .i64 (se : Int)], row b13 3 [.int .i64 (sp : Int)], row b12 9 [txt sda], row b11 9 [txt vl], row b10 9 [txt sid], row br 4 [.bool false], row bx 34 [txt e.id, txt e.ty, txt e.da]]) (by (repeat (first | exact List.Sublist.slnil | exact List.Sublist.refl _ | apply List.Sublist.cons_cons | apply List.Sublist.cons)))
      refine ⟨_, ?_, hS.toTurn⟩
      show _ = bun _
      rw [Hst.out]
      rfl
    · cases sp with
      | zero =>
        gi_wp2_with (first | ((with_reducible apply i_want); rfl) | (gi_at_call 87; go_must (refine callsIn_wide.2 ((Hfo.out _ (HGw.out _ hS.fr)).mono ?_)); rintro en w1 ⟨rfl, hf1⟩; replace hS := hS.keep hf1) | ((with_reducible apply i_cat); rfl; rfl; (simp only [List.length_append, List.length_cons, List.length_nil]; omega)) | ((with_reducible apply i_alloc); assumption; rfl; clear hS; intro b w hS) | ((with_reducible apply i_box); assumption; rfl; clear hS; intro b w hS) | ((with_reducible apply i_load); assumption; rfl; (repeat (first | exact Has.head | apply Has.tail)); (first | rfl | (simp [takeV]; done))) | ((with_reducible apply i_build); rfl; (simp [fillL, splice, Value.cells, Act.eval]; rfl)) | ((with_reducible apply i_buildA); rfl; (simp [fillL, splice, Value.cells, Act.eval]; rfl)) | ((with_reducible apply i_bslice); assumption; rfl; rfl; (first | (simp [fillL, splice, zeros, Value.cells, Act.eval]; rfl) | rfl); clear hS; intro b w hS) | ((with_reducible apply i_storeF); assumption; rfl; rfl; (repeat (first | exact Upd.head | apply Upd.tail)); rfl; clear hS; intro w hS) | ((with_reducible apply i_store); assumption; rfl; rfl; (repeat (first | exact Upd.head | apply Upd.tail)); rfl; clear hS; intro w hS; simp only [splice] at hS; try rw [splice_nil] at hS))
        have hS := hS.sub (L' := [row b14 3 [.int .i64 (se : Int)], row b13 3 [.int .i64 (0 + 1 : Int)], row b12 9 [txt (sda ++ vl)], row b11 9 [txt sty], row b10 9 [txt sid], row br 4 [.bool false], row bx 34 [txt e.id, txt e.ty, txt e.da]]) (by (repeat (first | exact List.Sublist.slnil | exact List.Sublist.refl _ | apply List.Sublist.cons_cons | apply List.Sublist.cons)))
        refine ⟨_, ?_, hS.toTurn⟩
        show _ = bun _
        rw [Hst.out]
        rfl
      | succ sp =>
        have hsp : (0 : Int) < (sp : Int) + 1 := by omega
        gi_wp2_with (first | ((with_reducible apply i_want); rfl) | (gi_at_call 87; go_must (refine callsIn_wide.2 ((Hfo.out _ (HGw.out _ hS.fr)).mono ?_)); rintro en w1 ⟨rfl, hf1⟩; replace hS := hS.keep hf1) | ((with_reducible apply i_cat); rfl; rfl; (simp only [List.length_append, List.length_cons, List.length_nil]; omega)) | ((with_reducible apply i_alloc); assumption; rfl; clear hS; intro b w hS) | ((with_reducible apply i_box); assumption; rfl; clear hS; intro b w hS) | ((with_reducible apply i_load); assumption; rfl; (repeat (first | exact Has.head | apply Has.tail)); (first | rfl | (simp [takeV]; done))) | ((with_reducible apply i_build); rfl; (simp [fillL, splice, Value.cells, Act.eval]; rfl)) | ((with_reducible apply i_buildA); rfl; (simp [fillL, splice, Value.cells, Act.eval]; rfl)) | ((with_reducible apply i_bslice); assumption; rfl; rfl; (first | (simp [fillL, splice, zeros, Value.cells, Act.eval]; rfl) | rfl); clear hS; intro b w hS) | ((with_reducible apply i_storeF); assumption; rfl; rfl; (repeat (first | exact Upd.head | apply Upd.tail)); rfl; clear hS; intro w hS) | ((with_reducible apply i_store); assumption; rfl; rfl; (repeat (first | exact Upd.head | apply Upd.tail)); rfl; clear hS; intro w hS; simp only [splice] at hS; try rw [splice_nil] at hS))
        have hS := hS.sub (L' := [row b14 3 [.int .i64 (se : Int)], row b13 3 [.int .i64 (sp + 1 + 1 : Int)], row b12 9 [txt (sda ++ [10] ++ vl)], row b11 9 [txt sty], row b10 9 [txt sid], row br 4 [.bool false], row bx 34 [txt e.id, txt e.ty, txt e.da]]) (by (repeat (first | exact List.Sublist.slnil | exact List.Sublist.refl _ | apply List.Sublist.cons_cons | apply List.Sublist.cons)))
        refine ⟨_, ?_, hS.toTurn⟩
        show _ = bun _
        rw [Hst.out]
        rfl
    · gi_wp2_with (first | ((with_reducible apply i_want); rfl) | (gi_at_call 87; go_must (refine callsIn_wide.2 ((Hfo.out _ (HGw.out _ hS.fr)).mono ?_)); rintro en w1 ⟨rfl, hf1⟩; replace hS := hS.keep hf1) | ((with_reducible apply i_alloc); assumption; rfl; clear hS; intro b w hS) | ((with_reducible apply i_box); assumption; rfl; clear hS; intro b w hS) | ((with_reducible apply i_load); assumption; rfl; (repeat (first | exact Has.head | apply Has.tail)); (first | rfl | (simp [takeV]; done))) | ((with_reducible apply i_build); rfl; (simp [fillL, splice, Value.cells, Act.eval]; rfl)) | ((with_reducible apply i_buildA); rfl; (simp [fillL, splice, Value.cells, Act.eval]; rfl)) | ((with_reducible apply i_bslice); assumption; rfl; rfl; (first | (simp [fillL, splice, zeros, Value.cells, Act.eval]; rfl) | rfl); clear hS; intro b w hS) | ((with_reducible apply i_storeF); assumption; rfl; rfl; (repeat (first | exact Upd.head | apply Upd.tail)); rfl; clear hS; intro w hS) | ((with_reducible apply i_store); assumption; rfl; rfl; (repeat (first | exact Upd.head | apply Upd.tail)); rfl; clear hS; intro w hS; simp only [splice] at hS; try rw [splice_nil] at hS))
      have hS := hS.sub (L' := [row b14 3 [.int .i64 (se + 1 : Int)], row b13 3 [.int .i64 (sp : Int)], row b12 9 [txt sda], row b11 9 [txt sty], row b10 9 [txt sid], row br 4 [.bool false], row bx 34 [txt e.id, txt e.ty, txt e.da]]) (by (repeat (first | exact List.Sublist.slnil | exact List.Sublist.refl _ | apply List.Sublist.cons_cons | apply List.Sublist.cons)))
      refine ⟨_, ?_, hS.toTurn⟩
      show _ = bun _
      rw [Hst.out]
      rfl
  · rintro D1 W1 C rfl hS
    have hS := (hS.pick (by exact .tail .head)).unbundle
    simp only [List.cons_append, List.nil_append] at hS
    rw [Hall.out] at hS
    have hpi := Hpi.out
    clear hS2 hE hG1 hElt
    gi_wp2_with (first | ((with_reducible apply i_want); rfl) | (gi_at_call 37; go_must (refine callsIn_wide.2 ((works_c _ (hG.keep hS.fr)).mono ?_)); rintro en w1 ⟨rfl, hf1⟩; replace hS := hS.keep hf1) | ((with_reducible apply i_alloc); assumption; rfl; clear hS; intro b w hS) | ((with_reducible apply i_box); assumption; rfl; clear hS; intro b w hS) | ((with_reducible apply i_load); assumption; rfl; (repeat (first | exact Has.head | apply Has.tail)); (first | rfl | (simp [takeV]; done))) | ((with_reducible apply i_build); rfl; (simp [fillL, splice, Value.cells, Act.eval]; rfl)) | ((with_reducible apply i_buildA); rfl; (simp [fillL, splice, Value.cells, Act.eval]; rfl)) | ((with_reducible apply i_bslice); assumption; rfl; rfl; (first | (simp [fillL, splice, zeros, Value.cells, Act.eval]; rfl) | rfl); clear hS; intro b w hS) | ((with_reducible apply i_storeF); assumption; rfl; rfl; (repeat (first | exact Upd.head | apply Upd.tail)); rfl; clear hS; intro w hS) | ((with_reducible apply i_store); assumption; rfl; rfl; (repeat (first | exact Upd.head | apply Upd.tail)); rfl; clear hS; intro w hS; simp only [splice] at hS; try rw [splice_nil] at hS))
    have hP3 := hS.pick (by exact .tail (.tail (.tail (.tail (.tail (.tail (.tail .head)))))))
    obtain ⟨W7, ht7, hS7⟩ := hP3.take (P := Tryz.prog)
    refine ⟨by simp, .inl ⟨_, _, rfl, ht7, ?_⟩⟩
    exact ⟨_, results_c1 (k := 1) (agg := false) rfl hS7 rfl (by repeat (first | exact Has.head | apply Has.tail)) rfl, rfl, hS7.fr⟩
  · intro D code pre c' W1 _ h _
    exact h.elim
theorem eholds_dtf (w0 : World) (hG : GlobT w0) (e f : Ev) (hf : fewP e = true) (hg : fewP f = true) (hq : rightQ e = true) (hr : rightQ f = true) (hd : decide (e = f) = false) : Calls Tryz.prog 14 #[e.v, f.v] w0 fun en w' => en = .returned (.bool true) ∧ Fr [] w0 w' := by
  have hfl := fewP_len hf
  have hgl := fewP_len hg
  have hfw := fun W => few_c W e
  rw [hf] at hfw
  have hgw := fun W => few_c W f
  rw [hg] at hgw
  have hen := fun W (hW : GlobT W) => encode_t W hW.base e (by rw [checkP_eq, hq])
  have heo := fun W (hW : GlobT W) => encode_t W hW.base f (by rw [checkP_eq, hr])
  have hde : decide (encP e = encP f) = decide (e = f) := by
    by_cases h : e = f
    · rw [h]; simp
    · have h2 : ¬ encP e = encP f := fun h3 => h (enc_inj e f hq hr h3)
      rw [decide_eq_false h, decide_eq_false h2]
  obtain ⟨Y, hY⟩ : ∃ Y, Y = encP f := ⟨_, rfl⟩
  rw [← hY] at heo hde
  rw [hd] at hde
  obtain ⟨X, hX⟩ : ∃ X, X = encP e := ⟨_, rfl⟩
  rw [← hX] at hen hde
  have hbe : (X == Y) = false := by rw [beq_eq_false_iff_ne]; exact of_decide_eq_false hde
  have hsq := fun eb W (hW : Glob W) (hb : (row eb 34 e.cs).ok W) => linesE_s eb e W hW hb (by omega) (by omega) (by omega)
  rw [seqP_want] at hsq
  have hwp : wantP e = linesP e ++ [[]] := by unfold wantP; rw [hq]; rfl
  rw [hwp] at hsq
  have hsm : e.id.length + e.ty.length + e.da.length ≤ 65536 := by omega
  have hLl := (linesP_len e hsm)
  have hkd := read_kinds e 300 hfl.1 hfl.2.1 hfl.2.2
  have hro := read_of e
  have hall := heldP_all e
  have hpp : 0 < (splitP 10 e.da).length := by
    have := splitP_ne 10 e.da
    cases h : splitP 10 e.da with
    | nil => exact absurd h this
    | cons x l => simp
  obtain ⟨L, hL⟩ : ∃ L, L = linesP e ++ [[]] := ⟨_, rfl⟩
  rw [← hL] at hsq hro hall
  have hLn : L.length ≤ 65541 := by rw [hL]; simp; omega
  have hLx : ∀ x ∈ L, x.length ≤ 65550 := by
    intro x hx
    rw [hL] at hx
    rcases List.mem_append.1 hx with h | h
    · exact hLl.2 x h
    · have : x = [] := by simpa using h
      rw [this]; simp
  have hLk : ∀ x ∈ L, ((ofP x).kind = 5 ∨ (ofP x).kind = 4 ∨ (ofP x).kind = 3 ∨ (ofP x).kind = 1) ∧ (ofP x).val.length ≤ 300 := fun x hx => hkd _ (by rw [← hro]; exact List.mem_map_of_mem hx)
  obtain ⟨np, hnp⟩ : ∃ np, np = (splitP 10 e.da).length := ⟨_, rfl⟩
  rw [← hnp] at hall hpp
  have hpi : (0 : Int) < (np : Int) := by omega
  have HLx := Lib.hid hLx
  have HLk := Lib.hid hLk
  have Hall := Lib.hid hall
  have Hsq := Lib.hid hsq
  have Hfw := Lib.hid hfw
  have Hgw := Lib.hid hgw
  have Hen := Lib.hid hen
  have Heo := Lib.hid heo
  have Hpi := Lib.hid hpp
  clear hfw hf hgw hg hen heo hq hr hfl hgl hX hsq hwp hLl hkd hro hall hL hLx hLk hsm hnp hpp hpi hY hde
  have Hd := Lib.hid hd
  clear hd
  refine (callsIn_wide (n := 1)).1 ?_
  change CallsIn Fence.wide 1 Tryz.prog 14 #[.agg ⟨[txt e.id, txt e.ty, txt e.da]⟩, .agg ⟨[txt f.id, txt f.ty, txt f.da]⟩] w0 _
  refine callsIn_of_wp_marks Tryz.func14 rfl trivial ?_
  simp only [Tryz.ntmps14, List.size_toArray, List.length_cons, List.length_nil, Nat.reduceAdd, Nat.reduceSub, Array.replicate_succ, Array.replicate_zero, List.push_toArray, List.append_toArray, List.nil_append, List.cons_append]
  have hS := St.start [] w0
  gi_wp2_with (first | ((with_reducible apply i_want); rfl) | ((with_reducible apply i_box (dst := some 2)); assumption; rfl; clear hS; intro bx w hS) | ((with_reducible apply i_box (dst := some 3)); assumption; rfl; clear hS; intro by_ w hS) | ((with_reducible apply i_alloc (dst := some 4)); assumption; rfl; clear hS; intro br w hS) | (gi_at_call 36; refine callsIn_wide.2 ((Hfw.out _).mono ?_); rintro en w1 ⟨rfl, hf1⟩; replace hS := hS.keep hf1) | (gi_at_call 36; refine callsIn_wide.2 ((Hgw.out _).mono ?_); rintro en w1 ⟨rfl, hf1⟩; replace hS := hS.keep hf1) | (gi_at_call 47; refine callsIn_wide.2 ((Hen.out _ (hG.keep hS.fr)).mono ?_); rintro en w1 ⟨v, rfl, hT⟩; replace hS := hS.join hT; simp only [List.cons_append, List.nil_append] at hS; obtain ⟨A, cp, rfl, hcp⟩ := (hT.get (c := rdS 1 v X.length (bv X)) (by exact Has.head)).shape; clear hT) | (gi_at_call 47; refine callsIn_wide.2 ((Heo.out _ (hG.keep hS.fr)).mono ?_); rintro en w1 ⟨v, rfl, hT⟩; replace hS := hS.join hT; simp only [List.cons_append, List.nil_append] at hS; obtain ⟨A, cp, rfl, hcp⟩ := (hT.get (c := rdS 1 v Y.length (bv Y)) (by exact Has.head)).shape; clear hT) | ((with_reducible apply i_alloc); assumption; rfl; clear hS; intro b w hS) | ((with_reducible apply i_box); assumption; rfl; clear hS; intro b w hS) | ((with_reducible apply i_load); assumption; rfl; (repeat (first | exact Has.head | apply Has.tail)); (first | rfl | (simp [takeV]; done))) | ((with_reducible apply i_build); rfl; (simp [fillL, splice, Value.cells, Act.eval]; rfl)) | ((with_reducible apply i_buildA); rfl; (simp [fillL, splice, Value.cells, Act.eval]; rfl)) | ((with_reducible apply i_bslice); assumption; rfl; rfl; (first | (simp [fillL, splice, zeros, Value.cells, Act.eval]; rfl) | rfl); clear hS; intro b w hS) | ((with_reducible apply i_storeF); assumption; rfl; rfl; (repeat (first | exact Upd.head | apply Upd.tail)); rfl; clear hS; intro w hS) | ((with_reducible apply i_store); assumption; rfl; rfl; (repeat (first | exact Upd.head | apply Upd.tail)); rfl; clear hS; intro w hS; simp only [splice] at hS; try rw [splice_nil] at hS))
  refine mix_startI mixed (fun _ => trivial) (by kernel_rfl) _ (Stable.st _ _ _) hS.drew ?_
  replace hS := hS.drew
  apply mix_fI 0 rfl (by kernel_rfl) rfl room_wide (by intro c h; cases h)
  · intro w; gi_wp2_with (first | ((with_reducible apply i_want); rfl)); exact ⟨rfl, Fr.refl _ _⟩
  · rfl
  apply mix_qI 1 rfl (by kernel_rfl) rfl rfl room_wide (by intro c h; cases h)
  · intro w hS; gi_wp2_with (first | ((with_reducible apply i_want); rfl) | (gi_at_call 43; go_must (refine callsIn_wide.2 ((num_c _ _).mono ?_)); rintro en w1 ⟨rfl, rfl⟩)); exact ⟨rfl, by first | exact Fr.refl _ _ | assumption⟩
  · rfl
  apply mix_fI 2 rfl (by kernel_rfl) rfl room_wide (by intro c h; cases h)
  · intro w; gi_wp2_with (first | ((with_reducible apply i_want); rfl)); exact ⟨rfl, Fr.refl _ _⟩
  · rfl
  apply mix_qI 3 rfl (by kernel_rfl) rfl rfl room_wide (by intro c h; cases h)
  · intro w hS; gi_wp2_with (first | ((with_reducible apply i_want); rfl) | (gi_at_call 43; go_must (refine callsIn_wide.2 ((num_c _ _).mono ?_)); rintro en w1 ⟨rfl, rfl⟩)); exact ⟨rfl, by first | exact Fr.refl _ _ | assumption⟩
  · rfl
  apply mix_qI 4 rfl (by kernel_rfl) rfl rfl room_wide (by intro c h; cases h)
  · intro w hS; gi_wp2_with (first | ((with_reducible apply i_want); rfl) | ((with_reducible apply i_eqEv (f := e) (g := f) (r := false)); rfl; rfl; exact Hd.out)); exact ⟨rfl, by first | exact Fr.refl _ _ | assumption⟩
  · rfl
  apply mix_qI 5 rfl (by kernel_rfl) rfl rfl room_wide (by intro c h; cases h)
  · intro w hS; gi_wp2_with (first | ((with_reducible apply i_want); rfl) | ((with_reducible apply i_eqEv (f := e) (g := f) (r := false)); rfl; rfl; exact Hd.out)); exact ⟨rfl, by first | exact Fr.refl _ _ | assumption⟩
  · rfl
  apply mix_fI 6 rfl (by kernel_rfl) rfl room_wide (by intro c h; cases h)
  · intro w; gi_wp2_with (first | ((with_reducible apply i_want); rfl)); exact ⟨rfl, Fr.refl _ _⟩
  · rfl
  apply mix_fI 7 rfl (by kernel_rfl) rfl room_wide (by intro c h; cases h)
  · intro w; gi_wp2_with (first | ((with_reducible apply i_want); rfl)); exact ⟨rfl, Fr.refl _ _⟩
  · rfl
  apply mix_qI 8 rfl (by kernel_rfl) rfl rfl room_wide (by intro c h; cases h)
  · intro w hS; gi_wp2_with (first | ((with_reducible apply i_want); rfl) | ((with_reducible apply i_b2s (l := X)); rfl; refine hS.get (c := rdS 1 _ X.length (bv X)) ?_; (first | exact Has.head | exact Has.head.tail | exact Has.head.tail.tail | exact Has.head.tail.tail.tail | exact Has.head.tail.tail.tail.tail | exact Has.head.tail.tail.tail.tail.tail | exact Has.head.tail.tail.tail.tail.tail.tail | exact Has.head.tail.tail.tail.tail.tail.tail.tail | exact Has.head.tail.tail.tail.tail.tail.tail.tail.tail | exact Has.head.tail.tail.tail.tail.tail.tail.tail.tail.tail | exact Has.head.tail.tail.tail.tail.tail.tail.tail.tail.tail.tail | exact Has.head.tail.tail.tail.tail.tail.tail.tail.tail.tail.tail.tail)) | ((with_reducible apply i_b2s (l := Y)); rfl; refine hS.get (c := rdS 1 _ Y.length (bv Y)) ?_; (first | exact Has.head | exact Has.head.tail | exact Has.head.tail.tail | exact Has.head.tail.tail.tail | exact Has.head.tail.tail.tail.tail | exact Has.head.tail.tail.tail.tail.tail | exact Has.head.tail.tail.tail.tail.tail.tail | exact Has.head.tail.tail.tail.tail.tail.tail.tail | exact Has.head.tail.tail.tail.tail.tail.tail.tail.tail | exact Has.head.tail.tail.tail.tail.tail.tail.tail.tail.tail | exact Has.head.tail.tail.tail.tail.tail.tail.tail.tail.tail.tail | exact Has.head.tail.tail.tail.tail.tail.tail.tail.tail.tail.tail.tail))); exact ⟨rfl, by first | exact Fr.refl _ _ | assumption⟩
  · rfl
  apply mix_fI 9 rfl (by kernel_rfl) rfl room_wide (by intro c h; cases h)
  · intro w; gi_wp2_with (first | ((with_reducible apply i_want); rfl)); exact ⟨rfl, Fr.refl _ _⟩
  · rfl
  apply mix_qI 10 rfl (by kernel_rfl) rfl rfl room_wide (by intro c h; cases h)
  · intro w hS; gi_wp2_with (first | ((with_reducible apply i_want); rfl) | ((with_reducible apply i_b2s (l := X)); rfl; refine hS.get (c := rdS 1 _ X.length (bv X)) ?_; (first | exact Has.head | exact Has.head.tail | exact Has.head.tail.tail | exact Has.head.tail.tail.tail | exact Has.head.tail.tail.tail.tail | exact Has.head.tail.tail.tail.tail.tail | exact Has.head.tail.tail.tail.tail.tail.tail | exact Has.head.tail.tail.tail.tail.tail.tail.tail | exact Has.head.tail.tail.tail.tail.tail.tail.tail.tail | exact Has.head.tail.tail.tail.tail.tail.tail.tail.tail.tail | exact Has.head.tail.tail.tail.tail.tail.tail.tail.tail.tail.tail | exact Has.head.tail.tail.tail.tail.tail.tail.tail.tail.tail.tail.tail)) | ((with_reducible apply i_b2s (l := Y)); rfl; refine hS.get (c := rdS 1 _ Y.length (bv Y)) ?_; (first | exact Has.head | exact Has.head.tail | exact Has.head.tail.tail | exact Has.head.tail.tail.tail | exact Has.head.tail.tail.tail.tail | exact Has.head.tail.tail.tail.tail.tail | exact Has.head.tail.tail.tail.tail.tail.tail | exact Has.head.tail.tail.tail.tail.tail.tail.tail | exact Has.head.tail.tail.tail.tail.tail.tail.tail.tail | exact Has.head.tail.tail.tail.tail.tail.tail.tail.tail.tail | exact Has.head.tail.tail.tail.tail.tail.tail.tail.tail.tail.tail | exact Has.head.tail.tail.tail.tail.tail.tail.tail.tail.tail.tail.tail))); exact ⟨rfl, by first | exact Fr.refl _ _ | assumption⟩
  · rfl
  apply mix_qI 11 rfl (by kernel_rfl) rfl rfl room_wide (by intro c h; cases h)
  · intro w hS; gi_wp2_with (first | ((with_reducible apply i_want); rfl) | ((with_reducible apply i_eqEv (f := e) (g := f) (r := false)); rfl; rfl; exact Hd.out)); exact ⟨rfl, by first | exact Fr.refl _ _ | assumption⟩
  · rfl
  apply mix_qI 12 rfl (by kernel_rfl) rfl rfl room_wide (by intro c h; cases h)
  · intro w hS; gi_wp2_with (first | ((with_reducible apply i_want); rfl) | ((with_reducible apply i_load); assumption; rfl; (repeat (first | exact Has.head | apply Has.tail)); (first | rfl | (simp [takeV]; done)))); exact ⟨rfl, by first | exact Fr.refl _ _ | assumption⟩
  · rfl
  apply mix_qI 13 rfl (by kernel_rfl) rfl rfl room_wide (by intro c h; cases h)
  · intro w hS; gi_wp2_with (first | ((with_reducible apply i_want); rfl) | ((with_reducible apply i_load); assumption; rfl; (repeat (first | exact Has.head | apply Has.tail)); (first | rfl | (simp [takeV]; done)))); exact ⟨rfl, by first | exact Fr.refl _ _ | assumption⟩
  · rfl
  apply mix_qI 14 rfl (by kernel_rfl) rfl rfl room_wide (by intro c h; cases h)
  · intro w hS; gi_wp2_with (first | ((with_reducible apply i_want); rfl) | ((with_reducible apply i_eqEv (f := e) (g := f) (r := false)); rfl; rfl; exact Hd.out)); exact ⟨rfl, by first | exact Fr.refl _ _ | assumption⟩
  · rfl
  apply mix_qI 15 rfl (by kernel_rfl) rfl rfl room_wide (by intro c h; cases h)
  · intro w hS; gi_wp2_with (first | ((with_reducible apply i_want); rfl) | ((with_reducible apply i_eqEv (f := e) (g := f) (r := false)); rfl; rfl; exact Hd.out)); exact ⟨rfl, by first | exact Fr.refl _ _ | assumption⟩
  · rfl
  apply mix_fI 16 rfl (by kernel_rfl) rfl room_wide (by intro c h; cases h)
  · intro w; gi_wp2_with (first | ((with_reducible apply i_want); rfl)); exact ⟨rfl, Fr.refl _ _⟩
  · rfl
  refine mixE (by kernel_rfl) ?_
  intro w hf _; replace hS := hS.keep hf; clear hf
  clear hbe Hd
  gi_wp2_with (first | ((with_reducible apply i_want); rfl) | (gi_at_call 43; go_must (refine callsIn_wide.2 ((num_c _ _).mono ?_)); rintro en w1 ⟨rfl, rfl⟩) | (gi_at_call 86; go_must (refine callsIn_wide.2 ((linesE_c _ e).mono ?_)); rintro en w1 ⟨eb, rfl, hT⟩; replace hS := hS.join hT; simp only [List.cons_append, List.nil_append] at hS; clear hT) | ((with_reducible apply i_alloc (dst := some 10)); assumption; rfl; clear hS; intro b10 w hS) | ((with_reducible apply i_alloc (dst := some 11)); assumption; rfl; clear hS; intro b11 w hS) | ((with_reducible apply i_alloc (dst := some 12)); assumption; rfl; clear hS; intro b12 w hS) | ((with_reducible apply i_alloc (dst := some 13)); assumption; rfl; clear hS; intro b13 w hS) | ((with_reducible apply i_alloc (dst := some 14)); assumption; rfl; clear hS; intro b14 w hS) | ((with_reducible apply i_alloc); assumption; rfl; clear hS; intro b w hS) | ((with_reducible apply i_box); assumption; rfl; clear hS; intro b w hS) | ((with_reducible apply i_load); assumption; rfl; (repeat (first | exact Has.head | apply Has.tail)); (first | rfl | (simp [takeV]; done))) | ((with_reducible apply i_build); rfl; (simp [fillL, splice, Value.cells, Act.eval]; rfl)) | ((with_reducible apply i_buildA); rfl; (simp [fillL, splice, Value.cells, Act.eval]; rfl)) | ((with_reducible apply i_bslice); assumption; rfl; rfl; (first | (simp [fillL, splice, zeros, Value.cells, Act.eval]; rfl) | rfl); clear hS; intro b w hS) | ((with_reducible apply i_storeF); assumption; rfl; rfl; (repeat (first | exact Upd.head | apply Upd.tail)); rfl; clear hS; intro w hS) | ((with_reducible apply i_store); assumption; rfl; rfl; (repeat (first | exact Upd.head | apply Upd.tail)); rfl; clear hS; intro w hS; simp only [splice] at hS; try rw [splice_nil] at hS))
  have hS := hS.sub (L' := [row b14 3 [.int .i64 0], row b13 3 [.int .i64 0], row b12 9 [txt []], row b11 9 [txt []], row b10 9 [txt []], row eb 34 e.cs, row br 4 [.bool false], row bx 34 [txt e.id, txt e.ty, txt e.da]]) (by (repeat (first | exact List.Sublist.slnil | exact List.Sublist.refl _ | apply List.Sublist.cons_cons | apply List.Sublist.cons)))
  have hE := hS.get (c := row eb 34 e.cs) (by repeat (first | exact Has.head | apply Has.tail))
  have hG1 : Glob w := hG.base.keep hS.fr
  have hP1 := hS.pick (by exact .tail (.tail (.tail (.tail (.tail .head)))))
  have hS1 := hP1.perm (List.perm_append_comm (l₁ := [_]))
  simp only [List.cons_append, List.nil_append] at hS1
  have hElt := ((hS.ok (row eb 34 e.cs) (by simp)).2 eb (by simp [row, blk])).1
  have hW0 : 0 < w0.heap.size := by
    obtain ⟨v, hv⟩ := hG.base.maxLen
    exact World.block_lt_of_cell? w0 ⟨0, 0, none⟩ hv
  have hS2 := St.bundle (L1 := [_, _, _, _, _, _, _]) (L2 := [_]) hS1
  clear hS1 hP1
  have hGr : ∀ (pre : List (Nat × List UInt8)), pre <+: numL L → (heldP pre).da.length ≤ 65541 * 301 ∧ (heldP pre).parts ≤ 65541 ∧ (heldP pre).ends ≤ 65541 := by
    intro pre hpre
    have h1 := heldP_small 300 pre (fun x hx => by
      have hm : x ∈ numL L := hpre.subset hx
      unfold numL at hm
      obtain ⟨y, hy, rfl⟩ := List.mem_map.1 hm
      exact (HLk.out y.1 (List.mem_of_getElem? (by simpa using List.mem_zipIdx_iff_getElem?.1 hy))).2)
    have h2 := hpre.length_le
    rw [numL_len] at h2
    have h3 : pre.length * (300 + 1) ≤ 65541 * 301 := Nat.mul_le_mul (by omega) (Nat.le_refl _)
    exact ⟨by omega, by omega, by omega⟩
  have HGr := Lib.hid hGr
  clear hGr
  have h0c : ∀ s : Hs, 0 ∉ (bun [row b14 3 [.int .i64 (s.ends : Int)], row b13 3 [.int .i64 (s.parts : Int)], row b12 9 [txt s.da], row b11 9 [txt s.ty], row b10 9 [txt s.id], row br 4 [.bool false], row bx 34 [txt e.id, txt e.ty, txt e.da]]).fp := by
    intro s hb
    rcases ((hS2.ok _ (List.mem_cons_self)).2 0 hb).2 with h3 | h3
    · omega
    · cases h3
  refine i_rangeFuncF (P := Tryz.prog) hS2 rfl (enters_of Tryz.func168 (by kernel_rfl) rfl) (Hsq.out eb w hG1 hE) (T := []) (Fr.refl _ _) (by simp) ?_ ?_ (fun x => rfl)
    (fun pre C => C = bun [row b14 3 [.int .i64 ((heldP pre).ends : Int)], row b13 3 [.int .i64 ((heldP pre).parts : Int)], row b12 9 [txt (heldP pre).da], row b11 9 [txt (heldP pre).ty], row b10 9 [txt (heldP pre).id], row br 4 [.bool false], row bx 34 [txt e.id, txt e.ty, txt e.da]])
    (fun _ _ _ => False) rfl ?_ ?_ ?_
  · intro k hk hk2
    have hkS := (hS2.ok _ (List.mem_cons_self)).2 k hk
    rcases List.mem_cons.1 hk2 with rfl | h2
    · rcases hkS.2 with h3 | h3
      · omega
      · cases h3
    · have : k = eb := by simpa using h2
      subst this
      exact (List.pairwise_cons.1 hS2.sep).1 _ (List.mem_cons_self) k hk (by simp [row, blk])
  · intro k hk
    rcases List.mem_cons.1 hk with rfl | h2
    · exact Nat.lt_of_lt_of_le hW0 hS.fr.size
    · have : k = eb := by simpa using h2
      subst this
      exact hElt
  · rintro l pre ⟨i, x⟩ C W3 K hpre hfr0 rfl hok hlt hK
    gi_wp2
    refine hK _ _ _ (Turn.refl hok hlt) ?_
    intro W2 hfr2 hok2 hlt2
    have hS := St.open hok2
    obtain ⟨-, hx⟩ := numL_pre hpre
    have hxm := List.mem_of_getElem? hx
    have hxl := HLx.out x hxm
    have hxk := HLk.out x hxm
    have hb := HGr.out pre ((List.prefix_append _ _).trans hpre)
    have hst := heldP_snoc pre (i, x)
    have hfo := fun W (hW : Glob W) => fieldOf_c W hW x (by omega)
    have hG2 : Glob W2 := hG.base.keep (hS2.frame_head (hfr2 _ hfr0))
    have hGw := fun W' (h : Fr (bun [row b14 3 [.int .i64 ((heldP pre).ends : Int)], row b13 3 [.int .i64 ((heldP pre).parts : Int)], row b12 9 [txt (heldP pre).da], row b11 9 [txt (heldP pre).ty], row b10 9 [txt (heldP pre).id], row br 4 [.bool false], row bx 34 [txt e.id, txt e.ty, txt e.da]]).fp W2 W') => hG2.fr h (h0c (heldP pre))
    have HGw := Lib.hid hGw
    clear hok hlt hK hfr0 hfr2 hS2 hE hG1 hpre hok2 hlt2 hx hxm hxl hElt hG2 h0c hGw
    obtain ⟨hd1, hd2, hd3⟩ := hb
    generalize heldP pre = s at *
    generalize ofP x = fd at *
    obtain ⟨sid, sty, sda, sp, se⟩ := s
    obtain ⟨k, nm, vl⟩ := fd
    obtain ⟨hxk, hvl⟩ := hxk
    have Hst := Lib.hid hst
    have Hfo := Lib.hid hfo
    clear hst hfo
    dsimp only at hxk hvl hd1 hd2 hd3 hS HGw
    rcases hxk with rfl | rfl | rfl | rfl
    · gi_wp2_with (first | ((with_reducible apply i_want); rfl) | (gi_at_call 87; go_must (refine callsIn_wide.2 ((Hfo.out _ (HGw.out _ hS.fr)).mono ?_)); rintro en w1 ⟨rfl, hf1⟩; replace hS := hS.keep hf1) | ((with_reducible apply i_alloc); assumption; rfl; clear hS; intro b w hS) | ((with_reducible apply i_box); assumption; rfl; clear hS; intro b w hS) | ((with_reducible apply i_load); assumption; rfl; (repeat (first | exact Has.head | apply Has.tail)); (first | rfl | (simp [takeV]; done))) | ((with_reducible apply i_build); rfl; (simp [fillL, splice, Value.cells, Act.eval]; rfl)) | ((with_reducible apply i_buildA); rfl; (simp [fillL, splice, Value.cells, Act.eval]; rfl)) | ((with_reducible apply i_bslice); assumption; rfl; rfl; (first | (simp [fillL, splice, zeros, Value.cells, Act.eval]; rfl) | rfl); clear hS; intro b w hS) | ((with_reducible apply i_storeF); assumption; rfl; rfl; (repeat (first | exact Upd.head | apply Upd.tail)); rfl; clear hS; intro w hS) | ((with_reducible apply i_store); assumption; rfl; rfl; (repeat (first | exact Upd.head | apply Upd.tail)); rfl; clear hS; intro w hS; simp only [splice] at hS; try rw [splice_nil] at hS))
      have hS := hS.sub (L' := [row b14 3 [.int .i64 (se : Int)], row b13 3 [.int .i64 (sp : Int)], row b12 9 [txt sda], row b11 9 [txt sty], row b10 9 [txt vl], row br 4 [.bool false], row bx 34 [txt e.id, txt e.ty, txt e.da]]) (by (repeat (first | exact List.Sublist.slnil | exact List.Sublist.refl _ | apply List.Sublist.cons_cons | apply List.Sublist.cons)))
      refine ⟨_, ?_, hS.toTurn⟩
      show _ = bun _
      rw [Hst.out]
      rfl
    · gi_wp2_with (first | ((with_reducible apply i_want); rfl) | (gi_at_call 87; go_must (refine callsIn_wide.2 ((Hfo.out _ (HGw.out _ hS.fr)).mono ?_)); rintro en w1 ⟨rfl, hf1⟩; replace hS := hS.keep hf1) | ((with_reducible apply i_alloc); assumption; rfl; clear hS; intro b w hS) | ((with_reducible apply i_box); assumption; rfl; clear hS; intro b w hS) | ((with_reducible apply i_load); assumption; rfl; (repeat (first | exact Has.head | apply Has.tail)); (first | rfl | (simp [takeV]; done))) | ((with_reducible apply i_build); rfl; (simp [fillL, splice, Value.cells, Act.eval]; rfl)) | ((with_reducible apply i_buildA); rfl; (simp [fillL, splice, Value.cells, Act.eval]; rfl)) | ((with_reducible apply i_bslice); assumption; rfl; rfl; (first | (simp [fillL, splice, zeros, Value.cells, Act.eval]; rfl) | rfl); clear hS; intro b w hS) | ((with_reducible apply i_storeF); assumption; rfl; rfl; (repeat (first | exact Upd.head | apply Upd.tail)); rfl; clear hS; intro w hS) | ((with_reducible apply i_store); assumption; rfl; rfl; (repeat (first | exact Upd.head | apply Upd.tail)); rfl; clear hS; intro w hS; simp only [splice] at hS; try rw [splice_nil] at hS))
      have hS := hS.sub (L' := [row b14 3 [.int .i64 (se : Int)], row b13 3 [.int .i64 (sp : Int)], row b12 9 [txt sda], row b11 9 [txt vl], row b10 9 [txt sid], row br 4 [.bool false], row bx 34 [txt e.id, txt e.ty, txt e.da]]) (by (repeat (first | exact List.Sublist.slnil | exact List.Sublist.refl _ | apply List.Sublist.cons_cons | apply List.Sublist.cons)))
      refine ⟨_, ?_, hS.toTurn⟩
      show _ = bun _
      rw [Hst.out]
      rfl
    · cases sp with
      | zero =>
        gi_wp2_with (first | ((with_reducible apply i_want); rfl) | (gi_at_call 87; go_must (refine callsIn_wide.2 ((Hfo.out _ (HGw.out _ hS.fr)).mono ?_)); rintro en w1 ⟨rfl, hf1⟩; replace hS := hS.keep hf1) | ((with_reducible apply i_cat); rfl; rfl; (simp only [List.length_append, List.length_cons, List.length_nil]; omega)) | ((with_reducible apply i_alloc); assumption; rfl; clear hS; intro b w hS) | ((with_reducible apply i_box); assumption; rfl; clear hS; intro b w hS) | ((with_reducible apply i_load); assumption; rfl; (repeat (first | exact Has.head | apply Has.tail)); (first | rfl | (simp [takeV]; done))) | ((with_reducible apply i_build); rfl; (simp [fillL, splice, Value.cells, Act.eval]; rfl)) | ((with_reducible apply i_buildA); rfl; (simp [fillL, splice, Value.cells, Act.eval]; rfl)) | ((with_reducible apply i_bslice); assumption; rfl; rfl; (first | (simp [fillL, splice, zeros, Value.cells, Act.eval]; rfl) | rfl); clear hS; intro b w hS) | ((with_reducible apply i_storeF); assumption; rfl; rfl; (repeat (first | exact Upd.head | apply Upd.tail)); rfl; clear hS; intro w hS) | ((with_reducible apply i_store); assumption; rfl; rfl; (repeat (first | exact Upd.head | apply Upd.tail)); rfl; clear hS; intro w hS; simp only [splice] at hS; try rw [splice_nil] at hS))
        have hS := hS.sub (L' := [row b14 3 [.int .i64 (se : Int)], row b13 3 [.int .i64 (0 + 1 : Int)], row b12 9 [txt (sda ++ vl)], row b11 9 [txt sty], row b10 9 [txt sid], row br 4 [.bool false], row bx 34 [txt e.id, txt e.ty, txt e.da]]) (by (repeat (first | exact List.Sublist.slnil | exact List.Sublist.refl _ | apply List.Sublist.cons_cons | apply List.Sublist.cons)))
        refine ⟨_, ?_, hS.toTurn⟩
        show _ = bun _
        rw [Hst.out]
        rfl
      | succ sp =>
        have hsp : (0 : Int) < (sp : Int) + 1 := by omega
        gi_wp2_with (first | ((with_reducible apply i_want); rfl) | (gi_at_call 87; go_must (refine callsIn_wide.2 ((Hfo.out _ (HGw.out _ hS.fr)).mono ?_)); rintro en w1 ⟨rfl, hf1⟩; replace hS := hS.keep hf1) | ((with_reducible apply i_cat); rfl; rfl; (simp only [List.length_append, List.length_cons, List.length_nil]; omega)) | ((with_reducible apply i_alloc); assumption; rfl; clear hS; intro b w hS) | ((with_reducible apply i_box); assumption; rfl; clear hS; intro b w hS) | ((with_reducible apply i_load); assumption; rfl; (repeat (first | exact Has.head | apply Has.tail)); (first | rfl | (simp [takeV]; done))) | ((with_reducible apply i_build); rfl; (simp [fillL, splice, Value.cells, Act.eval]; rfl)) | ((with_reducible apply i_buildA); rfl; (simp [fillL, splice, Value.cells, Act.eval]; rfl)) | ((with_reducible apply i_bslice); assumption; rfl; rfl; (first | (simp [fillL, splice, zeros, Value.cells, Act.eval]; rfl) | rfl); clear hS; intro b w hS) | ((with_reducible apply i_storeF); assumption; rfl; rfl; (repeat (first | exact Upd.head | apply Upd.tail)); rfl; clear hS; intro w hS) | ((with_reducible apply i_store); assumption; rfl; rfl; (repeat (first | exact Upd.head | apply Upd.tail)); rfl; clear hS; intro w hS; simp only [splice] at hS; try rw [splice_nil] at hS))
        have hS := hS.sub (L' := [row b14 3 [.int .i64 (se : Int)], row b13 3 [.int .i64 (sp + 1 + 1 : Int)], row b12 9 [txt (sda ++ [10] ++ vl)], row b11 9 [txt sty], row b10 9 [txt sid], row br 4 [.bool false], row bx 34 [txt e.id, txt e.ty, txt e.da]]) (by (repeat (first | exact List.Sublist.slnil | exact List.Sublist.refl _ | apply List.Sublist.cons_cons | apply List.Sublist.cons)))
        refine ⟨_, ?_, hS.toTurn⟩
        show _ = bun _
        rw [Hst.out]
        rfl
    · gi_wp2_with (first | ((with_reducible apply i_want); rfl) | (gi_at_call 87; go_must (refine callsIn_wide.2 ((Hfo.out _ (HGw.out _ hS.fr)).mono ?_)); rintro en w1 ⟨rfl, hf1⟩; replace hS := hS.keep hf1) | ((with_reducible apply i_alloc); assumption; rfl; clear hS; intro b w hS) | ((with_reducible apply i_box); assumption; rfl; clear hS; intro b w hS) | ((with_reducible apply i_load); assumption; rfl; (repeat (first | exact Has.head | apply Has.tail)); (first | rfl | (simp [takeV]; done))) | ((with_reducible apply i_build); rfl; (simp [fillL, splice, Value.cells, Act.eval]; rfl)) | ((with_reducible apply i_buildA); rfl; (simp [fillL, splice, Value.cells, Act.eval]; rfl)) | ((with_reducible apply i_bslice); assumption; rfl; rfl; (first | (simp [fillL, splice, zeros, Value.cells, Act.eval]; rfl) | rfl); clear hS; intro b w hS) | ((with_reducible apply i_storeF); assumption; rfl; rfl; (repeat (first | exact Upd.head | apply Upd.tail)); rfl; clear hS; intro w hS) | ((with_reducible apply i_store); assumption; rfl; rfl; (repeat (first | exact Upd.head | apply Upd.tail)); rfl; clear hS; intro w hS; simp only [splice] at hS; try rw [splice_nil] at hS))
      have hS := hS.sub (L' := [row b14 3 [.int .i64 (se + 1 : Int)], row b13 3 [.int .i64 (sp : Int)], row b12 9 [txt sda], row b11 9 [txt sty], row b10 9 [txt sid], row br 4 [.bool false], row bx 34 [txt e.id, txt e.ty, txt e.da]]) (by (repeat (first | exact List.Sublist.slnil | exact List.Sublist.refl _ | apply List.Sublist.cons_cons | apply List.Sublist.cons)))
      refine ⟨_, ?_, hS.toTurn⟩
      show _ = bun _
      rw [Hst.out]
      rfl
  · rintro D1 W1 C rfl hS
    have hS := (hS.pick (by exact .tail .head)).unbundle
    simp only [List.cons_append, List.nil_append] at hS
    rw [Hall.out] at hS
    have hpi := Hpi.out
    clear hS2 hE hG1 hElt
    gi_wp2_with (first | ((with_reducible apply i_want); rfl) | (gi_at_call 37; go_must (refine callsIn_wide.2 ((works_c _ (hG.keep hS.fr)).mono ?_)); rintro en w1 ⟨rfl, hf1⟩; replace hS := hS.keep hf1) | ((with_reducible apply i_alloc); assumption; rfl; clear hS; intro b w hS) | ((with_reducible apply i_box); assumption; rfl; clear hS; intro b w hS) | ((with_reducible apply i_load); assumption; rfl; (repeat (first | exact Has.head | apply Has.tail)); (first | rfl | (simp [takeV]; done))) | ((with_reducible apply i_build); rfl; (simp [fillL, splice, Value.cells, Act.eval]; rfl)) | ((with_reducible apply i_buildA); rfl; (simp [fillL, splice, Value.cells, Act.eval]; rfl)) | ((with_reducible apply i_bslice); assumption; rfl; rfl; (first | (simp [fillL, splice, zeros, Value.cells, Act.eval]; rfl) | rfl); clear hS; intro b w hS) | ((with_reducible apply i_storeF); assumption; rfl; rfl; (repeat (first | exact Upd.head | apply Upd.tail)); rfl; clear hS; intro w hS) | ((with_reducible apply i_store); assumption; rfl; rfl; (repeat (first | exact Upd.head | apply Upd.tail)); rfl; clear hS; intro w hS; simp only [splice] at hS; try rw [splice_nil] at hS))
    have hP3 := hS.pick (by exact .tail (.tail (.tail (.tail (.tail (.tail (.tail .head)))))))
    obtain ⟨W7, ht7, hS7⟩ := hP3.take (P := Tryz.prog)
    refine ⟨by simp, .inl ⟨_, _, rfl, ht7, ?_⟩⟩
    exact ⟨_, results_c1 (k := 1) (agg := false) rfl hS7 rfl (by repeat (first | exact Has.head | apply Has.tail)) rfl, rfl, hS7.fr⟩
  · intro D code pre c' W1 _ h _
    exact h.elim
theorem eholds_df (w0 : World) (hG : GlobT w0) (e f : Ev) (hf : fewP e = true) (hg : fewP f = true) (hq : rightQ e = true) (hr : rightQ f = false) : Calls Tryz.prog 14 #[e.v, f.v] w0 fun en w' => en = .returned (.bool true) ∧ Fr [] w0 w' := by
  have hfl := fewP_len hf
  have hgl := fewP_len hg
  have hfw := fun W => few_c W e
  rw [hf] at hfw
  have hgw := fun W => few_c W f
  rw [hg] at hgw
  have hen := fun W (hW : GlobT W) => encode_t W hW.base e (by rw [checkP_eq, hq])
  have heo := fun W (hW : GlobT W) => encode_n W hW.base f (by omega) (by omega) (by omega) (by rw [checkP_eq, hr])
  obtain ⟨X, hX⟩ : ∃ X, X = encP e := ⟨_, rfl⟩
  rw [← hX] at hen
  have hsq := fun eb W (hW : Glob W) (hb : (row eb 34 e.cs).ok W) => linesE_s eb e W hW hb (by omega) (by omega) (by omega)
  rw [seqP_want] at hsq
  have hwp : wantP e = linesP e ++ [[]] := by unfold wantP; rw [hq]; rfl
  rw [hwp] at hsq
  have hsm : e.id.length + e.ty.length + e.da.length ≤ 65536 := by omega
  have hLl := (linesP_len e hsm)
  have hkd := read_kinds e 300 hfl.1 hfl.2.1 hfl.2.2
  have hro := read_of e
  have hall := heldP_all e
  have hpp : 0 < (splitP 10 e.da).length := by
    have := splitP_ne 10 e.da
    cases h : splitP 10 e.da with
    | nil => exact absurd h this
    | cons x l => simp
  obtain ⟨L, hL⟩ : ∃ L, L = linesP e ++ [[]] := ⟨_, rfl⟩
  rw [← hL] at hsq hro hall
  have hLn : L.length ≤ 65541 := by rw [hL]; simp; omega
  have hLx : ∀ x ∈ L, x.length ≤ 65550 := by
    intro x hx
    rw [hL] at hx
    rcases List.mem_append.1 hx with h | h
    · exact hLl.2 x h
    · have : x = [] := by simpa using h
      rw [this]; simp
  have hLk : ∀ x ∈ L, ((ofP x).kind = 5 ∨ (ofP x).kind = 4 ∨ (ofP x).kind = 3 ∨ (ofP x).kind = 1) ∧ (ofP x).val.length ≤ 300 := fun x hx => hkd _ (by rw [← hro]; exact List.mem_map_of_mem hx)
  obtain ⟨np, hnp⟩ : ∃ np, np = (splitP 10 e.da).length := ⟨_, rfl⟩
  rw [← hnp] at hall hpp
  have hpi : (0 : Int) < (np : Int) := by omega
  have HLx := Lib.hid hLx
  have HLk := Lib.hid hLk
  have Hall := Lib.hid hall
  have Hsq := Lib.hid hsq
  have Hfw := Lib.hid hfw
  have Hgw := Lib.hid hgw
  have Hen := Lib.hid hen
  have Heo := Lib.hid heo
  have Hpi := Lib.hid hpp
  clear hfw hf hgw hg hen heo hq hr hfl hgl hX hsq hwp hLl hkd hro hall hL hLx hLk hsm hnp hpp hpi
  refine (callsIn_wide (n := 1)).1 ?_
  change CallsIn Fence.wide 1 Tryz.prog 14 #[.agg ⟨[txt e.id, txt e.ty, txt e.da]⟩, .agg ⟨[txt f.id, txt f.ty, txt f.da]⟩] w0 _
  refine callsIn_of_wp_marks Tryz.func14 rfl trivial ?_
  simp only [Tryz.ntmps14, List.size_toArray, List.length_cons, List.length_nil, Nat.reduceAdd, Nat.reduceSub, Array.replicate_succ, Array.replicate_zero, List.push_toArray, List.append_toArray, List.nil_append, List.cons_append]
  have hS := St.start [] w0
  gi_wp2_with (first | ((with_reducible apply i_want); rfl) | ((with_reducible apply i_box (dst := some 2)); assumption; rfl; clear hS; intro bx w hS) | ((with_reducible apply i_box (dst := some 3)); assumption; rfl; clear hS; intro by_ w hS) | ((with_reducible apply i_alloc (dst := some 4)); assumption; rfl; clear hS; intro br w hS) | (gi_at_call 36; refine callsIn_wide.2 ((Hfw.out _).mono ?_); rintro en w1 ⟨rfl, hf1⟩; replace hS := hS.keep hf1) | (gi_at_call 36; refine callsIn_wide.2 ((Hgw.out _).mono ?_); rintro en w1 ⟨rfl, hf1⟩; replace hS := hS.keep hf1) | (gi_at_call 47; refine callsIn_wide.2 ((Hen.out _ (hG.keep hS.fr)).mono ?_); rintro en w1 ⟨v, rfl, hT⟩; replace hS := hS.join hT; simp only [List.cons_append, List.nil_append] at hS; obtain ⟨A, cp, rfl, hcp⟩ := (hT.get (c := rdS 1 v X.length (bv X)) (by exact Has.head)).shape; clear hT) | (gi_at_call 47; refine callsIn_wide.2 ((Heo.out _ (hG.keep hS.fr)).mono ?_); rintro en w1 ⟨rfl, hf1⟩; replace hS := hS.keep hf1) | ((with_reducible apply i_alloc); assumption; rfl; clear hS; intro b w hS) | ((with_reducible apply i_box); assumption; rfl; clear hS; intro b w hS) | ((with_reducible apply i_load); assumption; rfl; (repeat (first | exact Has.head | apply Has.tail)); (first | rfl | (simp [takeV]; done))) | ((with_reducible apply i_build); rfl; (simp [fillL, splice, Value.cells, Act.eval]; rfl)) | ((with_reducible apply i_buildA); rfl; (simp [fillL, splice, Value.cells, Act.eval]; rfl)) | ((with_reducible apply i_bslice); assumption; rfl; rfl; (first | (simp [fillL, splice, zeros, Value.cells, Act.eval]; rfl) | rfl); clear hS; intro b w hS) | ((with_reducible apply i_storeF); assumption; rfl; rfl; (repeat (first | exact Upd.head | apply Upd.tail)); rfl; clear hS; intro w hS) | ((with_reducible apply i_store); assumption; rfl; rfl; (repeat (first | exact Upd.head | apply Upd.tail)); rfl; clear hS; intro w hS; simp only [splice] at hS; try rw [splice_nil] at hS))
  refine mix_startI mixed (fun _ => trivial) (by kernel_rfl) _ (Stable.st _ _ _) hS.drew ?_
  replace hS := hS.drew
  apply mix_fI 0 rfl (by kernel_rfl) rfl room_wide (by intro c h; cases h)
  · intro w; gi_wp2_with (first | ((with_reducible apply i_want); rfl)); exact ⟨rfl, Fr.refl _ _⟩
  · rfl
  apply mix_qI 1 rfl (by kernel_rfl) rfl rfl room_wide (by intro c h; cases h)
  · intro w hS; gi_wp2_with (first | ((with_reducible apply i_want); rfl) | (gi_at_call 43; go_must (refine callsIn_wide.2 ((num_c _ _).mono ?_)); rintro en w1 ⟨rfl, rfl⟩)); exact ⟨rfl, by first | exact Fr.refl _ _ | assumption⟩
  · rfl
  apply mix_fI 2 rfl (by kernel_rfl) rfl room_wide (by intro c h; cases h)
  · intro w; gi_wp2_with (first | ((with_reducible apply i_want); rfl)); exact ⟨rfl, Fr.refl _ _⟩
  · rfl
  apply mix_qI 3 rfl (by kernel_rfl) rfl rfl room_wide (by intro c h; cases h)
  · intro w hS; gi_wp2_with (first | ((with_reducible apply i_want); rfl) | (gi_at_call 43; go_must (refine callsIn_wide.2 ((num_c _ _).mono ?_)); rintro en w1 ⟨rfl, rfl⟩)); exact ⟨rfl, by first | exact Fr.refl _ _ | assumption⟩
  · rfl
  apply mix_qI 4 rfl (by kernel_rfl) rfl rfl room_wide (by intro c h; cases h)
  · intro w hS; gi_wp2_with (first | ((with_reducible apply i_want); rfl)); exact ⟨rfl, by first | exact Fr.refl _ _ | assumption⟩
  · rfl
  apply mix_qI 5 rfl (by kernel_rfl) rfl rfl room_wide (by intro c h; cases h)
  · intro w hS; gi_wp2_with (first | ((with_reducible apply i_want); rfl)); exact ⟨rfl, by first | exact Fr.refl _ _ | assumption⟩
  · rfl
  apply mix_fI 6 rfl (by kernel_rfl) rfl room_wide (by intro c h; cases h)
  · intro w; gi_wp2_with (first | ((with_reducible apply i_want); rfl)); exact ⟨rfl, Fr.refl _ _⟩
  · rfl
  apply mix_fI 7 rfl (by kernel_rfl) rfl room_wide (by intro c h; cases h)
  · intro w; gi_wp2_with (first | ((with_reducible apply i_want); rfl)); exact ⟨rfl, Fr.refl _ _⟩
  · rfl
  apply mix_qI 8 rfl (by kernel_rfl) rfl rfl room_wide (by intro c h; cases h)
  · intro w hS; gi_wp2_with (first | ((with_reducible apply i_want); rfl)); exact ⟨rfl, by first | exact Fr.refl _ _ | assumption⟩
  · rfl
  apply mix_fI 9 rfl (by kernel_rfl) rfl room_wide (by intro c h; cases h)
  · intro w; gi_wp2_with (first | ((with_reducible apply i_want); rfl)); exact ⟨rfl, Fr.refl _ _⟩
  · rfl
  apply mix_qI 10 rfl (by kernel_rfl) rfl rfl room_wide (by intro c h; cases h)
  · intro w hS; gi_wp2_with (first | ((with_reducible apply i_want); rfl)); exact ⟨rfl, by first | exact Fr.refl _ _ | assumption⟩
  · rfl
  apply mix_qI 11 rfl (by kernel_rfl) rfl rfl room_wide (by intro c h; cases h)
  · intro w hS; gi_wp2_with (first | ((with_reducible apply i_want); rfl)); exact ⟨rfl, by first | exact Fr.refl _ _ | assumption⟩
  · rfl
  apply mix_qI 12 rfl (by kernel_rfl) rfl rfl room_wide (by intro c h; cases h)
  · intro w hS; gi_wp2_with (first | ((with_reducible apply i_want); rfl) | ((with_reducible apply i_load); assumption; rfl; (repeat (first | exact Has.head | apply Has.tail)); (first | rfl | (simp [takeV]; done)))); exact ⟨rfl, by first | exact Fr.refl _ _ | assumption⟩
  · rfl
  apply mix_qI 13 rfl (by kernel_rfl) rfl rfl room_wide (by intro c h; cases h)
  · intro w hS; gi_wp2_with (first | ((with_reducible apply i_want); rfl) | ((with_reducible apply i_load); assumption; rfl; (repeat (first | exact Has.head | apply Has.tail)); (first | rfl | (simp [takeV]; done)))); exact ⟨rfl, by first | exact Fr.refl _ _ | assumption⟩
  · rfl
  apply mix_qI 14 rfl (by kernel_rfl) rfl rfl room_wide (by intro c h; cases h)
  · intro w hS; gi_wp2_with (first | ((with_reducible apply i_want); rfl)); exact ⟨rfl, by first | exact Fr.refl _ _ | assumption⟩
  · rfl
  apply mix_qI 15 rfl (by kernel_rfl) rfl rfl room_wide (by intro c h; cases h)
  · intro w hS; gi_wp2_with (first | ((with_reducible apply i_want); rfl)); exact ⟨rfl, by first | exact Fr.refl _ _ | assumption⟩
  · rfl
  apply mix_fI 16 rfl (by kernel_rfl) rfl room_wide (by intro c h; cases h)
  · intro w; gi_wp2_with (first | ((with_reducible apply i_want); rfl)); exact ⟨rfl, Fr.refl _ _⟩
  · rfl
  refine mixE (by kernel_rfl) ?_
  intro w hf _; replace hS := hS.keep hf; clear hf
  gi_wp2_with (first | ((with_reducible apply i_want); rfl) | (gi_at_call 43; go_must (refine callsIn_wide.2 ((num_c _ _).mono ?_)); rintro en w1 ⟨rfl, rfl⟩) | (gi_at_call 86; go_must (refine callsIn_wide.2 ((linesE_c _ e).mono ?_)); rintro en w1 ⟨eb, rfl, hT⟩; replace hS := hS.join hT; simp only [List.cons_append, List.nil_append] at hS; clear hT) | ((with_reducible apply i_alloc (dst := some 10)); assumption; rfl; clear hS; intro b10 w hS) | ((with_reducible apply i_alloc (dst := some 11)); assumption; rfl; clear hS; intro b11 w hS) | ((with_reducible apply i_alloc (dst := some 12)); assumption; rfl; clear hS; intro b12 w hS) | ((with_reducible apply i_alloc (dst := some 13)); assumption; rfl; clear hS; intro b13 w hS) | ((with_reducible apply i_alloc (dst := some 14)); assumption; rfl; clear hS; intro b14 w hS) | ((with_reducible apply i_alloc); assumption; rfl; clear hS; intro b w hS) | ((with_reducible apply i_box); assumption; rfl; clear hS; intro b w hS) | ((with_reducible apply i_load); assumption; rfl; (repeat (first | exact Has.head | apply Has.tail)); (first | rfl | (simp [takeV]; done))) | ((with_reducible apply i_build); rfl; (simp [fillL, splice, Value.cells, Act.eval]; rfl)) | ((with_reducible apply i_buildA); rfl; (simp [fillL, splice, Value.cells, Act.eval]; rfl)) | ((with_reducible apply i_bslice); assumption; rfl; rfl; (first | (simp [fillL, splice, zeros, Value.cells, Act.eval]; rfl) | rfl); clear hS; intro b w hS) | ((with_reducible apply i_storeF); assumption; rfl; rfl; (repeat (first | exact Upd.head | apply Upd.tail)); rfl; clear hS; intro w hS) | ((with_reducible apply i_store); assumption; rfl; rfl; (repeat (first | exact Upd.head | apply Upd.tail)); rfl; clear hS; intro w hS; simp only [splice] at hS; try rw [splice_nil] at hS))
  have hS := hS.sub (L' := [row b14 3 [.int .i64 0], row b13 3 [.int .i64 0], row b12 9 [txt []], row b11 9 [txt []], row b10 9 [txt []], row eb 34 e.cs, row br 4 [.bool false], row bx 34 [txt e.id, txt e.ty, txt e.da]]) (by (repeat (first | exact List.Sublist.slnil | exact List.Sublist.refl _ | apply List.Sublist.cons_cons | apply List.Sublist.cons)))
  have hE := hS.get (c := row eb 34 e.cs) (by repeat (first | exact Has.head | apply Has.tail))
  have hG1 : Glob w := hG.base.keep hS.fr
  have hP1 := hS.pick (by exact .tail (.tail (.tail (.tail (.tail .head)))))
  have hS1 := hP1.perm (List.perm_append_comm (l₁ := [_]))
  simp only [List.cons_append, List.nil_append] at hS1
  have hElt := ((hS.ok (row eb 34 e.cs) (by simp)).2 eb (by simp [row, blk])).1
  have hW0 : 0 < w0.heap.size := by
    obtain ⟨v, hv⟩ := hG.base.maxLen
    exact World.block_lt_of_cell? w0 ⟨0, 0, none⟩ hv
  have hS2 := St.bundle (L1 := [_, _, _, _, _, _, _]) (L2 := [_]) hS1
  clear hS1 hP1
  have hGr : ∀ (pre : List (Nat × List UInt8)), pre <+: numL L → (heldP pre).da.length ≤ 65541 * 301 ∧ (heldP pre).parts ≤ 65541 ∧ (heldP pre).ends ≤ 65541 := by
    intro pre hpre
    have h1 := heldP_small 300 pre (fun x hx => by
      have hm : x ∈ numL L := hpre.subset hx
      unfold numL at hm
      obtain ⟨y, hy, rfl⟩ := List.mem_map.1 hm
      exact (HLk.out y.1 (List.mem_of_getElem? (by simpa using List.mem_zipIdx_iff_getElem?.1 hy))).2)
    have h2 := hpre.length_le
    rw [numL_len] at h2
    have h3 : pre.length * (300 + 1) ≤ 65541 * 301 := Nat.mul_le_mul (by omega) (Nat.le_refl _)
    exact ⟨by omega, by omega, by omega⟩
  have HGr := Lib.hid hGr
  clear hGr
  have h0c : ∀ s : Hs, 0 ∉ (bun [row b14 3 [.int .i64 (s.ends : Int)], row b13 3 [.int .i64 (s.parts : Int)], row b12 9 [txt s.da], row b11 9 [txt s.ty], row b10 9 [txt s.id], row br 4 [.bool false], row bx 34 [txt e.id, txt e.ty, txt e.da]]).fp := by
    intro s hb
    rcases ((hS2.ok _ (List.mem_cons_self)).2 0 hb).2 with h3 | h3
    · omega
    · cases h3
  refine i_rangeFuncF (P := Tryz.prog) hS2 rfl (enters_of Tryz.func168 (by kernel_rfl) rfl) (Hsq.out eb w hG1 hE) (T := []) (Fr.refl _ _) (by simp) ?_ ?_ (fun x => rfl)
    (fun pre C => C = bun [row b14 3 [.int .i64 ((heldP pre).ends : Int)], row b13 3 [.int .i64 ((heldP pre).parts : Int)], row b12 9 [txt (heldP pre).da], row b11 9 [txt (heldP pre).ty], row b10 9 [txt (heldP pre).id], row br 4 [.bool false], row bx 34 [txt e.id, txt e.ty, txt e.da]])
    (fun _ _ _ => False) rfl ?_ ?_ ?_
  · intro k hk hk2
    have hkS := (hS2.ok _ (List.mem_cons_self)).2 k hk
    rcases List.mem_cons.1 hk2 with rfl | h2
    · rcases hkS.2 with h3 | h3
      · omega
      · cases h3
    · have : k = eb := by simpa using h2
      subst this
      exact (List.pairwise_cons.1 hS2.sep).1 _ (List.mem_cons_self) k hk (by simp [row, blk])
  · intro k hk
    rcases List.mem_cons.1 hk with rfl | h2
    · exact Nat.lt_of_lt_of_le hW0 hS.fr.size
    · have : k = eb := by simpa using h2
      subst this
      exact hElt
  · rintro l pre ⟨i, x⟩ C W3 K hpre hfr0 rfl hok hlt hK
    gi_wp2
    refine hK _ _ _ (Turn.refl hok hlt) ?_
    intro W2 hfr2 hok2 hlt2
    have hS := St.open hok2
    obtain ⟨-, hx⟩ := numL_pre hpre
    have hxm := List.mem_of_getElem? hx
    have hxl := HLx.out x hxm
    have hxk := HLk.out x hxm
    have hb := HGr.out pre ((List.prefix_append _ _).trans hpre)
    have hst := heldP_snoc pre (i, x)
    have hfo := fun W (hW : Glob W) => fieldOf_c W hW x (by omega)
    have hG2 : Glob W2 := hG.base.keep (hS2.frame_head (hfr2 _ hfr0))
    have hGw := fun W' (h : Fr (bun [row b14 3 [.int .i64 ((heldP pre).ends : Int)], row b13 3 [.int .i64 ((heldP pre).parts : Int)], row b12 9 [txt (heldP pre).da], row b11 9 [txt (heldP pre).ty], row b10 9 [txt (heldP pre).id], row br 4 [.bool false], row bx 34 [txt e.id, txt e.ty, txt e.da]]).fp W2 W') => hG2.fr h (h0c (heldP pre))
    have HGw := Lib.hid hGw
    clear hok hlt hK hfr0 hfr2 hS2 hE hG1 hpre hok2 hlt2 hx hxm hxl hElt hG2 h0c hGw
    obtain ⟨hd1, hd2, hd3⟩ := hb
    generalize heldP pre = s at *
    generalize ofP x = fd at *
    obtain ⟨sid, sty, sda, sp, se⟩ := s
    obtain ⟨k, nm, vl⟩ := fd
    obtain ⟨hxk, hvl⟩ := hxk
    have Hst := Lib.hid hst
    have Hfo := Lib.hid hfo
    clear hst hfo
    dsimp only at hxk hvl hd1 hd2 hd3 hS HGw
    rcases hxk with rfl | rfl | rfl | rfl
    · gi_wp2_with (first | ((with_reducible apply i_want); rfl) | (gi_at_call 87; go_must (refine callsIn_wide.2 ((Hfo.out _ (HGw.out _ hS.fr)).mono ?_)); rintro en w1 ⟨rfl, hf1⟩; replace hS := hS.keep hf1) | ((with_reducible apply i_alloc); assumption; rfl; clear hS; intro b w hS) | ((with_reducible apply i_box); assumption; rfl; clear hS; intro b w hS) | ((with_reducible apply i_load); assumption; rfl; (repeat (first | exact Has.head | apply Has.tail)); (first | rfl | (simp [takeV]; done))) | ((with_reducible apply i_build); rfl; (simp [fillL, splice, Value.cells, Act.eval]; rfl)) | ((with_reducible apply i_buildA); rfl; (simp [fillL, splice, Value.cells, Act.eval]; rfl)) | ((with_reducible apply i_bslice); assumption; rfl; rfl; (first | (simp [fillL, splice, zeros, Value.cells, Act.eval]; rfl) | rfl); clear hS; intro b w hS) | ((with_reducible apply i_storeF); assumption; rfl; rfl; (repeat (first | exact Upd.head | apply Upd.tail)); rfl; clear hS; intro w hS) | ((with_reducible apply i_store); assumption; rfl; rfl; (repeat (first | exact Upd.head | apply Upd.tail)); rfl; clear hS; intro w hS; simp only [splice] at hS; try rw [splice_nil] at hS))
      have hS := hS.sub (L' := [row b14 3 [.int .i64 (se : Int)], row b13 3 [.int .i64 (sp : Int)], row b12 9 [txt sda], row b11 9 [txt sty], row b10 9 [txt vl], row br 4 [.bool false], row bx 34 [txt e.id, txt e.ty, txt e.da]]) (by (repeat (first | exact List.Sublist.slnil | exact List.Sublist.refl _ | apply List.Sublist.cons_cons | apply List.Sublist.cons)))
      refine ⟨_, ?_, hS.toTurn⟩
      show _ = bun _
      rw [Hst.out]
      rfl
    · gi_wp2_with (first | ((with_reducible apply i_want); rfl) | (gi_at_call 87; go_must (refine callsIn_wide.2 ((Hfo.out _ (HGw.out _ hS.fr)).mono ?_)); rintro en w1 ⟨rfl, hf1⟩; replace hS := hS.keep hf1) | ((with_reducible apply i_alloc); assumption; rfl; clear hS; intro b w hS) | ((with_reducible apply i_box); assumption; rfl; clear hS; intro b w hS) | ((with_reducible apply i_load); assumption; rfl; (repeat (first | exact Has.head | apply Has.tail)); (first | rfl | (simp [takeV]; done))) | ((with_reducible apply i_build); rfl; (simp [fillL, splice, Value.cells, Act.eval]; rfl)) | ((with_reducible apply i_buildA); rfl; (simp [fillL, splice, Value.cells, Act.eval]; rfl)) | ((with_reducible apply i_bslice); assumption; rfl; rfl; (first | (simp [fillL, splice, zeros, Value.cells, Act.eval]; rfl) | rfl); clear hS; intro b w hS) | ((with_reducible apply i_storeF); assumption; rfl; rfl; (repeat (first | exact Upd.head | apply Upd.tail)); rfl; clear hS; intro w hS) | ((with_reducible apply i_store); assumption; rfl; rfl; (repeat (first | exact Upd.head | apply Upd.tail)); rfl; clear hS; intro w hS; simp only [splice] at hS; try rw [splice_nil] at hS))
      have hS := hS.sub (L' := [row b14 3 [.int .i64 (se : Int)], row b13 3 [.int .i64 (sp : Int)], row b12 9 [txt sda], row b11 9 [txt vl], row b10 9 [txt sid], row br 4 [.bool false], row bx 34 [txt e.id, txt e.ty, txt e.da]]) (by (repeat (first | exact List.Sublist.slnil | exact List.Sublist.refl _ | apply List.Sublist.cons_cons | apply List.Sublist.cons)))
      refine ⟨_, ?_, hS.toTurn⟩
      show _ = bun _
      rw [Hst.out]
      rfl
    · cases sp with
      | zero =>
        gi_wp2_with (first | ((with_reducible apply i_want); rfl) | (gi_at_call 87; go_must (refine callsIn_wide.2 ((Hfo.out _ (HGw.out _ hS.fr)).mono ?_)); rintro en w1 ⟨rfl, hf1⟩; replace hS := hS.keep hf1) | ((with_reducible apply i_cat); rfl; rfl; (simp only [List.length_append, List.length_cons, List.length_nil]; omega)) | ((with_reducible apply i_alloc); assumption; rfl; clear hS; intro b w hS) | ((with_reducible apply i_box); assumption; rfl; clear hS; intro b w hS) | ((with_reducible apply i_load); assumption; rfl; (repeat (first | exact Has.head | apply Has.tail)); (first | rfl | (simp [takeV]; done))) | ((with_reducible apply i_build); rfl; (simp [fillL, splice, Value.cells, Act.eval]; rfl)) | ((with_reducible apply i_buildA); rfl; (simp [fillL, splice, Value.cells, Act.eval]; rfl)) | ((with_reducible apply i_bslice); assumption; rfl; rfl; (first | (simp [fillL, splice, zeros, Value.cells, Act.eval]; rfl) | rfl); clear hS; intro b w hS) | ((with_reducible apply i_storeF); assumption; rfl; rfl; (repeat (first | exact Upd.head | apply Upd.tail)); rfl; clear hS; intro w hS) | ((with_reducible apply i_store); assumption; rfl; rfl; (repeat (first | exact Upd.head | apply Upd.tail)); rfl; clear hS; intro w hS; simp only [splice] at hS; try rw [splice_nil] at hS))
        have hS := hS.sub (L' := [row b14 3 [.int .i64 (se : Int)], row b13 3 [.int .i64 (0 + 1 : Int)], row b12 9 [txt (sda ++ vl)], row b11 9 [txt sty], row b10 9 [txt sid], row br 4 [.bool false], row bx 34 [txt e.id, txt e.ty, txt e.da]]) (by (repeat (first | exact List.Sublist.slnil | exact List.Sublist.refl _ | apply List.Sublist.cons_cons | apply List.Sublist.cons)))
        refine ⟨_, ?_, hS.toTurn⟩
        show _ = bun _
        rw [Hst.out]
        rfl
      | succ sp =>
        have hsp : (0 : Int) < (sp : Int) + 1 := by omega
        gi_wp2_with (first | ((with_reducible apply i_want); rfl) | (gi_at_call 87; go_must (refine callsIn_wide.2 ((Hfo.out _ (HGw.out _ hS.fr)).mono ?_)); rintro en w1 ⟨rfl, hf1⟩; replace hS := hS.keep hf1) | ((with_reducible apply i_cat); rfl; rfl; (simp only [List.length_append, List.length_cons, List.length_nil]; omega)) | ((with_reducible apply i_alloc); assumption; rfl; clear hS; intro b w hS) | ((with_reducible apply i_box); assumption; rfl; clear hS; intro b w hS) | ((with_reducible apply i_load); assumption; rfl; (repeat (first | exact Has.head | apply Has.tail)); (first | rfl | (simp [takeV]; done))) | ((with_reducible apply i_build); rfl; (simp [fillL, splice, Value.cells, Act.eval]; rfl)) | ((with_reducible apply i_buildA); rfl; (simp [fillL, splice, Value.cells, Act.eval]; rfl)) | ((with_reducible apply i_bslice); assumption; rfl; rfl; (first | (simp [fillL, splice, zeros, Value.cells, Act.eval]; rfl) | rfl); clear hS; intro b w hS) | ((with_reducible apply i_storeF); assumption; rfl; rfl; (repeat (first | exact Upd.head | apply Upd.tail)); rfl; clear hS; intro w hS) | ((with_reducible apply i_store); assumption; rfl; rfl; (repeat (first | exact Upd.head | apply Upd.tail)); rfl; clear hS; intro w hS; simp only [splice] at hS; try rw [splice_nil] at hS))
        have hS := hS.sub (L' := [row b14 3 [.int .i64 (se : Int)], row b13 3 [.int .i64 (sp + 1 + 1 : Int)], row b12 9 [txt (sda ++ [10] ++ vl)], row b11 9 [txt sty], row b10 9 [txt sid], row br 4 [.bool false], row bx 34 [txt e.id, txt e.ty, txt e.da]]) (by (repeat (first | exact List.Sublist.slnil | exact List.Sublist.refl _ | apply List.Sublist.cons_cons | apply List.Sublist.cons)))
        refine ⟨_, ?_, hS.toTurn⟩
        show _ = bun _
        rw [Hst.out]
        rfl
    · gi_wp2_with (first | ((with_reducible apply i_want); rfl) | (gi_at_call 87; go_must (refine callsIn_wide.2 ((Hfo.out _ (HGw.out _ hS.fr)).mono ?_)); rintro en w1 ⟨rfl, hf1⟩; replace hS := hS.keep hf1) | ((with_reducible apply i_alloc); assumption; rfl; clear hS; intro b w hS) | ((with_reducible apply i_box); assumption; rfl; clear hS; intro b w hS) | ((with_reducible apply i_load); assumption; rfl; (repeat (first | exact Has.head | apply Has.tail)); (first | rfl | (simp [takeV]; done))) | ((with_reducible apply i_build); rfl; (simp [fillL, splice, Value.cells, Act.eval]; rfl)) | ((with_reducible apply i_buildA); rfl; (simp [fillL, splice, Value.cells, Act.eval]; rfl)) | ((with_reducible apply i_bslice); assumption; rfl; rfl; (first | (simp [fillL, splice, zeros, Value.cells, Act.eval]; rfl) | rfl); clear hS; intro b w hS) | ((with_reducible apply i_storeF); assumption; rfl; rfl; (repeat (first | exact Upd.head | apply Upd.tail)); rfl; clear hS; intro w hS) | ((with_reducible apply i_store); assumption; rfl; rfl; (repeat (first | exact Upd.head | apply Upd.tail)); rfl; clear hS; intro w hS; simp only [splice] at hS; try rw [splice_nil] at hS))
      have hS := hS.sub (L' := [row b14 3 [.int .i64 (se + 1 : Int)], row b13 3 [.int .i64 (sp : Int)], row b12 9 [txt sda], row b11 9 [txt sty], row b10 9 [txt sid], row br 4 [.bool false], row bx 34 [txt e.id, txt e.ty, txt e.da]]) (by (repeat (first | exact List.Sublist.slnil | exact List.Sublist.refl _ | apply List.Sublist.cons_cons | apply List.Sublist.cons)))
      refine ⟨_, ?_, hS.toTurn⟩
      show _ = bun _
      rw [Hst.out]
      rfl
  · rintro D1 W1 C rfl hS
    have hS := (hS.pick (by exact .tail .head)).unbundle
    simp only [List.cons_append, List.nil_append] at hS
    rw [Hall.out] at hS
    have hpi := Hpi.out
    clear hS2 hE hG1 hElt
    gi_wp2_with (first | ((with_reducible apply i_want); rfl) | (gi_at_call 37; go_must (refine callsIn_wide.2 ((works_c _ (hG.keep hS.fr)).mono ?_)); rintro en w1 ⟨rfl, hf1⟩; replace hS := hS.keep hf1) | ((with_reducible apply i_alloc); assumption; rfl; clear hS; intro b w hS) | ((with_reducible apply i_box); assumption; rfl; clear hS; intro b w hS) | ((with_reducible apply i_load); assumption; rfl; (repeat (first | exact Has.head | apply Has.tail)); (first | rfl | (simp [takeV]; done))) | ((with_reducible apply i_build); rfl; (simp [fillL, splice, Value.cells, Act.eval]; rfl)) | ((with_reducible apply i_buildA); rfl; (simp [fillL, splice, Value.cells, Act.eval]; rfl)) | ((with_reducible apply i_bslice); assumption; rfl; rfl; (first | (simp [fillL, splice, zeros, Value.cells, Act.eval]; rfl) | rfl); clear hS; intro b w hS) | ((with_reducible apply i_storeF); assumption; rfl; rfl; (repeat (first | exact Upd.head | apply Upd.tail)); rfl; clear hS; intro w hS) | ((with_reducible apply i_store); assumption; rfl; rfl; (repeat (first | exact Upd.head | apply Upd.tail)); rfl; clear hS; intro w hS; simp only [splice] at hS; try rw [splice_nil] at hS))
    have hP3 := hS.pick (by exact .tail (.tail (.tail (.tail (.tail (.tail (.tail .head)))))))
    obtain ⟨W7, ht7, hS7⟩ := hP3.take (P := Tryz.prog)
    refine ⟨by simp, .inl ⟨_, _, rfl, ht7, ?_⟩⟩
    exact ⟨_, results_c1 (k := 1) (agg := false) rfl hS7 rfl (by repeat (first | exact Has.head | apply Has.tail)) rfl, rfl, hS7.fr⟩
  · intro D code pre c' W1 _ h _
    exact h.elim
/-- EventHolds tells true. -/
theorem eholds_c (w0 : World) (hG : GlobT w0) (e f : Ev) : Calls Tryz.prog 14 #[e.v, f.v] w0 fun en w' => en = .returned (.bool true) ∧ Fr [] w0 w' := by
  cases hf : fewP e with
  | false => exact eholds_a w0 hG e f hf
  | true =>
    cases hg : fewP f with
    | false => exact eholds_b w0 hG e f hf hg
    | true =>
      cases hq : rightQ e with
      | true =>
        cases hr : rightQ f with
        | true =>
          cases hd : decide (e = f) with
          | true => exact eholds_dtt w0 hG e f hf hg hq hr hd
          | false => exact eholds_dtf w0 hG e f hf hg hq hr hd
        | false => exact eholds_df w0 hG e f hf hg hq hr
      | false =>
        cases hr : rightQ f with
        | true => exact eholds_ct w0 hG e f hf hg hq hr
        | false => exact eholds_cf w0 hG e f hf hg hq hr
end Go.Proofs.YtaejmginhkbbhaaGreatDoor
