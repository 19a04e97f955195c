/- The walks through package event, last part: the heartbeat (F118), events compared; the chapter's rows of law 07 (F43, F37). Conditions: as each contract says. -/
import Derived.Test.YtaejmginhkbbhaaGreatDoorX4
import Derived.Test.YtaejmginhkbbhaaGreatDoorY1
set_option linter.unusedSimpArgs false
set_option linter.unusedVariables false
set_option maxRecDepth 100000
set_option maxHeartbeats 1000000
namespace Go.Proofs.YtaejmginhkbbhaaGreatDoor
open Go Go.RowKit
theorem run_eqEv (f g : Ev) (W : World) : (binOp .eql 34 f.v g.v).run Tryz.prog W = .ok (.bool (decide (f = g))) W := by
  obtain ⟨k1, n1, v1⟩ := f
  obtain ⟨k2, n2, v2⟩ := g
  simp [Ev.v, Ev.cs, go_sem]
  by_cases h1 : k1 = k2 <;> by_cases h2 : n1 = n2 <;> by_cases h3 : v1 = v2 <;> simp [h1, h2, h3]
theorem guard_ev (op : BinOp) (t : TypeId) (x y : Operand) (f g : Ev) (W : World) (h : Tryz.prog.eqGuardType Tryz.prog.depth t = false) : (eqGuard op t x y f.v g.v).run Tryz.prog W = .ok () W := run_eqGuard_agg W op t x y _ _ h
theorem l_eqEv {ops : Array Oper} {Q : Exit → Act → World → Prop} {a : Act} {W : World} {rest : List Oper} {dst : Option Tmp} {ty ty2 : TypeId} {pos : String} {after : Array Edge} {x y : Operand} {f g : Ev} {r : Bool} (hx : a.eval x = f.v) (hy : a.eval y = g.v) (hr : decide (f = g) = r) (hk : wpList Tryz.prog ops Q rest (a.put dst (.bool r)) W) :
    wpList Tryz.prog ops Q (⟨dst, .binOp .eql 34 x y ty2, ty, pos, after, none⟩ :: rest) a W := by
  subst hr
  refine wpList_val rfl ?_ hk
  have hg := guard_ev .eql 34 x y f g W (by kernel_rfl)
  simp [execOp, hx, hy, hg, run_eqEv, Result.andThen]
/-- A comment, where the text may be. -/
theorem comment_t (w0 : World) (hG : Glob w0) (l r : List UInt8) (hl : l.length ≤ 65536) (ht : textP [13, 10] l = true) (hr : 58 :: 32 :: (l ++ [10, 10]) = r) :
    Calls Tryz.prog 38 #[txt l] w0 fun en w' => ∃ v, en = .returned (.tuple #[v, .int .i64 0]) ∧ St [] w0 w' [rdS 1 v r.length (bv r)] := by
  have h := comment_y w0 hG l hl ht (by rw [bytesOf_com]; simp; omega)
  rw [bytesOf_com, hr] at h
  exact h
def wHb : List UInt8 := [58, 32, 104, 98, 10, 10]
theorem heart_c (w0 : World) (hG : Glob w0) : Calls Tryz.prog 118 #[] w0 fun en w' => ∃ v, en = .returned v ∧ St [] w0 w' [rdS 1 v wHb.length (bv wHb)] := by
  have ht : textP [13, 10] [104, 98] = true := by decide +kernel
  have h := fun W (hW : Glob W) => comment_t W hW [104, 98] wHb (by decide) ht rfl
  have H := Lib.hid h
  clear h ht
  go_enter Tryz.func118, Tryz.ntmps118
  have hS := St.start [] w0
  go_wp2_with (first | ((with_reducible apply l_want); rfl) | (go_at_call 38; go_must (refine (H.out _ (hG.keep hS.fr)).mono ?_); rintro en w1 ⟨v, rfl, hT⟩; replace hS := hS.join hT; clear hT) | ((with_reducible apply l_alloc); assumption; rfl; clear hS; intro b w hS) | ((with_reducible apply l_box); assumption; rfl; clear hS; intro b w hS) | ((with_reducible apply l_load); assumption; rfl; (repeat (first | exact Has.head | apply Has.tail)); (first | rfl | (simp [takeV]; done))) | ((with_reducible apply l_build); rfl; (simp [fillL, splice, Value.cells, Act.eval]; rfl)) | ((with_reducible apply l_buildA); rfl; (simp [fillL, splice, Value.cells, Act.eval]; rfl)) | ((with_reducible apply l_bslice); assumption; rfl; rfl; (first | (simp [fillL, splice, zeros, Value.cells, Act.eval]; rfl) | rfl); clear hS; intro b w hS) | ((with_reducible apply l_storeF); assumption; rfl; rfl; (repeat (first | exact Upd.head | apply Upd.tail)); rfl; clear hS; intro w hS) | ((with_reducible apply l_store); assumption; rfl; rfl; (repeat (first | exact Upd.head | apply Upd.tail)); rfl; clear hS; intro w hS; simp only [splice] at hS; try rw [splice_nil] at hS))
  go_ret
  exact ⟨_, rfl, hS⟩
theorem num_c (w0 : World) (n : Int) : Calls Tryz.prog 43 #[.int .i64 n] w0 fun en w' => en = .returned (.int .i64 n) ∧ w' = w0 := by
  go_enter Tryz.func43, Tryz.ntmps43
  go_wp2_with (first | ((with_reducible apply l_want); rfl) | ((with_reducible apply l_alloc); assumption; rfl; clear hS; intro b w hS) | ((with_reducible apply l_box); assumption; rfl; clear hS; intro b w hS) | ((with_reducible apply l_load); assumption; rfl; (repeat (first | exact Has.head | apply Has.tail)); (first | rfl | (simp [takeV]; done))) | ((with_reducible apply l_build); rfl; (simp [fillL, splice, Value.cells, Act.eval]; rfl)) | ((with_reducible apply l_buildA); rfl; (simp [fillL, splice, Value.cells, Act.eval]; rfl)) | ((with_reducible apply l_bslice); assumption; rfl; rfl; (first | (simp [fillL, splice, zeros, Value.cells, Act.eval]; rfl) | rfl); clear hS; intro b w hS) | ((with_reducible apply l_storeF); assumption; rfl; rfl; (repeat (first | exact Upd.head | apply Upd.tail)); rfl; clear hS; intro w hS) | ((with_reducible apply l_store); assumption; rfl; rfl; (repeat (first | exact Upd.head | apply Upd.tail)); rfl; clear hS; intro w hS; simp only [splice] at hS; try rw [splice_nil] at hS))
  go_ret
  exact ⟨rfl, rfl⟩
def wA : List UInt8 := [105, 100, 58, 32, 55, 10, 101, 118, 101, 110, 116, 58, 32, 116, 10, 100, 97, 116, 97, 58, 32, 97, 10, 100, 97, 116, 97, 58, 32, 98, 10, 10]
def wB : List UInt8 := [100, 97, 116, 97, 10, 10]
def wC : List UInt8 := [58, 32, 120, 10, 10]
theorem encA : encP ⟨[55], [116], [97, 10, 98]⟩ = wA := by
  unfold encP
  rw [bytesOf_eq]
  unfold linesP
  simp [someP, splitP, tl0_eq, tl1_eq, tl2_eq, wA]
theorem encB : encP ⟨[], [], []⟩ = wB := by
  unfold encP
  rw [bytesOf_eq]
  unfold linesP
  simp [someP, splitP, tl2_eq, wB]
attribute [local irreducible] Calls
theorem works_c (w0 : World) (hG : GlobT w0) : Calls Tryz.prog 37 #[] w0 fun en w' => en = .returned (.bool true) ∧ Fr [] w0 w' := by
  have h1 := fun W (hW : GlobT W) => encode_t W hW.base ⟨[55], [116], [97, 10, 98]⟩ (by decide +kernel)
  have h2 := fun W (hW : GlobT W) => encode_t W hW.base ⟨[], [], []⟩ (by decide +kernel)
  have h3 := fun W (hW : GlobT W) => comment_t W hW.base [120] wC (by decide) (by decide +kernel) rfl
  have h4 := fun W (hW : GlobT W) => reset_c W hW 2 5 (by decide) (by decide)
  have h5 := fun W (hW : GlobT W) => resets_c W hW.base ⟨[], resetT, [50, 32, 53]⟩ (by decide) (by decide) (by decide)
  have h6 := fun W (hW : GlobT W) => resets_c W hW.base ⟨[], resetT, [50, 32, 32, 53]⟩ (by decide) (by decide) (by decide)
  have h7 := fun W (hW : GlobT W) => check_c W hW.base ⟨[], [], [13]⟩ (by decide) (by decide) (by decide)
  rw [encA] at h1
  rw [encB] at h2
  have e4 : resetP 2 5 = ⟨[], resetT, [50, 32, 53]⟩ := by decide +kernel
  have e5 : resetsP ⟨[], resetT, [50, 32, 53]⟩ = (2, 5, 0) := by decide +kernel
  have e6 : resetsP ⟨[], resetT, [50, 32, 32, 53]⟩ = (0, 0, 170) := by decide +kernel
  have e7 : okNo (rightP ⟨[], [], [13]⟩) = 2 := by decide +kernel
  rw [e4] at h4
  rw [e5] at h5
  rw [e6] at h6
  rw [e7] at h7
  have H1 := Lib.hid h1
  have H2 := Lib.hid h2
  have H3 := Lib.hid h3
  have H4 := Lib.hid h4
  have H5 := Lib.hid h5
  have H6 := Lib.hid h6
  have H7 := Lib.hid h7
  clear h1 h2 h3 h4 h5 h6 h7 e4 e5 e6 e7
  go_enter Tryz.func37, Tryz.ntmps37
  have hS := St.start [] w0
  go_wp2_with (first | ((with_reducible apply l_want); rfl) | (go_at_call 47; refine (H1.out _ (hG.keep hS.fr)).mono ?_; rintro en w1 ⟨v, rfl, hT⟩; replace hS := hS.join hT; simp only [List.cons_append, List.nil_append] at hS; obtain ⟨A, cp, rfl, hcp⟩ := (hT.get (c := rdS 1 v wA.length (bv wA)) (by exact Has.head)).shape; clear hT) | (go_at_call 47; refine (H2.out _ (hG.keep hS.fr)).mono ?_; rintro en w1 ⟨v, rfl, hT⟩; replace hS := hS.join hT; simp only [List.cons_append, List.nil_append] at hS; obtain ⟨A, cp, rfl, hcp⟩ := (hT.get (c := rdS 1 v wB.length (bv wB)) (by exact Has.head)).shape; clear hT) | (go_at_call 38; go_must (refine (H3.out _ (hG.keep hS.fr)).mono ?_); rintro en w1 ⟨v, rfl, hT⟩; replace hS := hS.join hT; simp only [List.cons_append, List.nil_append] at hS; obtain ⟨A, cp, rfl, hcp⟩ := (hT.get (c := rdS 1 v wC.length (bv wC)) (by exact Has.head)).shape; clear hT) | (go_at_call 40; go_must (refine (H4.out _ (hG.keep hS.fr)).mono ?_); rintro en w1 ⟨rfl, hf1⟩; replace hS := hS.keep hf1) | (go_at_call 41; refine (H5.out _ (hG.keep hS.fr)).mono ?_; rintro en w1 ⟨rfl, hf1⟩; replace hS := hS.keep hf1) | (go_at_call 41; refine (H6.out _ (hG.keep hS.fr)).mono ?_; rintro en w1 ⟨rfl, hf1⟩; replace hS := hS.keep hf1) | (go_at_call 45; go_must (refine (H7.out _ (hG.keep hS.fr)).mono ?_); rintro en w1 ⟨rfl, hf1⟩; replace hS := hS.keep hf1) | (go_at_call 43; go_must (refine (num_c _ _).mono ?_); rintro en w1 ⟨rfl, rfl⟩) | (go_at_call 118; go_must (refine (heart_c _ (hG.keep hS.fr).base).mono ?_); rintro en w1 ⟨v, rfl, hT⟩; replace hS := hS.join hT; simp only [List.cons_append, List.nil_append] at hS; obtain ⟨A, cp, rfl, hcp⟩ := (hT.get (c := rdS 1 v wHb.length (bv wHb)) (by exact Has.head)).shape; clear hT) | ((with_reducible apply l_eqEv (f := ⟨[], resetT, [50, 32, 53]⟩) (g := ⟨[], resetT, [50, 32, 53]⟩) (r := true)); rfl; rfl; rfl) | ((with_reducible apply l_b2s (l := wA)); rfl; refine hS.get (c := rdS 1 _ wA.length (bv wA)) ?_; (first | exact Has.head | exact Has.head.tail | exact Has.head.tail.tail | exact Has.head.tail.tail.tail | exact Has.head.tail.tail.tail.tail | exact Has.head.tail.tail.tail.tail.tail | exact Has.head.tail.tail.tail.tail.tail.tail | exact Has.head.tail.tail.tail.tail.tail.tail.tail | exact Has.head.tail.tail.tail.tail.tail.tail.tail.tail | exact Has.head.tail.tail.tail.tail.tail.tail.tail.tail.tail | exact Has.head.tail.tail.tail.tail.tail.tail.tail.tail.tail.tail | exact Has.head.tail.tail.tail.tail.tail.tail.tail.tail.tail.tail.tail)) | ((with_reducible apply l_b2s (l := wB)); rfl; refine hS.get (c := rdS 1 _ wB.length (bv wB)) ?_; (first | exact Has.head | exact Has.head.tail | exact Has.head.tail.tail | exact Has.head.tail.tail.tail | exact Has.head.tail.tail.tail.tail | exact Has.head.tail.tail.tail.tail.tail | exact Has.head.tail.tail.tail.tail.tail.tail | exact Has.head.tail.tail.tail.tail.tail.tail.tail | exact Has.head.tail.tail.tail.tail.tail.tail.tail.tail | exact Has.head.tail.tail.tail.tail.tail.tail.tail.tail.tail | exact Has.head.tail.tail.tail.tail.tail.tail.tail.tail.tail.tail | exact Has.head.tail.tail.tail.tail.tail.tail.tail.tail.tail.tail.tail)) | ((with_reducible apply l_b2s (l := wC)); rfl; refine hS.get (c := rdS 1 _ wC.length (bv wC)) ?_; (first | exact Has.head | exact Has.head.tail | exact Has.head.tail.tail | exact Has.head.tail.tail.tail | exact Has.head.tail.tail.tail.tail | exact Has.head.tail.tail.tail.tail.tail | exact Has.head.tail.tail.tail.tail.tail.tail | exact Has.head.tail.tail.tail.tail.tail.tail.tail | exact Has.head.tail.tail.tail.tail.tail.tail.tail.tail | exact Has.head.tail.tail.tail.tail.tail.tail.tail.tail.tail | exact Has.head.tail.tail.tail.tail.tail.tail.tail.tail.tail.tail | exact Has.head.tail.tail.tail.tail.tail.tail.tail.tail.tail.tail.tail)) | ((with_reducible apply l_b2s (l := wHb)); rfl; refine hS.get (c := rdS 1 _ wHb.length (bv wHb)) ?_; (first | exact Has.head | exact Has.head.tail | exact Has.head.tail.tail | exact Has.head.tail.tail.tail | exact Has.head.tail.tail.tail.tail | exact Has.head.tail.tail.tail.tail.tail | exact Has.head.tail.tail.tail.tail.tail.tail | exact Has.head.tail.tail.tail.tail.tail.tail.tail | exact Has.head.tail.tail.tail.tail.tail.tail.tail.tail | exact Has.head.tail.tail.tail.tail.tail.tail.tail.tail.tail | exact Has.head.tail.tail.tail.tail.tail.tail.tail.tail.tail.tail | exact Has.head.tail.tail.tail.tail.tail.tail.tail.tail.tail.tail.tail)) | ((with_reducible apply l_alloc); assumption; rfl; clear hS; intro b w hS) | ((with_reducible apply l_box); assumption; rfl; clear hS; intro b w hS) | ((with_reducible apply l_load); assumption; rfl; (repeat (first | exact Has.head | apply Has.tail)); (first | rfl | (simp [takeV]; done))) | ((with_reducible apply l_build); rfl; (simp [fillL, splice, Value.cells, Act.eval]; rfl)) | ((with_reducible apply l_buildA); rfl; (simp [fillL, splice, Value.cells, Act.eval]; rfl)) | ((with_reducible apply l_bslice); assumption; rfl; rfl; (first | (simp [fillL, splice, zeros, Value.cells, Act.eval]; rfl) | rfl); clear hS; intro b w hS) | ((with_reducible apply l_storeF); assumption; rfl; rfl; (repeat (first | exact Upd.head | apply Upd.tail)); rfl; clear hS; intro w hS) | ((with_reducible apply l_store); assumption; rfl; rfl; (repeat (first | exact Upd.head | apply Upd.tail)); rfl; clear hS; intro w hS; simp only [splice] at hS; try rw [splice_nil] at hS))
  go_ret
  exact ⟨rfl, hS.fr⟩
end Go.Proofs.YtaejmginhkbbhaaGreatDoor
