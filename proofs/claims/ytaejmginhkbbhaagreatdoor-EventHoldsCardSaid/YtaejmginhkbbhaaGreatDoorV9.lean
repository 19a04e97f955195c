/- The walks through package event, sixth part: lines of fields (F125). Conditions: as each contract says. -/
import Derived.Test.YtaejmginhkbbhaaGreatDoorV8
set_option linter.unusedSimpArgs false
set_option linter.unusedVariables false
set_option maxRecDepth 100000
set_option maxHeartbeats 1000000
namespace Go.Proofs.YtaejmginhkbbhaaGreatDoor
open Go Go.RowKit
/-- The line of a field, if it says the field. -/
noncomputable def toldP (f : Fd) : List UInt8 := if ofP (lineP f) = f then lineP f else []
noncomputable def toldNo (f : Fd) : Int := if ofP (lineP f) = f then 0 else 2
theorem line_c (w0 : World) (hG : Glob w0) (f : Fd) (hl : (lineP f).length < 4294967281) : Calls Tryz.prog 194 #[f.v] w0 fun e w' => e = .returned (.tuple #[txt (toldP f), .int .i64 (toldNo f)]) ∧ Fr [] w0 w' := by
  by_cases h : f.kind = 2
  · exact line_a w0 hG f hl h
  · cases hv : f.val with
    | nil => exact line_b w0 hG f hl h hv
    | cons x r => exact line_c' w0 hG f hl h x r hv
theorem told_f (w0 : World) (hG : Glob w0) (f : Fd) (v : Value) (hl : (lineP f).length < 4294967281) (hr : RdS w0 3 v 1 f.cs) :
    Calls Tryz.prog 125 #[v] w0 fun e w' => ∃ v', e = .returned v' ∧ St [] w0 w' [own 9 1 v' 1 [txt (toldP f)]] := by
  obtain ⟨-, A, cp, rfl, hcp, hrd⟩ := hr
  obtain ⟨bb, o, rfl, hrd2⟩ := hrd (by simp [Fd.cs])
  clear hrd
  obtain ⟨kd, nm, vl⟩ := f
  have hrd3 : Rd w0 bb o [.int .i64 (kd : Int), txt nm, txt vl] := hrd2
  have Hrd := Lib.hid hrd3
  have hli := fun W (hW : Glob W) => line_c W hW ⟨kd, nm, vl⟩ hl
  obtain ⟨T, hT⟩ : ∃ T, T = toldP ⟨kd, nm, vl⟩ := ⟨_, rfl⟩
  obtain ⟨N, hN⟩ : ∃ N, N = toldNo ⟨kd, nm, vl⟩ := ⟨_, rfl⟩
  rw [← hT, ← hN] at hli
  rw [← hT]
  have Hli := Lib.hid hli
  clear hrd2 hrd3 hli hT hN hl
  go_enter Tryz.func125, Tryz.ntmps125
  have hS := (St.start [] w0).addNil (c' := own 9 1 (.slice none 0 0) 0 []) (ownNil _ _ _) rfl
  go_wp2_with (first | ((with_reducible apply l_want); rfl) | ((with_reducible apply l_alloc); assumption; rfl; clear hS; intro b w hS) | ((with_reducible apply l_box); assumption; rfl; clear hS; intro b w hS) | ((with_reducible apply l_load); assumption; rfl; (repeat (first | exact Has.head | apply Has.tail)); (first | rfl | (simp [takeV]; done))) | ((with_reducible apply l_build); rfl; (simp [fillL, splice, Value.cells, Act.eval]; rfl)) | ((with_reducible apply l_buildA); rfl; (simp [fillL, splice, Value.cells, Act.eval]; rfl)) | ((with_reducible apply l_bslice); assumption; rfl; rfl; (first | (simp [fillL, splice, zeros, Value.cells, Act.eval]; rfl) | rfl); clear hS; intro b w hS) | ((with_reducible apply l_storeF); assumption; rfl; rfl; (repeat (first | exact Upd.head | apply Upd.tail)); rfl; clear hS; intro w hS) | ((with_reducible apply l_store); assumption; rfl; rfl; (repeat (first | exact Upd.head | apply Upd.tail)); rfl; clear hS; intro w hS; simp only [splice] at hS; try rw [splice_nil] at hS))
  refine wp_loop_rounds 2 ?_
  rw [rounds_succ]
  go_wp2_with (first | ((with_reducible apply l_want); rfl) | ((with_reducible apply l_read (agg := true) (k := 3)); rfl; exact Hrd.out.fr hS.fr (by simp); rfl) | (go_at_call 194; go_must (refine (Hli.out _ (hG.keep hS.fr)).mono ?_); rintro en w1 ⟨rfl, hf1⟩; replace hS := hS.keep hf1) | ((with_reducible apply l_append); assumption; rfl; rfl; (intro v'; (repeat (first | exact Upd.head | apply Upd.tail))); rfl; exact RdS.of_row (hS.get (by exact Has.head)) 1 1 rfl (Nat.le_refl _); simp [Value.oneCell']; decide; decide; clear hS; intro v' w hS hnil) | ((with_reducible apply l_alloc); assumption; rfl; clear hS; intro b w hS) | ((with_reducible apply l_box); assumption; rfl; clear hS; intro b w hS) | ((with_reducible apply l_load); assumption; rfl; (repeat (first | exact Has.head | apply Has.tail)); (first | rfl | (simp [takeV]; done))) | ((with_reducible apply l_build); rfl; (simp [fillL, splice, Value.cells, Act.eval]; rfl)) | ((with_reducible apply l_buildA); rfl; (simp [fillL, splice, Value.cells, Act.eval]; rfl)) | ((with_reducible apply l_bslice); assumption; rfl; rfl; (first | (simp [fillL, splice, zeros, Value.cells, Act.eval]; rfl) | rfl); clear hS; intro b w hS) | ((with_reducible apply l_storeF); assumption; rfl; rfl; (repeat (first | exact Upd.head | apply Upd.tail)); rfl; clear hS; intro w hS) | ((with_reducible apply l_store); assumption; rfl; rfl; (repeat (first | exact Upd.head | apply Upd.tail)); rfl; clear hS; intro w hS; simp only [splice] at hS; try rw [splice_nil] at hS))
  rw [rounds_succ]
  go_wp2_with (first | ((with_reducible apply l_want); rfl) | ((with_reducible apply l_alloc); assumption; rfl; clear hS; intro b w hS) | ((with_reducible apply l_box); assumption; rfl; clear hS; intro b w hS) | ((with_reducible apply l_load); assumption; rfl; (repeat (first | exact Has.head | apply Has.tail)); (first | rfl | (simp [takeV]; done))) | ((with_reducible apply l_build); rfl; (simp [fillL, splice, Value.cells, Act.eval]; rfl)) | ((with_reducible apply l_buildA); rfl; (simp [fillL, splice, Value.cells, Act.eval]; rfl)) | ((with_reducible apply l_bslice); assumption; rfl; rfl; (first | (simp [fillL, splice, zeros, Value.cells, Act.eval]; rfl) | rfl); clear hS; intro b w hS) | ((with_reducible apply l_storeF); assumption; rfl; rfl; (repeat (first | exact Upd.head | apply Upd.tail)); rfl; clear hS; intro w hS) | ((with_reducible apply l_store); assumption; rfl; rfl; (repeat (first | exact Upd.head | apply Upd.tail)); rfl; clear hS; intro w hS; simp only [splice] at hS; try rw [splice_nil] at hS))
  go_ret
  exact ⟨_, rfl, hS.sub (by (repeat (first | exact List.Sublist.slnil | exact List.Sublist.refl _ | apply List.Sublist.cons_cons | apply List.Sublist.cons)))⟩
end Go.Proofs.YtaejmginhkbbhaaGreatDoor
