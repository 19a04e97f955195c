/- The walks through package event, twelfth part: how many bytes, where an event may not be (F48); its bytes in one word. Conditions: as each contract says. -/
import Derived.Test.YtaejmginhkbbhaaGreatDoorW5
set_option linter.unusedSimpArgs false
set_option linter.unusedVariables false
set_option maxRecDepth 100000
set_option maxHeartbeats 1000000
namespace Go.Proofs.YtaejmginhkbbhaaGreatDoor
open Go Go.RowKit
theorem size_n (w0 : World) (hG : Glob w0) (e : Ev) (hid : e.id.length ≤ 1099511627776) (hty : e.ty.length ≤ 1099511627776) (hda : e.da.length ≤ 1099511627776) (h : checkP e = false) :
    Calls Tryz.prog 48 #[e.v] w0 fun en w' => en = .returned (.tuple #[.int .i64 0, .int .i64 2]) ∧ Fr [] w0 w' := by
  have hj := fun W (hW : Glob W) => encode_n W hW e hid hty hda h
  have Hj := Lib.hid hj
  clear hj h
  change Calls Tryz.prog 48 #[.agg ⟨[txt e.id, txt e.ty, txt e.da]⟩] w0 _
  go_enter Tryz.func48, Tryz.ntmps48
  have hS := St.start [] w0
  go_wp2_with (first | ((with_reducible apply l_want); rfl) | (go_at_call 47; go_must (refine (Hj.out _ (hG.keep hS.fr)).mono ?_); rintro en w1 ⟨rfl, hf1⟩; replace hS := hS.keep hf1) | ((with_reducible apply l_alloc); assumption; rfl; clear hS; intro b w hS) | ((with_reducible apply l_box); assumption; rfl; clear hS; intro b w hS) | ((with_reducible apply l_load); assumption; rfl; (repeat (first | exact Has.head | apply Has.tail)); (first | rfl | (simp [takeV]; done))) | ((with_reducible apply l_build); rfl; (simp [fillL, splice, Value.cells, Act.eval]; rfl)) | ((with_reducible apply l_buildA); rfl; (simp [fillL, splice, Value.cells, Act.eval]; rfl)) | ((with_reducible apply l_bslice); assumption; rfl; rfl; (first | (simp [fillL, splice, zeros, Value.cells, Act.eval]; rfl) | rfl); clear hS; intro b w hS) | ((with_reducible apply l_storeF); assumption; rfl; rfl; (repeat (first | exact Upd.head | apply Upd.tail)); rfl; clear hS; intro w hS) | ((with_reducible apply l_store); assumption; rfl; rfl; (repeat (first | exact Upd.head | apply Upd.tail)); rfl; clear hS; intro w hS; simp only [splice] at hS; try rw [splice_nil] at hS))
  go_ret2
  exact ⟨rfl, hS.fr⟩
end Go.Proofs.YtaejmginhkbbhaaGreatDoor

