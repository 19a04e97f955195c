/- The walks through package event, tenth part: how many bytes (F48), is a Type reserved (F46). Conditions: as each contract says. -/
import Derived.Test.YtaejmginhkbbhaaGreatDoorW3
set_option linter.unusedSimpArgs false
set_option linter.unusedVariables false
set_option maxRecDepth 100000
set_option maxHeartbeats 1000000
namespace Go.Proofs.YtaejmginhkbbhaaGreatDoor
open Go Go.RowKit
theorem size_y (w0 : World) (hG : Glob w0) (e : Ev) (hsm : e.id.length + e.ty.length + e.da.length ≤ 65536) (hch : checkP e = true) (hN : (linesP e).length ≤ 900000) (hlen : (encP e).length ≤ 140737488355328) :
    Calls Tryz.prog 48 #[e.v] w0 fun en w' => en = .returned (.tuple #[.int .i64 ((encP e).length : Int), .int .i64 0]) ∧ Fr [] w0 w' := by
  have hj := fun W (hW : Glob W) => encode_y W hW e hsm hch hN hlen
  have Hj := Lib.hid hj
  clear hj hch hlen hN
  change Calls Tryz.prog 48 #[.agg ⟨[txt e.id, txt e.ty, txt e.da]⟩] w0 _
  go_enter Tryz.func48, Tryz.ntmps48
  have hS := St.start [] w0
  go_wp2_with (first | ((with_reducible apply l_want); rfl) | (go_at_call 47; go_must (refine (Hj.out _ (hG.keep hS.fr)).mono ?_); rintro en w1 ⟨v, rfl, hT⟩; obtain ⟨A, cp, rfl, hcp⟩ := (hT.get (c := rdS 1 v (encP e).length (bv (encP e))) (by exact Has.head)).shape; replace hS := hS.keep hT.fr; clear hT) | ((with_reducible apply l_alloc); assumption; rfl; clear hS; intro b w hS) | ((with_reducible apply l_box); assumption; rfl; clear hS; intro b w hS) | ((with_reducible apply l_load); assumption; rfl; (repeat (first | exact Has.head | apply Has.tail)); (first | rfl | (simp [takeV]; done))) | ((with_reducible apply l_build); rfl; (simp [fillL, splice, Value.cells, Act.eval]; rfl)) | ((with_reducible apply l_buildA); rfl; (simp [fillL, splice, Value.cells, Act.eval]; rfl)) | ((with_reducible apply l_bslice); assumption; rfl; rfl; (first | (simp [fillL, splice, zeros, Value.cells, Act.eval]; rfl) | rfl); clear hS; intro b w hS) | ((with_reducible apply l_storeF); assumption; rfl; rfl; (repeat (first | exact Upd.head | apply Upd.tail)); rfl; clear hS; intro w hS) | ((with_reducible apply l_store); assumption; rfl; rfl; (repeat (first | exact Upd.head | apply Upd.tail)); rfl; clear hS; intro w hS; simp only [splice] at hS; try rw [splice_nil] at hS))
  go_ret2
  exact ⟨rfl, hS.fr⟩
def resetT : List UInt8 := [115, 116, 114, 101, 97, 109, 45, 114, 101, 115, 101, 116]
theorem reserved_c (w0 : World) (e : Ev) : Calls Tryz.prog 46 #[e.v] w0 fun en w' => en = .returned (.bool (e.ty == resetT)) ∧ Fr [] w0 w' := by
  change Calls Tryz.prog 46 #[.agg ⟨[txt e.id, txt e.ty, txt e.da]⟩] w0 _
  go_enter Tryz.func46, Tryz.ntmps46
  have hS := St.start [] w0
  go_wp2_with (first | ((with_reducible apply l_want); rfl) | ((with_reducible apply l_alloc); assumption; rfl; clear hS; intro b w hS) | ((with_reducible apply l_box); assumption; rfl; clear hS; intro b w hS) | ((with_reducible apply l_load); assumption; rfl; (repeat (first | exact Has.head | apply Has.tail)); (first | rfl | (simp [takeV]; done))) | ((with_reducible apply l_build); rfl; (simp [fillL, splice, Value.cells, Act.eval]; rfl)) | ((with_reducible apply l_buildA); rfl; (simp [fillL, splice, Value.cells, Act.eval]; rfl)) | ((with_reducible apply l_bslice); assumption; rfl; rfl; (first | (simp [fillL, splice, zeros, Value.cells, Act.eval]; rfl) | rfl); clear hS; intro b w hS) | ((with_reducible apply l_storeF); assumption; rfl; rfl; (repeat (first | exact Upd.head | apply Upd.tail)); rfl; clear hS; intro w hS) | ((with_reducible apply l_store); assumption; rfl; rfl; (repeat (first | exact Upd.head | apply Upd.tail)); rfl; clear hS; intro w hS; simp only [splice] at hS; try rw [splice_nil] at hS))
  go_ret
  exact ⟨rfl, hS.fr⟩
end Go.Proofs.YtaejmginhkbbhaaGreatDoor

