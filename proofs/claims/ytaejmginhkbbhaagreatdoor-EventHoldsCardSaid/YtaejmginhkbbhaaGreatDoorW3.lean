/- The walks through package event, ninth part: an event's bytes (F47). Conditions: as each contract says. -/
import Derived.Test.YtaejmginhkbbhaaGreatDoorW2
set_option linter.unusedSimpArgs false
set_option linter.unusedVariables false
set_option maxRecDepth 100000
set_option maxHeartbeats 1000000
namespace Go.Proofs.YtaejmginhkbbhaaGreatDoor
open Go Go.RowKit
/-- What Encode tells of an event that may be. -/
noncomputable def encP (e : Ev) : List UInt8 := bytesOf (linesP e)
theorem encode_y (w0 : World) (hG : Glob w0) (e : Ev) (hsm : e.id.length + e.ty.length + e.da.length ≤ 65536) (hch : checkP e = true) (hN : (linesP e).length ≤ 900000) (hlen : (encP e).length ≤ 140737488355328) :
    Calls Tryz.prog 47 #[e.v] w0 fun en w' => ∃ v, en = .returned (.tuple #[v, .int .i64 0]) ∧ St [] w0 w' [rdS 1 v (encP e).length (bv (encP e))] := by
  have hj := fun W (hW : Glob W) => joined_y W 136 #[e.v] #[] (linesP e) (enters_of Tryz.func136 (by kernel_rfl) rfl) (lines_y W hW e hsm hch) hN hlen
  have Hj := Lib.hid hj
  clear hj hch hlen hN
  change Calls Tryz.prog 47 #[.agg ⟨[txt e.id, txt e.ty, txt e.da]⟩] w0 _
  go_enter_defers Tryz.func47, Tryz.ntmps47
  have hS := St.start [] w0
  have hmf : ∀ (fn : Fn) (first cap : Array Value) (w : World), (Instr.makeFunc fn first cap).run Tryz.prog w = .ok (.func fn first cap) w := fun _ _ _ _ => rfl
  go_wp2_with (first | ((with_reducible apply l_want); rfl) | (go_at_call 123; go_must (refine (Hj.out _ (hG.keep hS.fr)).mono ?_); rintro en w1 ⟨v, rfl, hT⟩; replace hS := hS.join hT; obtain ⟨A, cp, rfl, hcp⟩ := (hT.get (c := rdS 1 v (bytesOf (linesP e)).length (bv (bytesOf (linesP e)))) (by exact Has.head)).shape; clear hT) | ((with_reducible apply l_alloc); assumption; rfl; clear hS; intro b w hS) | ((with_reducible apply l_box); assumption; rfl; clear hS; intro b w hS) | ((with_reducible apply l_load); assumption; rfl; (repeat (first | exact Has.head | apply Has.tail)); (first | rfl | (simp [takeV]; done))) | ((with_reducible apply l_build); rfl; (simp [fillL, splice, Value.cells, Act.eval]; rfl)) | ((with_reducible apply l_buildA); rfl; (simp [fillL, splice, Value.cells, Act.eval]; rfl)) | ((with_reducible apply l_bslice); assumption; rfl; rfl; (first | (simp [fillL, splice, zeros, Value.cells, Act.eval]; rfl) | rfl); clear hS; intro b w hS) | ((with_reducible apply l_storeF); assumption; rfl; rfl; (repeat (first | exact Upd.head | apply Upd.tail)); rfl; clear hS; intro w hS) | ((with_reducible apply l_store); assumption; rfl; rfl; (repeat (first | exact Upd.head | apply Upd.tail)); rfl; clear hS; intro w hS; simp only [splice] at hS; try rw [splice_nil] at hS))
  refine leaves_cons (f := 119) (args := #[_, _]) (by simp) (by simp [go_sem]; exact ⟨rfl, rfl⟩) ?_
  refine (caught_r _ _ _).mono ?_
  rintro e2 u' w'' ⟨rfl, rfl, rfl⟩
  exact ⟨_, results_c2 (k := 1) (k' := 1) (agg := false) (agg' := false) rfl hS rfl (by repeat (first | exact Has.head | apply Has.tail)) rfl rfl (by repeat (first | exact Has.head | apply Has.tail)) rfl, _, rfl, hS.sub (by (repeat (first | exact List.Sublist.slnil | exact List.Sublist.refl _ | apply List.Sublist.cons_cons | apply List.Sublist.cons)))⟩
end Go.Proofs.YtaejmginhkbbhaaGreatDoor
