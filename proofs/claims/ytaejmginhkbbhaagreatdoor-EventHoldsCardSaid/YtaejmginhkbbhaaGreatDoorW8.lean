/- The walks through package event, fourteenth part: a comment that may not be (F38). Conditions: as each contract says. -/
import Derived.Test.YtaejmginhkbbhaaGreatDoorW7
set_option linter.unusedSimpArgs false
set_option linter.unusedVariables false
set_option maxRecDepth 100000
set_option maxHeartbeats 1000000
namespace Go.Proofs.YtaejmginhkbbhaaGreatDoor
open Go Go.RowKit
theorem comment_big (w0 : World) (l : List UInt8) (hl : 65536 < l.length) (hl2 : l.length ≤ 1099511627776) :
    Calls Tryz.prog 38 #[txt l] w0 fun en w' => en = .returned (.tuple #[.slice none 0 0, .int .i64 2]) ∧ Fr [] w0 w' := by
  have hd : decide ((l.length : Int) ≤ 65536) = false := by simp; omega
  go_enter_defers Tryz.func38, Tryz.ntmps38
  have hS := St.start [] w0
  have hmf : ∀ (fn : Fn) (first cap : Array Value) (w : World), (Instr.makeFunc fn first cap).run Tryz.prog w = .ok (.func fn first cap) w := fun _ _ _ _ => rfl
  go_wp2_with (first | ((with_reducible apply l_want); rfl) | (go_at_call 121; go_must (refine (must_f' _ _).mono ?_); rintro en w1 ⟨rfl, rfl⟩) | ((with_reducible apply l_alloc); assumption; rfl; clear hS; intro b w hS) | ((with_reducible apply l_box); assumption; rfl; clear hS; intro b w hS) | ((with_reducible apply l_load); assumption; rfl; (repeat (first | exact Has.head | apply Has.tail)); (first | rfl | (simp [takeV]; done))) | ((with_reducible apply l_build); rfl; (simp [fillL, splice, Value.cells, Act.eval]; rfl)) | ((with_reducible apply l_buildA); rfl; (simp [fillL, splice, Value.cells, Act.eval]; rfl)) | ((with_reducible apply l_bslice); assumption; rfl; rfl; (first | (simp [fillL, splice, zeros, Value.cells, Act.eval]; rfl) | rfl); clear hS; intro b w hS) | ((with_reducible apply l_storeF); assumption; rfl; rfl; (repeat (first | exact Upd.head | apply Upd.tail)); rfl; clear hS; intro w hS) | ((with_reducible apply l_store); assumption; rfl; rfl; (repeat (first | exact Upd.head | apply Upd.tail)); rfl; clear hS; intro w hS; simp only [splice] at hS; try rw [splice_nil] at hS))
  refine leaves_cons (f := 119) (args := #[_, _]) (by simp) (by simp [go_sem]; exact ⟨rfl, rfl⟩) ?_
  refine (caught_p [] w0 _ _ _ _ _ 120 _ 2 _ hS (enters_of Tryz.func120 (by kernel_rfl) rfl) (fun W hW => clear2_c [] w0 W _ _ _ _ hW (by exact Upd.head.tail)) (by exact Upd.head)).mono ?_
  rintro e2 u' w'' ⟨rfl, rfl, hS2⟩
  exact ⟨_, results_c2 (k := 1) (k' := 1) (agg := false) (agg' := false) rfl hS2 rfl (by repeat (first | exact Has.head | apply Has.tail)) rfl rfl (by repeat (first | exact Has.head | apply Has.tail)) rfl, rfl, hS2.fr⟩
theorem comment_n (w0 : World) (l : List UInt8) (hl : l.length ≤ 65536) (ht : textP [13, 10] l = false) :
    Calls Tryz.prog 38 #[txt l] w0 fun en w' => en = .returned (.tuple #[.slice none 0 0, .int .i64 2]) ∧ Fr [] w0 w' := by
  have hd : decide ((l.length : Int) ≤ 65536) = true := by simp; omega
  have Ht := Lib.hid ht
  clear ht
  go_enter_defers Tryz.func38, Tryz.ntmps38
  have hS := St.start [] w0
  have hmf : ∀ (fn : Fn) (first cap : Array Value) (w : World), (Instr.makeFunc fn first cap).run Tryz.prog w = .ok (.func fn first cap) w := fun _ _ _ _ => rfl
  go_wp2_with (first | ((with_reducible apply l_want); rfl) | (go_at_call 121; go_must (refine (must_t _ _).mono ?_); rintro en w1 ⟨⟨v, rfl⟩, rfl⟩) | (go_at_call 122; go_must (refine (text_n _ l [13, 10] ascii4 (by omega) Ht.out).mono ?_); rintro en w1 ⟨rfl, hf1⟩; replace hS := hS.keep hf1) | ((with_reducible apply l_alloc); assumption; rfl; clear hS; intro b w hS) | ((with_reducible apply l_box); assumption; rfl; clear hS; intro b w hS) | ((with_reducible apply l_load); assumption; rfl; (repeat (first | exact Has.head | apply Has.tail)); (first | rfl | (simp [takeV]; done))) | ((with_reducible apply l_build); rfl; (simp [fillL, splice, Value.cells, Act.eval]; rfl)) | ((with_reducible apply l_buildA); rfl; (simp [fillL, splice, Value.cells, Act.eval]; rfl)) | ((with_reducible apply l_bslice); assumption; rfl; rfl; (first | (simp [fillL, splice, zeros, Value.cells, Act.eval]; rfl) | rfl); clear hS; intro b w hS) | ((with_reducible apply l_storeF); assumption; rfl; rfl; (repeat (first | exact Upd.head | apply Upd.tail)); rfl; clear hS; intro w hS) | ((with_reducible apply l_store); assumption; rfl; rfl; (repeat (first | exact Upd.head | apply Upd.tail)); rfl; clear hS; intro w hS; simp only [splice] at hS; try rw [splice_nil] at hS))
  refine leaves_cons (f := 119) (args := #[_, _]) (by simp) (by simp [go_sem]; exact ⟨rfl, rfl⟩) ?_
  refine (caught_p [] w0 _ _ _ _ _ 120 _ 2 _ hS (enters_of Tryz.func120 (by kernel_rfl) rfl) (fun W hW => clear2_c [] w0 W _ _ _ _ hW (by exact Upd.head.tail)) (by exact Upd.head)).mono ?_
  rintro e2 u' w'' ⟨rfl, rfl, hS2⟩
  exact ⟨_, results_c2 (k := 1) (k' := 1) (agg := false) (agg' := false) rfl hS2 rfl (by repeat (first | exact Has.head | apply Has.tail)) rfl rfl (by repeat (first | exact Has.head | apply Has.tail)) rfl, rfl, hS2.fr⟩
end Go.Proofs.YtaejmginhkbbhaaGreatDoor

