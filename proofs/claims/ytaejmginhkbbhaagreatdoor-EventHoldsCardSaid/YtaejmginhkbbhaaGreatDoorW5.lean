/- The walks through package event, eleventh part: an event that may not be (F134, F136, F123, F47, F48). Conditions: as each contract says. -/
import Derived.Test.YtaejmginhkbbhaaGreatDoorW4
set_option linter.unusedSimpArgs false
set_option linter.unusedVariables false
set_option maxRecDepth 100000
set_option maxHeartbeats 1000000
namespace Go.Proofs.YtaejmginhkbbhaaGreatDoor
open Go Go.RowKit
theorem checked_n (w0 : World) (hG : Glob w0) (e : Ev) (hid : e.id.length ≤ 1099511627776) (hty : e.ty.length ≤ 1099511627776) (hda : e.da.length ≤ 1099511627776) (h : checkP e = false) :
    Calls Tryz.prog 134 #[.agg ⟨[txt e.id, txt e.ty, txt e.da]⟩] w0 fun en w' => en = .panicked (gives 2) ∧ Fr [] w0 w' := by
  by_cases hb : e.id.length + e.ty.length + e.da.length ≤ 65536
  · refine (checked_c w0 hG e hb).mono fun en w' h2 => ⟨?_, h2.2⟩
    have := h2.1
    rw [h] at this
    exact this
  · exact checked_big w0 e hid hty hda (by omega)
theorem lines_n (w0 : World) (hG : Glob w0) (e : Ev) (hid : e.id.length ≤ 1099511627776) (hty : e.ty.length ≤ 1099511627776) (hda : e.da.length ≤ 1099511627776) (h : checkP e = false) :
    Calls Tryz.prog 136 #[e.v] w0 fun en w' => en = .panicked (gives 2) ∧ Fr [] w0 w' := by
  have hc := fun W (hW : Glob W) => checked_n W hW e hid hty hda h
  have Hc := Lib.hid hc
  clear hc h
  change Calls Tryz.prog 136 #[.agg ⟨[txt e.id, txt e.ty, txt e.da]⟩] w0 _
  go_enter Tryz.func136, Tryz.ntmps136
  have hS := St.start [] w0
  go_wp2_with (first | ((with_reducible apply l_want); rfl) | (go_at_call 134; go_must (refine (Hc.out _ (hG.keep hS.fr)).mono ?_); rintro en w1 ⟨rfl, hf1⟩; replace hS := hS.keep hf1) | ((with_reducible apply l_alloc); assumption; rfl; clear hS; intro b w hS) | ((with_reducible apply l_box); assumption; rfl; clear hS; intro b w hS) | ((with_reducible apply l_load); assumption; rfl; (repeat (first | exact Has.head | apply Has.tail)); (first | rfl | (simp [takeV]; done))) | ((with_reducible apply l_build); rfl; (simp [fillL, splice, Value.cells, Act.eval]; rfl)) | ((with_reducible apply l_buildA); rfl; (simp [fillL, splice, Value.cells, Act.eval]; rfl)) | ((with_reducible apply l_bslice); assumption; rfl; rfl; (first | (simp [fillL, splice, zeros, Value.cells, Act.eval]; rfl) | rfl); clear hS; intro b w hS) | ((with_reducible apply l_storeF); assumption; rfl; rfl; (repeat (first | exact Upd.head | apply Upd.tail)); rfl; clear hS; intro w hS) | ((with_reducible apply l_store); assumption; rfl; rfl; (repeat (first | exact Upd.head | apply Upd.tail)); rfl; clear hS; intro w hS; simp only [splice] at hS; try rw [splice_nil] at hS))
  exact ⟨rfl, rfl, hS.fr⟩
theorem joined_n (w0 : World) (k : Nat) (first lb : Array Value) (ecf : ∀ args w, (callFunc k args).run Tryz.prog w = .ok (.enter k args) w)
    (hcall : Calls Tryz.prog k (first ++ lb) w0 fun e w' => e = .panicked (gives 2) ∧ Fr [] w0 w') :
    Calls Tryz.prog 123 #[.func (.func k) first lb] w0 fun e w' => e = .panicked (gives 2) ∧ Fr [] w0 w' := by
  have Hc := Lib.hid hcall
  clear hcall
  go_enter Tryz.func123, Tryz.ntmps123
  have hS := St.start [] w0
  go_wp2_with (first | ((with_reducible apply l_want); rfl) | ((with_reducible apply l_alloc); assumption; rfl; clear hS; intro b w hS) | ((with_reducible apply l_box); assumption; rfl; clear hS; intro b w hS) | ((with_reducible apply l_load); assumption; rfl; (repeat (first | exact Has.head | apply Has.tail)); (first | rfl | (simp [takeV]; done))) | ((with_reducible apply l_build); rfl; (simp [fillL, splice, Value.cells, Act.eval]; rfl)) | ((with_reducible apply l_buildA); rfl; (simp [fillL, splice, Value.cells, Act.eval]; rfl)) | ((with_reducible apply l_bslice); assumption; rfl; rfl; (first | (simp [fillL, splice, zeros, Value.cells, Act.eval]; rfl) | rfl); clear hS; intro b w hS) | ((with_reducible apply l_storeF); assumption; rfl; rfl; (repeat (first | exact Upd.head | apply Upd.tail)); rfl; clear hS; intro w hS) | ((with_reducible apply l_store); assumption; rfl; rfl; (repeat (first | exact Upd.head | apply Upd.tail)); rfl; clear hS; intro w hS; simp only [splice] at hS; try rw [splice_nil] at hS))
  refine Hc.out.mono ?_
  rintro e w1 ⟨rfl, hf⟩
  exact ⟨rfl, rfl, hf⟩
theorem clear1_c (S : List Nat) (w0 W : World) (L L2 : List Chunk) (b : Nat) (x : Value) (hS : St S w0 W L) (hu : Upd L (row b 52 [x]) (row b 52 [.slice none 0 0]) L2) :
    Calls Tryz.prog 135 #[.pointer (some ⟨b, 0, none⟩)] W fun e W' => (∃ v, e = .returned v) ∧ St S w0 W' L2 := by
  go_enter Tryz.func135, Tryz.ntmps135
  go_wp2_with (first | ((with_reducible apply l_want); rfl) | ((with_reducible apply l_store); assumption; rfl; rfl; exact hu; rfl; clear hS; intro w hS) | ((with_reducible apply l_alloc); assumption; rfl; clear hS; intro b w hS) | ((with_reducible apply l_box); assumption; rfl; clear hS; intro b w hS) | ((with_reducible apply l_load); assumption; rfl; (repeat (first | exact Has.head | apply Has.tail)); (first | rfl | (simp [takeV]; done))) | ((with_reducible apply l_build); rfl; (simp [fillL, splice, Value.cells, Act.eval]; rfl)) | ((with_reducible apply l_buildA); rfl; (simp [fillL, splice, Value.cells, Act.eval]; rfl)) | ((with_reducible apply l_bslice); assumption; rfl; rfl; (first | (simp [fillL, splice, zeros, Value.cells, Act.eval]; rfl) | rfl); clear hS; intro b w hS) | ((with_reducible apply l_storeF); assumption; rfl; rfl; (repeat (first | exact Upd.head | apply Upd.tail)); rfl; clear hS; intro w hS) | ((with_reducible apply l_store); assumption; rfl; rfl; (repeat (first | exact Upd.head | apply Upd.tail)); rfl; clear hS; intro w hS; simp only [splice] at hS; try rw [splice_nil] at hS))
  go_end0
  exact ⟨⟨_, rfl⟩, hS⟩
theorem encode_n (w0 : World) (hG : Glob w0) (e : Ev) (hid : e.id.length ≤ 1099511627776) (hty : e.ty.length ≤ 1099511627776) (hda : e.da.length ≤ 1099511627776) (h : checkP e = false) :
    Calls Tryz.prog 47 #[e.v] w0 fun en w' => en = .returned (.tuple #[.slice none 0 0, .int .i64 2]) ∧ Fr [] w0 w' := by
  have hj := fun W (hW : Glob W) => joined_n W 136 #[e.v] #[] (enters_of Tryz.func136 (by kernel_rfl) rfl) (lines_n W hW e hid hty hda h)
  have Hj := Lib.hid hj
  clear hj h
  change Calls Tryz.prog 47 #[.agg ⟨[txt e.id, txt e.ty, txt e.da]⟩] w0 _
  go_enter_defers Tryz.func47, Tryz.ntmps47
  have hS := St.start [] w0
  have hmf : ∀ (fn : Fn) (first cap : Array Value) (w : World), (Instr.makeFunc fn first cap).run Tryz.prog w = .ok (.func fn first cap) w := fun _ _ _ _ => rfl
  go_wp2_with (first | ((with_reducible apply l_want); rfl) | (go_at_call 123; go_must (refine (Hj.out _ (hG.keep hS.fr)).mono ?_); rintro en w1 ⟨rfl, hf1⟩; replace hS := hS.keep hf1) | ((with_reducible apply l_alloc); assumption; rfl; clear hS; intro b w hS) | ((with_reducible apply l_box); assumption; rfl; clear hS; intro b w hS) | ((with_reducible apply l_load); assumption; rfl; (repeat (first | exact Has.head | apply Has.tail)); (first | rfl | (simp [takeV]; done))) | ((with_reducible apply l_build); rfl; (simp [fillL, splice, Value.cells, Act.eval]; rfl)) | ((with_reducible apply l_buildA); rfl; (simp [fillL, splice, Value.cells, Act.eval]; rfl)) | ((with_reducible apply l_bslice); assumption; rfl; rfl; (first | (simp [fillL, splice, zeros, Value.cells, Act.eval]; rfl) | rfl); clear hS; intro b w hS) | ((with_reducible apply l_storeF); assumption; rfl; rfl; (repeat (first | exact Upd.head | apply Upd.tail)); rfl; clear hS; intro w hS) | ((with_reducible apply l_store); assumption; rfl; rfl; (repeat (first | exact Upd.head | apply Upd.tail)); rfl; clear hS; intro w hS; simp only [splice] at hS; try rw [splice_nil] at hS))
  refine leaves_cons (f := 119) (args := #[_, _]) (by simp) (by simp [go_sem]; exact ⟨rfl, rfl⟩) ?_
  refine (caught_p [] w0 _ _ _ _ _ 135 _ 2 _ hS (enters_of Tryz.func135 (by kernel_rfl) rfl) (fun W hW => clear1_c [] w0 W _ _ _ _ hW (by exact Upd.head.tail)) (by exact Upd.head)).mono ?_
  rintro e2 u' w'' ⟨rfl, rfl, hS2⟩
  exact ⟨_, results_c2 (k := 1) (k' := 1) (agg := false) (agg' := false) rfl hS2 rfl (by repeat (first | exact Has.head | apply Has.tail)) rfl rfl (by repeat (first | exact Has.head | apply Has.tail)) rfl, rfl, hS2.fr⟩
end Go.Proofs.YtaejmginhkbbhaaGreatDoor
