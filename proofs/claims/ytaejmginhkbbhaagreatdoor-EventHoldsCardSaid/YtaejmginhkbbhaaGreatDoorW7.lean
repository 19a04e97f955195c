/- The walks through package event, thirteenth part: a comment's bytes (F38, F120, F124). Conditions: as each contract says. -/
import Derived.Test.YtaejmginhkbbhaaGreatDoorW6
set_option linter.unusedSimpArgs false
set_option linter.unusedVariables false
set_option maxRecDepth 100000
set_option maxHeartbeats 1000000
namespace Go.Proofs.YtaejmginhkbbhaaGreatDoor
open Go Go.RowKit
theorem clear2_c (S : List Nat) (w0 W : World) (L L2 : List Chunk) (b : Nat) (x : Value) (hS : St S w0 W L) (hu : Upd L (row b 52 [x]) (row b 52 [.slice none 0 0]) L2) :
    Calls Tryz.prog 120 #[.pointer (some ⟨b, 0, none⟩)] W fun e W' => (∃ v, e = .returned v) ∧ St S w0 W' L2 := by
  go_enter Tryz.func120, Tryz.ntmps120
  go_wp2_with (first | ((with_reducible apply l_want); rfl) | ((with_reducible apply l_store); assumption; rfl; rfl; exact hu; rfl; clear hS; intro w hS) | ((with_reducible apply l_alloc); assumption; rfl; clear hS; intro b w hS) | ((with_reducible apply l_box); assumption; rfl; clear hS; intro b w hS) | ((with_reducible apply l_load); assumption; rfl; (repeat (first | exact Has.head | apply Has.tail)); (first | rfl | (simp [takeV]; done))) | ((with_reducible apply l_build); rfl; (simp [fillL, splice, Value.cells, Act.eval]; rfl)) | ((with_reducible apply l_buildA); rfl; (simp [fillL, splice, Value.cells, Act.eval]; rfl)) | ((with_reducible apply l_bslice); assumption; rfl; rfl; (first | (simp [fillL, splice, zeros, Value.cells, Act.eval]; rfl) | rfl); clear hS; intro b w hS) | ((with_reducible apply l_storeF); assumption; rfl; rfl; (repeat (first | exact Upd.head | apply Upd.tail)); rfl; clear hS; intro w hS) | ((with_reducible apply l_store); assumption; rfl; rfl; (repeat (first | exact Upd.head | apply Upd.tail)); rfl; clear hS; intro w hS; simp only [splice] at hS; try rw [splice_nil] at hS))
  go_end0
  exact ⟨⟨_, rfl⟩, hS⟩
/-- A comment's line. -/
noncomputable def comL (l : List UInt8) : List UInt8 := toldP ⟨2, [], 32 :: l⟩
theorem comline_c (w0 : World) (hG : Glob w0) (b : Nat) (l : List UInt8) (hl : l.length ≤ 65536) (hb : Rd w0 b 0 [txt l]) :
    Calls Tryz.prog 124 #[.pointer (some ⟨b, 0, none⟩)] w0 fun e w' => ∃ v, e = .returned v ∧ St [] w0 w' [own 9 1 v [comL l].length (sv [comL l])] := by
  have Hb := Lib.hid hb
  clear hb
  have ht := fun W (hW : Glob W) v hr => told_f W hW ⟨2, [], 32 :: l⟩ v (by simp [lineP]; omega) hr
  have Ht := Lib.hid ht
  clear ht
  go_enter Tryz.func124, Tryz.ntmps124
  have hS := St.start [] w0
  go_wp2_with (first | ((with_reducible apply l_want); rfl) | ((with_reducible apply l_read); rfl; exact Hb.out.fr hS.fr (by simp); rfl) | ((with_reducible apply l_cat (l := [32]) (m := l)); rfl; rfl; (simp; omega)) | (go_at_call 125; go_must (refine (Ht.out _ (hG.keep hS.fr) _ (RdS.of_row (hS.get (by exact Has.head)) 1 1 rfl (Nat.le_refl _))).mono ?_); rintro en w1 ⟨v, rfl, hT⟩) | ((with_reducible apply l_alloc); assumption; rfl; clear hS; intro b w hS) | ((with_reducible apply l_box); assumption; rfl; clear hS; intro b w hS) | ((with_reducible apply l_load); assumption; rfl; (repeat (first | exact Has.head | apply Has.tail)); (first | rfl | (simp [takeV]; done))) | ((with_reducible apply l_build); rfl; (simp [fillL, splice, Value.cells, Act.eval]; rfl)) | ((with_reducible apply l_buildA); rfl; (simp [fillL, splice, Value.cells, Act.eval]; rfl)) | ((with_reducible apply l_bslice); assumption; rfl; rfl; (first | (simp [fillL, splice, zeros, Value.cells, Act.eval]; rfl) | rfl); clear hS; intro b w hS) | ((with_reducible apply l_storeF); assumption; rfl; rfl; (repeat (first | exact Upd.head | apply Upd.tail)); rfl; clear hS; intro w hS) | ((with_reducible apply l_store); assumption; rfl; rfl; (repeat (first | exact Upd.head | apply Upd.tail)); rfl; clear hS; intro w hS; simp only [splice] at hS; try rw [splice_nil] at hS))
  go_ret
  exact ⟨_, rfl, (hS.join hT).sub (by (repeat (first | exact List.Sublist.slnil | exact List.Sublist.refl _ | apply List.Sublist.cons_cons | apply List.Sublist.cons)))⟩
theorem ascii4 : ∀ c ∈ ([13, 10] : List UInt8), c.toNat < 128 := by decide
theorem comment_y (w0 : World) (hG : Glob w0) (l : List UInt8) (hl : l.length ≤ 65536) (ht : textP [13, 10] l = true) (hlen : (bytesOf [comL l]).length ≤ 140737488355328) :
    Calls Tryz.prog 38 #[txt l] w0 fun en w' => ∃ v, en = .returned (.tuple #[v, .int .i64 0]) ∧ St [] w0 w' [rdS 1 v (bytesOf [comL l]).length (bv (bytesOf [comL l]))] := by
  have hd : decide ((l.length : Int) ≤ 65536) = true := by simp; omega
  have hj := fun W (hW : Glob W) b (hb : Rd W b 0 [txt l]) => joined_y W 124 #[] #[.pointer (some ⟨b, 0, none⟩)] [comL l] (enters_of Tryz.func124 (by kernel_rfl) rfl) (comline_c W hW b l hl hb) (by simp) hlen
  have Hj := Lib.hid hj
  have Ht := Lib.hid ht
  clear hj ht hlen
  go_enter_defers Tryz.func38, Tryz.ntmps38
  have hS := St.start [] w0
  have hmf : ∀ (fn : Fn) (first cap : Array Value) (w : World), (Instr.makeFunc fn first cap).run Tryz.prog w = .ok (.func fn first cap) w := fun _ _ _ _ => rfl
  go_wp2_with (first | ((with_reducible apply l_want); rfl) | ((with_reducible apply l_box); assumption; rfl; clear hS; intro bF w hS) | (go_at_call 121; go_must (refine (must_t _ _).mono ?_); rintro en w1 ⟨⟨v, rfl⟩, rfl⟩) | (go_at_call 122; go_must (refine (text_y _ l [13, 10] ascii4 (by omega) Ht.out).mono ?_); rintro en w1 ⟨⟨v, rfl⟩, hf1⟩; replace hS := hS.keep hf1) | (go_at_call 123; go_must (refine (Hj.out _ (hG.keep hS.fr) _ (hS.rd0 (by (repeat (first | exact Has.head | apply Has.tail))))).mono ?_); rintro en w1 ⟨v, rfl, hT⟩; replace hS := hS.join hT; obtain ⟨A, cp, rfl, hcp⟩ := (hT.get (c := rdS 1 v (bytesOf [comL l]).length (bv (bytesOf [comL l]))) (by exact Has.head)).shape; clear hT) | ((with_reducible apply l_alloc); assumption; rfl; clear hS; intro b w hS) | ((with_reducible apply l_box); assumption; rfl; clear hS; intro b w hS) | ((with_reducible apply l_load); assumption; rfl; (repeat (first | exact Has.head | apply Has.tail)); (first | rfl | (simp [takeV]; done))) | ((with_reducible apply l_build); rfl; (simp [fillL, splice, Value.cells, Act.eval]; rfl)) | ((with_reducible apply l_buildA); rfl; (simp [fillL, splice, Value.cells, Act.eval]; rfl)) | ((with_reducible apply l_bslice); assumption; rfl; rfl; (first | (simp [fillL, splice, zeros, Value.cells, Act.eval]; rfl) | rfl); clear hS; intro b w hS) | ((with_reducible apply l_storeF); assumption; rfl; rfl; (repeat (first | exact Upd.head | apply Upd.tail)); rfl; clear hS; intro w hS) | ((with_reducible apply l_store); assumption; rfl; rfl; (repeat (first | exact Upd.head | apply Upd.tail)); rfl; clear hS; intro w hS; simp only [splice] at hS; try rw [splice_nil] at hS))
  refine leaves_cons (f := 119) (args := #[_, _]) (by simp) (by simp [go_sem]; exact ⟨rfl, rfl⟩) ?_
  refine (caught_r _ _ _).mono ?_
  rintro e2 u' w'' ⟨rfl, rfl, rfl⟩
  exact ⟨_, results_c2 (k := 1) (k' := 1) (agg := false) (agg' := false) rfl hS rfl (by repeat (first | exact Has.head | apply Has.tail)) rfl rfl (by repeat (first | exact Has.head | apply Has.tail)) rfl, _, rfl, hS.sub (by (repeat (first | exact List.Sublist.slnil | exact List.Sublist.refl _ | apply List.Sublist.cons_cons | apply List.Sublist.cons)))⟩
end Go.Proofs.YtaejmginhkbbhaaGreatDoor
