/- The walks through package decimal, third part: a text's number (F243, F198, F129). Conditions: as each contract says. -/
import Derived.Test.YtaejmginhkbbhaaGreatDoorX2
import Derived.ScopeJumps
set_option linter.unusedSimpArgs false
set_option linter.unusedVariables false
set_option maxRecDepth 100000
set_option maxHeartbeats 1000000
namespace Go.Proofs.YtaejmginhkbbhaaGreatDoor
open Go Go.RowKit
theorem number_a (w0 : World) (l : List UInt8) (hl : l.length ≤ 1099511627776) (hd : (l.all digB && !(l == [])) = false) :
    Calls Tryz.prog 243 #[.agg ⟨[txt l, .int .i64 10]⟩] w0 fun e w' => e = .returned (.tuple #[.int .u64 0, .int .i64 110]) ∧ Fr [] w0 w' := by
  have Hd := Lib.hid hd
  clear hd
  go_enter Tryz.func243, Tryz.ntmps243
  have hS := St.start [] w0
  go_wp2_with (first | ((with_reducible apply l_want); rfl) | ((with_reducible apply l_box); assumption; rfl; clear hS; intro b0 w hS) | ((with_reducible apply l_alloc); assumption; rfl; clear hS; intro b w hS) | ((with_reducible apply l_box); assumption; rfl; clear hS; intro b w hS) | ((with_reducible apply l_load); assumption; rfl; (repeat (first | exact Has.head | apply Has.tail)); (first | rfl | (simp [takeV]; done))) | ((with_reducible apply l_build); rfl; (simp [fillL, splice, Value.cells, Act.eval]; rfl)) | ((with_reducible apply l_buildA); rfl; (simp [fillL, splice, Value.cells, Act.eval]; rfl)) | ((with_reducible apply l_bslice); assumption; rfl; rfl; (first | (simp [fillL, splice, zeros, Value.cells, Act.eval]; rfl) | rfl); clear hS; intro b w hS) | ((with_reducible apply l_storeF); assumption; rfl; rfl; (repeat (first | exact Upd.head | apply Upd.tail)); rfl; clear hS; intro w hS) | ((with_reducible apply l_store); assumption; rfl; rfl; (repeat (first | exact Upd.head | apply Upd.tail)); rfl; clear hS; intro w hS; simp only [splice] at hS; try rw [splice_nil] at hS))
  refine wp_scope_jumps 0 (fun a w => (∃ u0 u1 u2 u4 u5 u6 u7 u8 u9 u10 u11 u12 u13 u14 u15 u16 u17 u18 u19 u20 u21 u22 u23 u24 u25 u26 u27, a = (Act.mk ⟨[u0, u1, u2, .int .i64 110, u4, u5, u6, u7, u8, u9, u10, u11, u12, u13, u14, u15, u16, u17, u18, u19, u20, u21, u22, u23, u24, u25, u26, u27]⟩ [])) ∧ Fr [] w0 w) (fun _ _ => 0) rfl ?_ ?_
  rotate_left
  · rintro a w ⟨⟨u0, u1, u2, u4, u5, u6, u7, u8, u9, u10, u11, u12, u13, u14, u15, u16, u17, u18, u19, u20, u21, u22, u23, u24, u25, u26, u27, rfl⟩, hf⟩
    go_wp2_with (first | ((with_reducible apply l_want); rfl) | ((with_reducible apply l_alloc); assumption; rfl; clear hS; intro b w hS) | ((with_reducible apply l_box); assumption; rfl; clear hS; intro b w hS) | ((with_reducible apply l_load); assumption; rfl; (repeat (first | exact Has.head | apply Has.tail)); (first | rfl | (simp [takeV]; done))) | ((with_reducible apply l_build); rfl; (simp [fillL, splice, Value.cells, Act.eval]; rfl)) | ((with_reducible apply l_buildA); rfl; (simp [fillL, splice, Value.cells, Act.eval]; rfl)) | ((with_reducible apply l_bslice); assumption; rfl; rfl; (first | (simp [fillL, splice, zeros, Value.cells, Act.eval]; rfl) | rfl); clear hS; intro b w hS) | ((with_reducible apply l_storeF); assumption; rfl; rfl; (repeat (first | exact Upd.head | apply Upd.tail)); rfl; clear hS; intro w hS) | ((with_reducible apply l_store); assumption; rfl; rfl; (repeat (first | exact Upd.head | apply Upd.tail)); rfl; clear hS; intro w hS; simp only [splice] at hS; try rw [splice_nil] at hS))
    change bodyPost Tryz.prog Tryz.f243 (fun e w' => e = Ending.returned (Value.tuple #[.int .u64 0, Value.int IntKind.i64 110]) ∧ Fr [] w0 w') Exit.ret _ w
    go_ret2
    exact ⟨rfl, hf⟩
  have he : (ByteArray.mk #[48, 49, 50, 51, 52, 53, 54, 55, 56, 57, 97, 98, 99, 100, 101, 102]).extract 0 10 = ⟨digs10.toArray⟩ := extract_mk [48, 49, 50, 51, 52, 53, 54, 55, 56, 57, 97, 98, 99, 100, 101, 102] 0 10
  go_wp2_with (first | ((with_reducible apply l_want); rfl) | ((with_reducible apply l_alloc (t := 9)); assumption; rfl; clear hS; intro b1 w hS) | ((with_reducible apply l_alloc (t := 403)); assumption; rfl; clear hS; intro b2 w hS) | (go_at_call 293; go_must (refine (digits_c _ l 294 #[.pointer (some ⟨b2, 0, none⟩)] digB hl (enters_of Tryz.func294 (by kernel_rfl) rfl) ?hcall).mono ?_)) | ((with_reducible apply l_alloc); assumption; rfl; clear hS; intro b w hS) | ((with_reducible apply l_box); assumption; rfl; clear hS; intro b w hS) | ((with_reducible apply l_load); assumption; rfl; (repeat (first | exact Has.head | apply Has.tail)); (first | rfl | (simp [takeV]; done))) | ((with_reducible apply l_build); rfl; (simp [fillL, splice, Value.cells, Act.eval]; rfl)) | ((with_reducible apply l_buildA); rfl; (simp [fillL, splice, Value.cells, Act.eval]; rfl)) | ((with_reducible apply l_bslice); assumption; rfl; rfl; (first | (simp [fillL, splice, zeros, Value.cells, Act.eval]; rfl) | rfl); clear hS; intro b w hS) | ((with_reducible apply l_storeF); assumption; rfl; rfl; (repeat (first | exact Upd.head | apply Upd.tail)); rfl; clear hS; intro w hS) | ((with_reducible apply l_store); assumption; rfl; rfl; (repeat (first | exact Upd.head | apply Upd.tail)); rfl; clear hS; intro w hS; simp only [splice] at hS; try rw [splice_nil] at hS))
  case hcall =>
    exact fun c W hf => (is_c W b0 b1 b2 l c ((hS.rd0 (by exact Has.head.tail.tail)).fr hf (by simp)) ((hS.rd0 (by exact Has.head.tail)).fr hf (by simp)) ((hS.rd0 (by exact Has.head)).fr hf (by simp))).mono (fun e w' h => ⟨h.1, by rw [h.2]; exact Fr.refl _ _⟩)
  rw [Hd.out]
  rintro en w1 ⟨rfl, hf1⟩
  replace hS := hS.keep hf1
  go_wp2_with (first | ((with_reducible apply l_want); rfl) | ((with_reducible apply l_alloc); assumption; rfl; clear hS; intro b w hS) | ((with_reducible apply l_box); assumption; rfl; clear hS; intro b w hS) | ((with_reducible apply l_load); assumption; rfl; (repeat (first | exact Has.head | apply Has.tail)); (first | rfl | (simp [takeV]; done))) | ((with_reducible apply l_build); rfl; (simp [fillL, splice, Value.cells, Act.eval]; rfl)) | ((with_reducible apply l_buildA); rfl; (simp [fillL, splice, Value.cells, Act.eval]; rfl)) | ((with_reducible apply l_bslice); assumption; rfl; rfl; (first | (simp [fillL, splice, zeros, Value.cells, Act.eval]; rfl) | rfl); clear hS; intro b w hS) | ((with_reducible apply l_storeF); assumption; rfl; rfl; (repeat (first | exact Upd.head | apply Upd.tail)); rfl; clear hS; intro w hS) | ((with_reducible apply l_store); assumption; rfl; rfl; (repeat (first | exact Upd.head | apply Upd.tail)); rfl; clear hS; intro w hS; simp only [splice] at hS; try rw [splice_nil] at hS))
  refine wp_goto ?_
  exact ⟨rfl, ⟨_, _, _, _, _, _, _, _, _, _, _, _, _, _, _, _, _, _, _, _, _, _, _, _, _, _, _, rfl⟩, hS.fr⟩
theorem number_b (w0 : World) (l : List UInt8) (hl : l.length ≤ 1099511627776) (hd : (l.all digB && !(l == [])) = true) (hf : foldD 0 l = none) :
    Calls Tryz.prog 243 #[.agg ⟨[txt l, .int .i64 10]⟩] w0 fun e w' => e = .returned (.tuple #[.int .u64 0, .int .i64 111]) ∧ Fr [] w0 w' := by
  have hall : l.all digB = true := by
    simp only [Bool.and_eq_true] at hd
    exact hd.1
  have Hd := Lib.hid hd
  have Hf := Lib.hid hf
  clear hd hf
  go_enter Tryz.func243, Tryz.ntmps243
  have hS := St.start [] w0
  go_wp2_with (first | ((with_reducible apply l_want); rfl) | ((with_reducible apply l_box); assumption; rfl; clear hS; intro b0 w hS) | ((with_reducible apply l_alloc); assumption; rfl; clear hS; intro b w hS) | ((with_reducible apply l_box); assumption; rfl; clear hS; intro b w hS) | ((with_reducible apply l_load); assumption; rfl; (repeat (first | exact Has.head | apply Has.tail)); (first | rfl | (simp [takeV]; done))) | ((with_reducible apply l_build); rfl; (simp [fillL, splice, Value.cells, Act.eval]; rfl)) | ((with_reducible apply l_buildA); rfl; (simp [fillL, splice, Value.cells, Act.eval]; rfl)) | ((with_reducible apply l_bslice); assumption; rfl; rfl; (first | (simp [fillL, splice, zeros, Value.cells, Act.eval]; rfl) | rfl); clear hS; intro b w hS) | ((with_reducible apply l_storeF); assumption; rfl; rfl; (repeat (first | exact Upd.head | apply Upd.tail)); rfl; clear hS; intro w hS) | ((with_reducible apply l_store); assumption; rfl; rfl; (repeat (first | exact Upd.head | apply Upd.tail)); rfl; clear hS; intro w hS; simp only [splice] at hS; try rw [splice_nil] at hS))
  refine wp_scope_jumps 0 (fun a w => (∃ u0 u1 u2 u4 u5 u6 u7 u8 u9 u10 u11 u12 u13 u14 u15 u16 u17 u18 u19 u20 u21 u22 u23 u24 u25 u26 u27, a = (Act.mk ⟨[u0, u1, u2, .int .i64 111, u4, u5, u6, u7, u8, u9, u10, u11, u12, u13, u14, u15, u16, u17, u18, u19, u20, u21, u22, u23, u24, u25, u26, u27]⟩ [])) ∧ Fr [] w0 w) (fun _ _ => 0) rfl ?_ ?_
  rotate_left
  · rintro a w ⟨⟨u0, u1, u2, u4, u5, u6, u7, u8, u9, u10, u11, u12, u13, u14, u15, u16, u17, u18, u19, u20, u21, u22, u23, u24, u25, u26, u27, rfl⟩, hf⟩
    go_wp2_with (first | ((with_reducible apply l_want); rfl) | ((with_reducible apply l_alloc); assumption; rfl; clear hS; intro b w hS) | ((with_reducible apply l_box); assumption; rfl; clear hS; intro b w hS) | ((with_reducible apply l_load); assumption; rfl; (repeat (first | exact Has.head | apply Has.tail)); (first | rfl | (simp [takeV]; done))) | ((with_reducible apply l_build); rfl; (simp [fillL, splice, Value.cells, Act.eval]; rfl)) | ((with_reducible apply l_buildA); rfl; (simp [fillL, splice, Value.cells, Act.eval]; rfl)) | ((with_reducible apply l_bslice); assumption; rfl; rfl; (first | (simp [fillL, splice, zeros, Value.cells, Act.eval]; rfl) | rfl); clear hS; intro b w hS) | ((with_reducible apply l_storeF); assumption; rfl; rfl; (repeat (first | exact Upd.head | apply Upd.tail)); rfl; clear hS; intro w hS) | ((with_reducible apply l_store); assumption; rfl; rfl; (repeat (first | exact Upd.head | apply Upd.tail)); rfl; clear hS; intro w hS; simp only [splice] at hS; try rw [splice_nil] at hS))
    change bodyPost Tryz.prog Tryz.f243 (fun e w' => e = Ending.returned (Value.tuple #[.int .u64 0, Value.int IntKind.i64 111]) ∧ Fr [] w0 w') Exit.ret _ w
    go_ret2
    exact ⟨rfl, hf⟩
  have he : (ByteArray.mk #[48, 49, 50, 51, 52, 53, 54, 55, 56, 57, 97, 98, 99, 100, 101, 102]).extract 0 10 = ⟨digs10.toArray⟩ := extract_mk [48, 49, 50, 51, 52, 53, 54, 55, 56, 57, 97, 98, 99, 100, 101, 102] 0 10
  go_wp2_with (first | ((with_reducible apply l_want); rfl) | ((with_reducible apply l_alloc (t := 9)); assumption; rfl; clear hS; intro b1 w hS) | ((with_reducible apply l_alloc (t := 403)); assumption; rfl; clear hS; intro b2 w hS) | (go_at_call 293; go_must (refine (digits_c _ l 294 #[.pointer (some ⟨b2, 0, none⟩)] digB hl (enters_of Tryz.func294 (by kernel_rfl) rfl) ?hcall).mono ?_)) | ((with_reducible apply l_alloc); assumption; rfl; clear hS; intro b w hS) | ((with_reducible apply l_box); assumption; rfl; clear hS; intro b w hS) | ((with_reducible apply l_load); assumption; rfl; (repeat (first | exact Has.head | apply Has.tail)); (first | rfl | (simp [takeV]; done))) | ((with_reducible apply l_build); rfl; (simp [fillL, splice, Value.cells, Act.eval]; rfl)) | ((with_reducible apply l_buildA); rfl; (simp [fillL, splice, Value.cells, Act.eval]; rfl)) | ((with_reducible apply l_bslice); assumption; rfl; rfl; (first | (simp [fillL, splice, zeros, Value.cells, Act.eval]; rfl) | rfl); clear hS; intro b w hS) | ((with_reducible apply l_storeF); assumption; rfl; rfl; (repeat (first | exact Upd.head | apply Upd.tail)); rfl; clear hS; intro w hS) | ((with_reducible apply l_store); assumption; rfl; rfl; (repeat (first | exact Upd.head | apply Upd.tail)); rfl; clear hS; intro w hS; simp only [splice] at hS; try rw [splice_nil] at hS))
  case hcall =>
    exact fun c W hf => (is_c W b0 b1 b2 l c ((hS.rd0 (by exact Has.head.tail.tail)).fr hf (by simp)) ((hS.rd0 (by exact Has.head.tail)).fr hf (by simp)) ((hS.rd0 (by exact Has.head)).fr hf (by simp))).mono (fun e w' h => ⟨h.1, by rw [h.2]; exact Fr.refl _ _⟩)
  rw [Hd.out]
  rintro en w1 ⟨rfl, hf1⟩
  replace hS := hS.keep hf1
  go_wp2_with (first | ((with_reducible apply l_want); rfl) | ((with_reducible apply l_s2b); assumption; rfl; clear hS; intro v w hS) | ((with_reducible apply l_alloc); assumption; rfl; clear hS; intro b w hS) | ((with_reducible apply l_box); assumption; rfl; clear hS; intro b w hS) | ((with_reducible apply l_load); assumption; rfl; (repeat (first | exact Has.head | apply Has.tail)); (first | rfl | (simp [takeV]; done))) | ((with_reducible apply l_build); rfl; (simp [fillL, splice, Value.cells, Act.eval]; rfl)) | ((with_reducible apply l_buildA); rfl; (simp [fillL, splice, Value.cells, Act.eval]; rfl)) | ((with_reducible apply l_bslice); assumption; rfl; rfl; (first | (simp [fillL, splice, zeros, Value.cells, Act.eval]; rfl) | rfl); clear hS; intro b w hS) | ((with_reducible apply l_storeF); assumption; rfl; rfl; (repeat (first | exact Upd.head | apply Upd.tail)); rfl; clear hS; intro w hS) | ((with_reducible apply l_store); assumption; rfl; rfl; (repeat (first | exact Upd.head | apply Upd.tail)); rfl; clear hS; intro w hS; simp only [splice] at hS; try rw [splice_nil] at hS))
  refine (folded_c _ l v 296 #[.pointer (some ⟨b0, 0, none⟩), .pointer (some ⟨b2, 0, none⟩)] hl hall (hS.get (by exact Has.head)) (enters_of Tryz.func296 (by kernel_rfl) rfl) (fun n c W hn hc hf => (more_c W b0 b1 b2 l n c hn hc ((hS.rd0 (by exact Has.head.tail.tail.tail)).fr hf (by simp)) ((hS.rd0 (by exact Has.head.tail.tail)).fr hf (by simp)) ((hS.rd0 (by exact Has.head.tail)).fr hf (by simp))).mono (fun e w' h => ⟨h.1, by rw [h.2]; exact Fr.refl _ _⟩))).mono ?_
  rw [Hf.out]
  rintro en w1 ⟨rfl, hf1⟩
  replace hS := hS.keep hf1
  go_wp2_with (first | ((with_reducible apply l_want); rfl) | ((with_reducible apply l_alloc); assumption; rfl; clear hS; intro b w hS) | ((with_reducible apply l_box); assumption; rfl; clear hS; intro b w hS) | ((with_reducible apply l_load); assumption; rfl; (repeat (first | exact Has.head | apply Has.tail)); (first | rfl | (simp [takeV]; done))) | ((with_reducible apply l_build); rfl; (simp [fillL, splice, Value.cells, Act.eval]; rfl)) | ((with_reducible apply l_buildA); rfl; (simp [fillL, splice, Value.cells, Act.eval]; rfl)) | ((with_reducible apply l_bslice); assumption; rfl; rfl; (first | (simp [fillL, splice, zeros, Value.cells, Act.eval]; rfl) | rfl); clear hS; intro b w hS) | ((with_reducible apply l_storeF); assumption; rfl; rfl; (repeat (first | exact Upd.head | apply Upd.tail)); rfl; clear hS; intro w hS) | ((with_reducible apply l_store); assumption; rfl; rfl; (repeat (first | exact Upd.head | apply Upd.tail)); rfl; clear hS; intro w hS; simp only [splice] at hS; try rw [splice_nil] at hS))
  refine wp_goto ?_
  exact ⟨rfl, ⟨_, _, _, _, _, _, _, _, _, _, _, _, _, _, _, _, _, _, _, _, _, _, _, _, _, _, _, rfl⟩, hS.fr⟩
theorem number_s (w0 : World) (l : List UInt8) (m : Nat) (hl : l.length ≤ 1099511627776) (hd : (l.all digB && !(l == [])) = true) (hf : foldD 0 l = some m) :
    Calls Tryz.prog 243 #[.agg ⟨[txt l, .int .i64 10]⟩] w0 fun e w' => e = .returned (.tuple #[.int .u64 (m : Int), .int .i64 0]) ∧ Fr [] w0 w' := by
  have hall : l.all digB = true := by
    simp only [Bool.and_eq_true] at hd
    exact hd.1
  have Hd := Lib.hid hd
  have Hf := Lib.hid hf
  clear hd hf
  go_enter Tryz.func243, Tryz.ntmps243
  have hS := St.start [] w0
  go_wp2_with (first | ((with_reducible apply l_want); rfl) | ((with_reducible apply l_box); assumption; rfl; clear hS; intro b0 w hS) | ((with_reducible apply l_alloc); assumption; rfl; clear hS; intro b w hS) | ((with_reducible apply l_box); assumption; rfl; clear hS; intro b w hS) | ((with_reducible apply l_load); assumption; rfl; (repeat (first | exact Has.head | apply Has.tail)); (first | rfl | (simp [takeV]; done))) | ((with_reducible apply l_build); rfl; (simp [fillL, splice, Value.cells, Act.eval]; rfl)) | ((with_reducible apply l_buildA); rfl; (simp [fillL, splice, Value.cells, Act.eval]; rfl)) | ((with_reducible apply l_bslice); assumption; rfl; rfl; (first | (simp [fillL, splice, zeros, Value.cells, Act.eval]; rfl) | rfl); clear hS; intro b w hS) | ((with_reducible apply l_storeF); assumption; rfl; rfl; (repeat (first | exact Upd.head | apply Upd.tail)); rfl; clear hS; intro w hS) | ((with_reducible apply l_store); assumption; rfl; rfl; (repeat (first | exact Upd.head | apply Upd.tail)); rfl; clear hS; intro w hS; simp only [splice] at hS; try rw [splice_nil] at hS))
  refine wp_scope_jumps 0 (fun _ _ => False) (fun _ _ => 0) rfl ?_ ?_
  rotate_left
  · intro a w h
    exact h.elim
  have he : (ByteArray.mk #[48, 49, 50, 51, 52, 53, 54, 55, 56, 57, 97, 98, 99, 100, 101, 102]).extract 0 10 = ⟨digs10.toArray⟩ := extract_mk [48, 49, 50, 51, 52, 53, 54, 55, 56, 57, 97, 98, 99, 100, 101, 102] 0 10
  go_wp2_with (first | ((with_reducible apply l_want); rfl) | ((with_reducible apply l_alloc (t := 9)); assumption; rfl; clear hS; intro b1 w hS) | ((with_reducible apply l_alloc (t := 403)); assumption; rfl; clear hS; intro b2 w hS) | (go_at_call 293; go_must (refine (digits_c _ l 294 #[.pointer (some ⟨b2, 0, none⟩)] digB hl (enters_of Tryz.func294 (by kernel_rfl) rfl) ?hcall).mono ?_)) | ((with_reducible apply l_alloc); assumption; rfl; clear hS; intro b w hS) | ((with_reducible apply l_box); assumption; rfl; clear hS; intro b w hS) | ((with_reducible apply l_load); assumption; rfl; (repeat (first | exact Has.head | apply Has.tail)); (first | rfl | (simp [takeV]; done))) | ((with_reducible apply l_build); rfl; (simp [fillL, splice, Value.cells, Act.eval]; rfl)) | ((with_reducible apply l_buildA); rfl; (simp [fillL, splice, Value.cells, Act.eval]; rfl)) | ((with_reducible apply l_bslice); assumption; rfl; rfl; (first | (simp [fillL, splice, zeros, Value.cells, Act.eval]; rfl) | rfl); clear hS; intro b w hS) | ((with_reducible apply l_storeF); assumption; rfl; rfl; (repeat (first | exact Upd.head | apply Upd.tail)); rfl; clear hS; intro w hS) | ((with_reducible apply l_store); assumption; rfl; rfl; (repeat (first | exact Upd.head | apply Upd.tail)); rfl; clear hS; intro w hS; simp only [splice] at hS; try rw [splice_nil] at hS))
  case hcall =>
    exact fun c W hf => (is_c W b0 b1 b2 l c ((hS.rd0 (by exact Has.head.tail.tail)).fr hf (by simp)) ((hS.rd0 (by exact Has.head.tail)).fr hf (by simp)) ((hS.rd0 (by exact Has.head)).fr hf (by simp))).mono (fun e w' h => ⟨h.1, by rw [h.2]; exact Fr.refl _ _⟩)
  rw [Hd.out]
  rintro en w1 ⟨rfl, hf1⟩
  replace hS := hS.keep hf1
  go_wp2_with (first | ((with_reducible apply l_want); rfl) | ((with_reducible apply l_s2b); assumption; rfl; clear hS; intro v w hS) | ((with_reducible apply l_alloc); assumption; rfl; clear hS; intro b w hS) | ((with_reducible apply l_box); assumption; rfl; clear hS; intro b w hS) | ((with_reducible apply l_load); assumption; rfl; (repeat (first | exact Has.head | apply Has.tail)); (first | rfl | (simp [takeV]; done))) | ((with_reducible apply l_build); rfl; (simp [fillL, splice, Value.cells, Act.eval]; rfl)) | ((with_reducible apply l_buildA); rfl; (simp [fillL, splice, Value.cells, Act.eval]; rfl)) | ((with_reducible apply l_bslice); assumption; rfl; rfl; (first | (simp [fillL, splice, zeros, Value.cells, Act.eval]; rfl) | rfl); clear hS; intro b w hS) | ((with_reducible apply l_storeF); assumption; rfl; rfl; (repeat (first | exact Upd.head | apply Upd.tail)); rfl; clear hS; intro w hS) | ((with_reducible apply l_store); assumption; rfl; rfl; (repeat (first | exact Upd.head | apply Upd.tail)); rfl; clear hS; intro w hS; simp only [splice] at hS; try rw [splice_nil] at hS))
  refine (folded_c _ l v 296 #[.pointer (some ⟨b0, 0, none⟩), .pointer (some ⟨b2, 0, none⟩)] hl hall (hS.get (by exact Has.head)) (enters_of Tryz.func296 (by kernel_rfl) rfl) (fun n c W hn hc hf => (more_c W b0 b1 b2 l n c hn hc ((hS.rd0 (by exact Has.head.tail.tail.tail)).fr hf (by simp)) ((hS.rd0 (by exact Has.head.tail.tail)).fr hf (by simp)) ((hS.rd0 (by exact Has.head.tail)).fr hf (by simp))).mono (fun e w' h => ⟨h.1, by rw [h.2]; exact Fr.refl _ _⟩))).mono ?_
  rw [Hf.out]
  rintro en w1 ⟨rfl, hf1⟩
  replace hS := hS.keep hf1
  go_wp2_with (first | ((with_reducible apply l_want); rfl) | ((with_reducible apply l_alloc); assumption; rfl; clear hS; intro b w hS) | ((with_reducible apply l_box); assumption; rfl; clear hS; intro b w hS) | ((with_reducible apply l_load); assumption; rfl; (repeat (first | exact Has.head | apply Has.tail)); (first | rfl | (simp [takeV]; done))) | ((with_reducible apply l_build); rfl; (simp [fillL, splice, Value.cells, Act.eval]; rfl)) | ((with_reducible apply l_buildA); rfl; (simp [fillL, splice, Value.cells, Act.eval]; rfl)) | ((with_reducible apply l_bslice); assumption; rfl; rfl; (first | (simp [fillL, splice, zeros, Value.cells, Act.eval]; rfl) | rfl); clear hS; intro b w hS) | ((with_reducible apply l_storeF); assumption; rfl; rfl; (repeat (first | exact Upd.head | apply Upd.tail)); rfl; clear hS; intro w hS) | ((with_reducible apply l_store); assumption; rfl; rfl; (repeat (first | exact Upd.head | apply Upd.tail)); rfl; clear hS; intro w hS; simp only [splice] at hS; try rw [splice_nil] at hS))
  change bodyPost Tryz.prog Tryz.f243 (fun e w' => e = Ending.returned (.tuple #[.int .u64 (m : Int), .int .i64 0]) ∧ Fr [] w0 w') Exit.ret _ _
  go_ret2
  exact ⟨rfl, hS.fr⟩
/-- What digits say. -/
theorem number_c (w0 : World) (l : List UInt8) (hl : l.length ≤ 1099511627776) :
    Calls Tryz.prog 243 #[.agg ⟨[txt l, .int .i64 10]⟩] w0 fun e w' => e = .returned (.tuple #[.int .u64 ((digitsP l).1 : Int), .int .i64 (digitsP l).2]) ∧ Fr [] w0 w' := by
  unfold digitsP
  cases hd : (l.all digB && !(l == [])) with
  | false =>
    rw [if_pos (by simp only [Bool.and_eq_false_iff, Bool.not_eq_false', beq_iff_eq] at hd; exact hd.symm)]
    exact number_a w0 l hl hd
  | true =>
    rw [if_neg (by simp only [Bool.and_eq_true, Bool.not_eq_true', beq_eq_false_iff_ne] at hd; simp [hd.1, hd.2])]
    cases hf : foldD 0 l with
    | none => exact number_b w0 l hl hd hf
    | some m => exact number_s w0 l m hl hd hf
theorem digits_u (w0 : World) (l : List UInt8) (hl : l.length ≤ 1099511627776) :
    Calls Tryz.prog 198 #[txt l] w0 fun e w' => e = .returned (.tuple #[.int .u64 ((digitsP l).1 : Int), .int .i64 (digitsP l).2]) ∧ Fr [] w0 w' := by
  obtain ⟨n, hn⟩ : ∃ n, n = (digitsP l).1 := ⟨_, rfl⟩
  obtain ⟨e, he⟩ : ∃ e, e = (digitsP l).2 := ⟨_, rfl⟩
  have h := fun W => number_c W l hl
  rw [← hn, ← he] at h
  rw [← hn, ← he]
  have H := Lib.hid h
  clear h hn he
  go_enter Tryz.func198, Tryz.ntmps198
  have hS := St.start [] w0
  go_wp2_with (first | ((with_reducible apply l_want); rfl) | (go_at_call 196; go_must (refine (bases_c _).mono ?_); rintro en w1 ⟨rfl, hf1⟩; replace hS := hS.keep hf1) | ((with_reducible apply l_index (i := 0)); rfl; rfl; decide; rfl) | (go_at_call 243; go_must (refine (H.out _).mono ?_); rintro en w1 ⟨rfl, hf1⟩; replace hS := hS.keep hf1) | ((with_reducible apply l_alloc); assumption; rfl; clear hS; intro b w hS) | ((with_reducible apply l_box); assumption; rfl; clear hS; intro b w hS) | ((with_reducible apply l_load); assumption; rfl; (repeat (first | exact Has.head | apply Has.tail)); (first | rfl | (simp [takeV]; done))) | ((with_reducible apply l_build); rfl; (simp [fillL, splice, Value.cells, Act.eval]; rfl)) | ((with_reducible apply l_buildA); rfl; (simp [fillL, splice, Value.cells, Act.eval]; rfl)) | ((with_reducible apply l_bslice); assumption; rfl; rfl; (first | (simp [fillL, splice, zeros, Value.cells, Act.eval]; rfl) | rfl); clear hS; intro b w hS) | ((with_reducible apply l_storeF); assumption; rfl; rfl; (repeat (first | exact Upd.head | apply Upd.tail)); rfl; clear hS; intro w hS) | ((with_reducible apply l_store); assumption; rfl; rfl; (repeat (first | exact Upd.head | apply Upd.tail)); rfl; clear hS; intro w hS; simp only [splice] at hS; try rw [splice_nil] at hS))
  go_ret2
  exact ⟨rfl, hS.fr⟩
/-- What a number's text says. -/
theorem parse_c (w0 : World) (l : List UInt8) (hl : l.length ≤ 1099511627776) :
    Calls Tryz.prog 129 #[txt l] w0 fun e w' => e = .returned (.tuple #[.int .u64 ((parseP l).1 : Int), .int .i64 (parseP l).2]) ∧ Fr [] w0 w' := by
  unfold parseP
  obtain ⟨n, hn⟩ : ∃ n, n = (digitsP l).1 := ⟨_, rfl⟩
  obtain ⟨e, he⟩ : ∃ e, e = (digitsP l).2 := ⟨_, rfl⟩
  have h := fun W => digits_u W l hl
  rw [← hn, ← he] at h
  have H := Lib.hid h
  by_cases hz : 1 < l.length ∧ l.head? = some 48
  · rw [if_pos hz]
    obtain ⟨c, r, rfl⟩ : ∃ c r, l = c :: r := by
      cases l with
      | nil => simp at hz
      | cons c r => exact ⟨c, r, rfl⟩
    obtain rfl : c = 48 := by simpa using hz.2
    have hz1 := hz.1
    have hp : (1 : Int) < (r.length : Int) + 1 := by simp only [List.length_cons] at hz1; omega
    have hg0 : ∀ h, (ByteArray.mk (48 :: r).toArray)[0]'h = 48 := fun h => rfl
    clear h hn he hz
    go_enter Tryz.func129, Tryz.ntmps129
    have hS := St.start [] w0
    go_wp2_with (first | ((with_reducible apply l_want); rfl) | (go_at_call 198; go_must (refine (H.out _).mono ?_); rintro en w1 ⟨rfl, hf1⟩; replace hS := hS.keep hf1) | ((with_reducible apply l_alloc); assumption; rfl; clear hS; intro b w hS) | ((with_reducible apply l_box); assumption; rfl; clear hS; intro b w hS) | ((with_reducible apply l_load); assumption; rfl; (repeat (first | exact Has.head | apply Has.tail)); (first | rfl | (simp [takeV]; done))) | ((with_reducible apply l_build); rfl; (simp [fillL, splice, Value.cells, Act.eval]; rfl)) | ((with_reducible apply l_buildA); rfl; (simp [fillL, splice, Value.cells, Act.eval]; rfl)) | ((with_reducible apply l_bslice); assumption; rfl; rfl; (first | (simp [fillL, splice, zeros, Value.cells, Act.eval]; rfl) | rfl); clear hS; intro b w hS) | ((with_reducible apply l_storeF); assumption; rfl; rfl; (repeat (first | exact Upd.head | apply Upd.tail)); rfl; clear hS; intro w hS) | ((with_reducible apply l_store); assumption; rfl; rfl; (repeat (first | exact Upd.head | apply Upd.tail)); rfl; clear hS; intro w hS; simp only [splice] at hS; try rw [splice_nil] at hS))
    trace_state
    go_ret2
    exact ⟨rfl, hS.fr⟩
  · rw [if_neg hz, ← hn, ← he]
    clear h hn he
    by_cases h1 : 1 < l.length
    · obtain ⟨c, r, rfl⟩ : ∃ c r, l = c :: r := by
        cases l with
        | nil => simp at h1
        | cons c r => exact ⟨c, r, rfl⟩
      have hc : ¬ (c.toNat : Int) = 48 := by
        intro h2
        refine hz ⟨h1, ?_⟩
        have : c = 48 := by
          apply UInt8.toNat_inj.1
          have e : (48 : UInt8).toNat = 48 := rfl
          omega
        simp [this]
      have hp : (1 : Int) < (r.length : Int) + 1 := by simp only [List.length_cons] at h1; omega
      have hg0 : ∀ h, (ByteArray.mk (c :: r).toArray)[0]'h = c := fun h => rfl
      have hc2 : ((c.toNat : Int) == 48) = false := by simpa using hc
      clear hz
      go_enter Tryz.func129, Tryz.ntmps129
      have hS := St.start [] w0
      go_wp2_with (first | ((with_reducible apply l_want); rfl) | (go_at_call 198; go_must (refine (H.out _).mono ?_); rintro en w1 ⟨rfl, hf1⟩; replace hS := hS.keep hf1) | ((with_reducible apply l_alloc); assumption; rfl; clear hS; intro b w hS) | ((with_reducible apply l_box); assumption; rfl; clear hS; intro b w hS) | ((with_reducible apply l_load); assumption; rfl; (repeat (first | exact Has.head | apply Has.tail)); (first | rfl | (simp [takeV]; done))) | ((with_reducible apply l_build); rfl; (simp [fillL, splice, Value.cells, Act.eval]; rfl)) | ((with_reducible apply l_buildA); rfl; (simp [fillL, splice, Value.cells, Act.eval]; rfl)) | ((with_reducible apply l_bslice); assumption; rfl; rfl; (first | (simp [fillL, splice, zeros, Value.cells, Act.eval]; rfl) | rfl); clear hS; intro b w hS) | ((with_reducible apply l_storeF); assumption; rfl; rfl; (repeat (first | exact Upd.head | apply Upd.tail)); rfl; clear hS; intro w hS) | ((with_reducible apply l_store); assumption; rfl; rfl; (repeat (first | exact Upd.head | apply Upd.tail)); rfl; clear hS; intro w hS; simp only [splice] at hS; try rw [splice_nil] at hS))
      trace_state
      go_ret2
      exact ⟨rfl, hS.fr⟩
    · have hp : ¬ (1 : Int) < (l.length : Int) := by omega
      clear hz
      go_enter Tryz.func129, Tryz.ntmps129
      have hS := St.start [] w0
      go_wp2_with (first | ((with_reducible apply l_want); rfl) | (go_at_call 198; go_must (refine (H.out _).mono ?_); rintro en w1 ⟨rfl, hf1⟩; replace hS := hS.keep hf1) | ((with_reducible apply l_alloc); assumption; rfl; clear hS; intro b w hS) | ((with_reducible apply l_box); assumption; rfl; clear hS; intro b w hS) | ((with_reducible apply l_load); assumption; rfl; (repeat (first | exact Has.head | apply Has.tail)); (first | rfl | (simp [takeV]; done))) | ((with_reducible apply l_build); rfl; (simp [fillL, splice, Value.cells, Act.eval]; rfl)) | ((with_reducible apply l_buildA); rfl; (simp [fillL, splice, Value.cells, Act.eval]; rfl)) | ((with_reducible apply l_bslice); assumption; rfl; rfl; (first | (simp [fillL, splice, zeros, Value.cells, Act.eval]; rfl) | rfl); clear hS; intro b w hS) | ((with_reducible apply l_storeF); assumption; rfl; rfl; (repeat (first | exact Upd.head | apply Upd.tail)); rfl; clear hS; intro w hS) | ((with_reducible apply l_store); assumption; rfl; rfl; (repeat (first | exact Upd.head | apply Upd.tail)); rfl; clear hS; intro w hS; simp only [splice] at hS; try rw [splice_nil] at hS))
      trace_state
      go_ret2
      exact ⟨rfl, hS.fr⟩
end Go.Proofs.YtaejmginhkbbhaaGreatDoor
