/- The walks through package decimal, second part: a text's number (F291, F292, F294, F296, F243, F198, F129). Conditions: as each contract says. -/
import Derived.Test.YtaejmginhkbbhaaGreatDoorX1
import Derived.Test.YtaejmginhkbbhaaGreatDoorXA
set_option linter.unusedSimpArgs false
set_option linter.unusedVariables false
set_option maxRecDepth 100000
set_option maxHeartbeats 1000000
namespace Go.Proofs.YtaejmginhkbbhaaGreatDoor
open Go Go.RowKit
def digs10 : List UInt8 := [48, 49, 50, 51, 52, 53, 54, 55, 56, 57]
def valP (c : UInt8) : Int := if digB c = true then ((c.toNat - 48 : Nat) : Int) else -1
theorem idx_fin : ∀ c : Fin 256, Lib.indexByte digs10 (UInt8.ofNat c.val) = valP (UInt8.ofNat c.val) := by decide +kernel
theorem idx_eq (c : UInt8) : Lib.indexByte digs10 c = valP c := by
  have h := idx_fin ⟨c.toNat, c.toNat_lt⟩
  simpa using h
theorem indexByte_c (w0 : World) (c : UInt8) : Calls Tryz.prog 292 #[txt digs10, .int .u8 (c.toNat : Int)] w0 fun e w' => e = .returned (.int .i64 (valP c)) ∧ w' = w0 := by
  refine (Tryz.strings_IndexByte ⟨digs10.toArray⟩ (c.toNat : Int) w0).mono ?_
  rintro e w' ⟨rfl, rfl⟩
  refine ⟨?_, rfl⟩
  have h1 : ((c.toNat : Int)).toNat.toUInt8 = c := by simp
  rw [h1]
  have h2 : (ByteArray.mk digs10.toArray).data.toList = digs10 := by simp
  rw [h2, idx_eq]
/-- A digit's value. -/
theorem value_c (w0 : World) (b1 bk : Nat) (l : List UInt8) (c : UInt8) (h1 : Rd w0 b1 0 [txt l, .int .i64 10]) (hk : Rd w0 bk 0 [txt digs10]) :
    Calls Tryz.prog 291 #[.int .u8 (c.toNat : Int), .pointer (some ⟨b1, 0, none⟩), .pointer (some ⟨bk, 0, none⟩)] w0 fun e w' => e = .returned (.int .i64 (valP c)) ∧ w' = w0 := by
  have H1 := Lib.hid h1
  have Hk := Lib.hid hk
  have H2 : Hid (Rd w0 b1 1 [.int .i64 10]) := Lib.hid (by have := h1.drop 1; exact this)
  clear h1 hk
  go_enter Tryz.func291, Tryz.ntmps291
  go_wp2_with (first | ((with_reducible apply l_want); rfl) | ((with_reducible apply l_read); rfl; exact H2.out; rfl) | ((with_reducible apply l_read); rfl; exact Hk.out; rfl) | (go_at_call 292; go_must (refine (indexByte_c _ c).mono ?_); rintro en w1 ⟨rfl, rfl⟩) | ((with_reducible apply l_alloc); assumption; rfl; clear hS; intro b w hS) | ((with_reducible apply l_box); assumption; rfl; clear hS; intro b w hS) | ((with_reducible apply l_load); assumption; rfl; (repeat (first | exact Has.head | apply Has.tail)); (first | rfl | (simp [takeV]; done))) | ((with_reducible apply l_build); rfl; (simp [fillL, splice, Value.cells, Act.eval]; rfl)) | ((with_reducible apply l_buildA); rfl; (simp [fillL, splice, Value.cells, Act.eval]; rfl)) | ((with_reducible apply l_bslice); assumption; rfl; rfl; (first | (simp [fillL, splice, zeros, Value.cells, Act.eval]; rfl) | rfl); clear hS; intro b w hS) | ((with_reducible apply l_storeF); assumption; rfl; rfl; (repeat (first | exact Upd.head | apply Upd.tail)); rfl; clear hS; intro w hS) | ((with_reducible apply l_store); assumption; rfl; rfl; (repeat (first | exact Upd.head | apply Upd.tail)); rfl; clear hS; intro w hS; simp only [splice] at hS; try rw [splice_nil] at hS))
  go_ret
  exact ⟨rfl, rfl⟩
/-- Is it a digit? -/
theorem is_c (w0 : World) (b1 bk b5 : Nat) (l : List UInt8) (c : UInt8) (h1 : Rd w0 b1 0 [txt l, .int .i64 10]) (hk : Rd w0 bk 0 [txt digs10]) (h5 : Rd w0 b5 0 [.func (.func 291) #[] #[.pointer (some ⟨b1, 0, none⟩), .pointer (some ⟨bk, 0, none⟩)]]) :
    Calls Tryz.prog 294 #[.int .u8 (c.toNat : Int), .pointer (some ⟨b5, 0, none⟩)] w0 fun e w' => e = .returned (.bool (digB c)) ∧ w' = w0 := by
  have hv := value_c w0 b1 bk l c h1 hk
  have Hv := Lib.hid hv
  have H5 := Lib.hid h5
  have ecf : ∀ args w, (callFunc 291 args).run Tryz.prog w = .ok (.enter 291 args) w := enters_of Tryz.func291 (by kernel_rfl) rfl
  have hd : decide ((0 : Int) ≤ valP c) = digB c := by
    unfold valP
    cases digB c <;> simp
  clear h1 hk h5 hv
  go_enter Tryz.func294, Tryz.ntmps294
  go_wp2_with (first | ((with_reducible apply l_want); rfl) | ((with_reducible apply l_read); rfl; exact H5.out; rfl) | ((with_reducible apply l_alloc); assumption; rfl; clear hS; intro b w hS) | ((with_reducible apply l_box); assumption; rfl; clear hS; intro b w hS) | ((with_reducible apply l_load); assumption; rfl; (repeat (first | exact Has.head | apply Has.tail)); (first | rfl | (simp [takeV]; done))) | ((with_reducible apply l_build); rfl; (simp [fillL, splice, Value.cells, Act.eval]; rfl)) | ((with_reducible apply l_buildA); rfl; (simp [fillL, splice, Value.cells, Act.eval]; rfl)) | ((with_reducible apply l_bslice); assumption; rfl; rfl; (first | (simp [fillL, splice, zeros, Value.cells, Act.eval]; rfl) | rfl); clear hS; intro b w hS) | ((with_reducible apply l_storeF); assumption; rfl; rfl; (repeat (first | exact Upd.head | apply Upd.tail)); rfl; clear hS; intro w hS) | ((with_reducible apply l_store); assumption; rfl; rfl; (repeat (first | exact Upd.head | apply Upd.tail)); rfl; clear hS; intro w hS; simp only [splice] at hS; try rw [splice_nil] at hS))
  refine Hv.out.mono ?_
  rintro en w1 ⟨rfl, rfl⟩
  go_wp2_with (first | ((with_reducible apply l_want); rfl) | ((with_reducible apply l_alloc); assumption; rfl; clear hS; intro b w hS) | ((with_reducible apply l_box); assumption; rfl; clear hS; intro b w hS) | ((with_reducible apply l_load); assumption; rfl; (repeat (first | exact Has.head | apply Has.tail)); (first | rfl | (simp [takeV]; done))) | ((with_reducible apply l_build); rfl; (simp [fillL, splice, Value.cells, Act.eval]; rfl)) | ((with_reducible apply l_buildA); rfl; (simp [fillL, splice, Value.cells, Act.eval]; rfl)) | ((with_reducible apply l_bslice); assumption; rfl; rfl; (first | (simp [fillL, splice, zeros, Value.cells, Act.eval]; rfl) | rfl); clear hS; intro b w hS) | ((with_reducible apply l_storeF); assumption; rfl; rfl; (repeat (first | exact Upd.head | apply Upd.tail)); rfl; clear hS; intro w hS) | ((with_reducible apply l_store); assumption; rfl; rfl; (repeat (first | exact Upd.head | apply Upd.tail)); rfl; clear hS; intro w hS; simp only [splice] at hS; try rw [splice_nil] at hS))
  go_ret
  refine ⟨?_, rfl⟩
  rw [← hd]
  rfl
/-- One more digit. -/
theorem more_c (w0 : World) (b1 bk b5 : Nat) (l : List UInt8) (n : Nat) (c : UInt8) (hn : n < 18446744073709551616) (hc : digB c = true) (h1 : Rd w0 b1 0 [txt l, .int .i64 10]) (hk : Rd w0 bk 0 [txt digs10]) (h5 : Rd w0 b5 0 [.func (.func 291) #[] #[.pointer (some ⟨b1, 0, none⟩), .pointer (some ⟨bk, 0, none⟩)]]) :
    Calls Tryz.prog 296 #[.int .u64 (n : Int), .int .u8 (c.toNat : Int), .pointer (some ⟨b1, 0, none⟩), .pointer (some ⟨b5, 0, none⟩)] w0 fun e w' => e = .returned (match foldD n [c] with | some m => .tuple #[.int .u64 (m : Int), .int .i64 0] | none => .tuple #[.int .u64 0, .int .i64 111]) ∧ w' = w0 := by
  have hv := value_c w0 b1 bk l c h1 hk
  have hval : valP c = ((c.toNat - 48 : Nat) : Int) := by unfold valP; rw [if_pos hc]
  rw [hval] at hv
  have hc2 : c.toNat - 48 < 10 := by
    have : c.toNat ≤ 57 := by
      unfold digB at hc
      simp only [Bool.and_eq_true, decide_eq_true_eq] at hc
      exact hc.2
    omega
  obtain ⟨d, hd⟩ : ∃ d, d = c.toNat - 48 := ⟨_, rfl⟩
  have hf : foldD n [c] = if n * 10 + d < 18446744073709551616 then some (n * 10 + d) else none := by rw [hd]; simp only [foldD]
  rw [hf]
  rw [← hd] at hv hc2
  have Hv := Lib.hid hv
  have H5 := Lib.hid h5
  have H1 := Lib.hid h1
  have H2 : Hid (Rd w0 b1 1 [.int .i64 10]) := Lib.hid (by have := h1.drop 1; exact this)
  have ecf : ∀ args w, (callFunc 291 args).run Tryz.prog w = .ok (.enter 291 args) w := enters_of Tryz.func291 (by kernel_rfl) rfl
  clear h1 hk h5 hv hval hc hf hd
  by_cases h : n * 10 + d < 18446744073709551616
  · rw [if_pos h]
    have h3 : n * 10 < 18446744073709551616 := by omega
    go_enter Tryz.func296, Tryz.ntmps296
    go_wp2_with (first | ((with_reducible apply l_want); rfl) | ((with_reducible apply l_read); rfl; exact H2.out; rfl) | ((with_reducible apply l_read); rfl; exact H5.out; rfl) | (go_at_call 297; go_must (refine (mul_t _ n h3).mono ?_); rintro en w1 ⟨rfl, rfl⟩) | (go_at_call 298; go_must (refine (add_t _ (n * 10) d h).mono ?_); rintro en w1 ⟨rfl, rfl⟩) | ((with_reducible apply l_alloc); assumption; rfl; clear hS; intro b w hS) | ((with_reducible apply l_box); assumption; rfl; clear hS; intro b w hS) | ((with_reducible apply l_load); assumption; rfl; (repeat (first | exact Has.head | apply Has.tail)); (first | rfl | (simp [takeV]; done))) | ((with_reducible apply l_build); rfl; (simp [fillL, splice, Value.cells, Act.eval]; rfl)) | ((with_reducible apply l_buildA); rfl; (simp [fillL, splice, Value.cells, Act.eval]; rfl)) | ((with_reducible apply l_bslice); assumption; rfl; rfl; (first | (simp [fillL, splice, zeros, Value.cells, Act.eval]; rfl) | rfl); clear hS; intro b w hS) | ((with_reducible apply l_storeF); assumption; rfl; rfl; (repeat (first | exact Upd.head | apply Upd.tail)); rfl; clear hS; intro w hS) | ((with_reducible apply l_store); assumption; rfl; rfl; (repeat (first | exact Upd.head | apply Upd.tail)); rfl; clear hS; intro w hS; simp only [splice] at hS; try rw [splice_nil] at hS))
    refine Hv.out.mono ?_
    rintro en w1 ⟨rfl, rfl⟩
    go_wp2_with (first | ((with_reducible apply l_want); rfl) | (go_at_call 298; go_must (refine (add_t _ (n * 10) d h).mono ?_); rintro en w1 ⟨rfl, rfl⟩) | ((with_reducible apply l_alloc); assumption; rfl; clear hS; intro b w hS) | ((with_reducible apply l_box); assumption; rfl; clear hS; intro b w hS) | ((with_reducible apply l_load); assumption; rfl; (repeat (first | exact Has.head | apply Has.tail)); (first | rfl | (simp [takeV]; done))) | ((with_reducible apply l_build); rfl; (simp [fillL, splice, Value.cells, Act.eval]; rfl)) | ((with_reducible apply l_buildA); rfl; (simp [fillL, splice, Value.cells, Act.eval]; rfl)) | ((with_reducible apply l_bslice); assumption; rfl; rfl; (first | (simp [fillL, splice, zeros, Value.cells, Act.eval]; rfl) | rfl); clear hS; intro b w hS) | ((with_reducible apply l_storeF); assumption; rfl; rfl; (repeat (first | exact Upd.head | apply Upd.tail)); rfl; clear hS; intro w hS) | ((with_reducible apply l_store); assumption; rfl; rfl; (repeat (first | exact Upd.head | apply Upd.tail)); rfl; clear hS; intro w hS; simp only [splice] at hS; try rw [splice_nil] at hS))
    go_ret2
    exact ⟨rfl, rfl⟩
  · rw [if_neg h]
    by_cases h3 : n * 10 < 18446744073709551616
    · go_enter Tryz.func296, Tryz.ntmps296
      go_wp2_with (first | ((with_reducible apply l_want); rfl) | ((with_reducible apply l_read); rfl; exact H2.out; rfl) | ((with_reducible apply l_read); rfl; exact H5.out; rfl) | (go_at_call 297; go_must (refine (mul_t _ n h3).mono ?_); rintro en w1 ⟨rfl, rfl⟩) | ((with_reducible apply l_alloc); assumption; rfl; clear hS; intro b w hS) | ((with_reducible apply l_box); assumption; rfl; clear hS; intro b w hS) | ((with_reducible apply l_load); assumption; rfl; (repeat (first | exact Has.head | apply Has.tail)); (first | rfl | (simp [takeV]; done))) | ((with_reducible apply l_build); rfl; (simp [fillL, splice, Value.cells, Act.eval]; rfl)) | ((with_reducible apply l_buildA); rfl; (simp [fillL, splice, Value.cells, Act.eval]; rfl)) | ((with_reducible apply l_bslice); assumption; rfl; rfl; (first | (simp [fillL, splice, zeros, Value.cells, Act.eval]; rfl) | rfl); clear hS; intro b w hS) | ((with_reducible apply l_storeF); assumption; rfl; rfl; (repeat (first | exact Upd.head | apply Upd.tail)); rfl; clear hS; intro w hS) | ((with_reducible apply l_store); assumption; rfl; rfl; (repeat (first | exact Upd.head | apply Upd.tail)); rfl; clear hS; intro w hS; simp only [splice] at hS; try rw [splice_nil] at hS))
      refine Hv.out.mono ?_
      rintro en w1 ⟨rfl, rfl⟩
      go_wp2_with (first | ((with_reducible apply l_want); rfl) | (go_at_call 298; go_must (refine (add_f _ (n * 10) d h h3 (by omega)).mono ?_); rintro en w1 ⟨rfl, rfl⟩) | ((with_reducible apply l_alloc); assumption; rfl; clear hS; intro b w hS) | ((with_reducible apply l_box); assumption; rfl; clear hS; intro b w hS) | ((with_reducible apply l_load); assumption; rfl; (repeat (first | exact Has.head | apply Has.tail)); (first | rfl | (simp [takeV]; done))) | ((with_reducible apply l_build); rfl; (simp [fillL, splice, Value.cells, Act.eval]; rfl)) | ((with_reducible apply l_buildA); rfl; (simp [fillL, splice, Value.cells, Act.eval]; rfl)) | ((with_reducible apply l_bslice); assumption; rfl; rfl; (first | (simp [fillL, splice, zeros, Value.cells, Act.eval]; rfl) | rfl); clear hS; intro b w hS) | ((with_reducible apply l_storeF); assumption; rfl; rfl; (repeat (first | exact Upd.head | apply Upd.tail)); rfl; clear hS; intro w hS) | ((with_reducible apply l_store); assumption; rfl; rfl; (repeat (first | exact Upd.head | apply Upd.tail)); rfl; clear hS; intro w hS; simp only [splice] at hS; try rw [splice_nil] at hS))
      go_ret2
      exact ⟨rfl, rfl⟩
    · go_enter Tryz.func296, Tryz.ntmps296
      go_wp2_with (first | ((with_reducible apply l_want); rfl) | ((with_reducible apply l_read); rfl; exact H2.out; rfl) | (go_at_call 297; go_must (refine (mul_f _ n h3 hn).mono ?_); rintro en w1 ⟨rfl, rfl⟩) | ((with_reducible apply l_alloc); assumption; rfl; clear hS; intro b w hS) | ((with_reducible apply l_box); assumption; rfl; clear hS; intro b w hS) | ((with_reducible apply l_load); assumption; rfl; (repeat (first | exact Has.head | apply Has.tail)); (first | rfl | (simp [takeV]; done))) | ((with_reducible apply l_build); rfl; (simp [fillL, splice, Value.cells, Act.eval]; rfl)) | ((with_reducible apply l_buildA); rfl; (simp [fillL, splice, Value.cells, Act.eval]; rfl)) | ((with_reducible apply l_bslice); assumption; rfl; rfl; (first | (simp [fillL, splice, zeros, Value.cells, Act.eval]; rfl) | rfl); clear hS; intro b w hS) | ((with_reducible apply l_storeF); assumption; rfl; rfl; (repeat (first | exact Upd.head | apply Upd.tail)); rfl; clear hS; intro w hS) | ((with_reducible apply l_store); assumption; rfl; rfl; (repeat (first | exact Upd.head | apply Upd.tail)); rfl; clear hS; intro w hS; simp only [splice] at hS; try rw [splice_nil] at hS))
      go_ret2
      exact ⟨rfl, rfl⟩
end Go.Proofs.YtaejmginhkbbhaaGreatDoor
