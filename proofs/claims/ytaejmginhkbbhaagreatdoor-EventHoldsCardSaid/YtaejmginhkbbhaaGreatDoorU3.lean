/- The walks through package utf, third part: the bytes of a point (F304, F257). Conditions: as each contract says. -/
import Derived.Test.YtaejmginhkbbhaaGreatDoorU2
set_option linter.unusedSimpArgs false
set_option linter.unusedVariables false
set_option maxRecDepth 100000
set_option maxHeartbeats 1000000
namespace Go.Proofs.YtaejmginhkbbhaaGreatDoor
open Go Go.RowKit
theorem u8_cell (n : Nat) (h : n < 256) : Value.int .u8 (((UInt8.ofNat n).toNat : Nat) : Int) = .int .u8 (n : Int) := by
  simp [Nat.mod_eq_of_lt h]
theorem bytes_1 (w0 : World) (p : Nat) (hp1 : p ≤ 1114111) (hp2 : ¬ (55296 ≤ p ∧ p ≤ 57343)) (h1 : p < 128) :
    Calls Tryz.prog 304 #[.int .i64 (p : Int)] w0 fun e w' => ∃ v, e = .returned (.tuple #[v, .bool true]) ∧ RdS w' 1 v 1 (bv [UInt8.ofNat p]) ∧ Fr [] w0 w' := by
  have h0 : 0 ≤ (p : Int) := by omega
  have h1' : (p : Int) < 128 := by omega
  go_enter Tryz.func304, Tryz.ntmps304
  have hS := St.start [] w0
  go_wp2_with (first | ((with_reducible apply l_want); rfl) | ((with_reducible apply l_alloc); assumption; rfl; clear hS; intro b w hS) | ((with_reducible apply l_box); assumption; rfl; clear hS; intro b w hS) | ((with_reducible apply l_load); assumption; rfl; (repeat (first | exact Has.head | apply Has.tail)); (first | rfl | (simp [takeV]; done))) | ((with_reducible apply l_build); rfl; (simp [fillL, splice, Value.cells, Act.eval]; rfl)) | ((with_reducible apply l_buildA); rfl; (simp [fillL, splice, Value.cells, Act.eval]; rfl)) | ((with_reducible apply l_bslice); assumption; rfl; rfl; (simp [fillL, splice, zeros, Value.cells, Act.eval]; rfl); clear hS; intro b w hS) | ((with_reducible apply l_storeF); assumption; rfl; rfl; (repeat (first | exact Upd.head | apply Upd.tail)); rfl; clear hS; intro w hS) | ((with_reducible apply l_store); assumption; rfl; rfl; (repeat (first | exact Upd.head | apply Upd.tail)); rfl; clear hS; intro w hS; simp only [splice] at hS; try rw [splice_nil] at hS))
  go_step3
  go_wp2_with (first | ((with_reducible apply l_want); rfl) | ((with_reducible apply l_alloc); assumption; rfl; clear hS; intro b w hS) | ((with_reducible apply l_box); assumption; rfl; clear hS; intro b w hS) | ((with_reducible apply l_load); assumption; rfl; (repeat (first | exact Has.head | apply Has.tail)); (first | rfl | (simp [takeV]; done))) | ((with_reducible apply l_build); rfl; (simp [fillL, splice, Value.cells, Act.eval]; rfl)) | ((with_reducible apply l_buildA); rfl; (simp [fillL, splice, Value.cells, Act.eval]; rfl)) | ((with_reducible apply l_bslice); assumption; rfl; rfl; (simp [fillL, splice, zeros, Value.cells, Act.eval]; rfl); clear hS; intro b w hS) | ((with_reducible apply l_storeF); assumption; rfl; rfl; (repeat (first | exact Upd.head | apply Upd.tail)); rfl; clear hS; intro w hS) | ((with_reducible apply l_store); assumption; rfl; rfl; (repeat (first | exact Upd.head | apply Upd.tail)); rfl; clear hS; intro w hS; simp only [splice] at hS; try rw [splice_nil] at hS))
  try rw [Exit.noGoto_ret]
  go_ret2
  refine ⟨_, rfl, ?_, hS.fr⟩
  have h := RdS.of_row (size := 1) (hS.get (by repeat (first | exact Has.head | apply Has.tail)) : (row b 5 [.int .u8 (p : Int)]).ok w) 1 1 rfl (Nat.le_refl _)
  rw [show bv [UInt8.ofNat p] = [.int .u8 (p : Int)] from by simp only [bv, List.map_cons, List.map_nil, u8_cell p (by omega)]]
  exact h
theorem and63 (p : Nat) (h : p < 2 ^ 50) : bits BinOp.and IntKind.i64 (p : Int) 63 = ((p % 64 : Nat) : Int) := by
  have h1 := bits_mask .i64 63 (by decide) (fun n h0 h1 => by rw [IntKind.wrap_i64]; omega) 6 (by decide) (p : Int) (by omega) (by omega)
  rw [show ((2 : Int) ^ 6 - 1) = 63 from by decide] at h1
  rw [h1]
  omega
theorem cont_cell (p : Nat) (h : p < 2 ^ 50) : bits BinOp.or IntKind.u8 128 (bits BinOp.and IntKind.i64 (p : Int) 63 % 256) = ((128 + p % 64 : Nat) : Int) := by
  rw [and63 p h, show (((p % 64 : Nat) : Int) % 256) = ((p % 64 : Nat) : Int) from by omega, u8_or128 _ (by omega) (by omega)]
  omega
theorem bytes_2 (w0 : World) (p : Nat) (h1 : ¬ p < 128) (h2 : p < 2048) :
    Calls Tryz.prog 304 #[.int .i64 (p : Int)] w0 fun e w' => ∃ v, e = .returned (.tuple #[v, .bool true]) ∧ RdS w' 1 v 2 (bv [UInt8.ofNat (192 + p / 64), UInt8.ofNat (128 + p % 64)]) ∧ Fr [] w0 w' := by
  have h0 : 0 ≤ (p : Int) := by omega
  have h1' : 128 ≤ (p : Int) := by omega
  have h2' : (p : Int) < 2048 := by omega
  have d1 : decide ((p : Int) < 64) = false := by simp; omega
  have d2 : decide ((p : Int) / 64 < 32) = true := by simp; omega
  have H1 := Lib.hid h1
  have H2 := Lib.hid h2
  clear h1 h2
  go_enter Tryz.func304, Tryz.ntmps304
  have hS := St.start [] w0
  go_wp2_with (first | ((with_reducible apply l_want); rfl) | ((with_reducible apply l_alloc); assumption; rfl; clear hS; intro b w hS) | ((with_reducible apply l_box); assumption; rfl; clear hS; intro b w hS) | ((with_reducible apply l_load); assumption; rfl; (repeat (first | exact Has.head | apply Has.tail)); (first | rfl | (simp [takeV]; done))) | ((with_reducible apply l_build); rfl; (simp [fillL, splice, Value.cells, Act.eval]; rfl)) | ((with_reducible apply l_buildA); rfl; (simp [fillL, splice, Value.cells, Act.eval]; rfl)) | ((with_reducible apply l_bslice); assumption; rfl; rfl; (simp [fillL, splice, zeros, Value.cells, Act.eval]; rfl); clear hS; intro b w hS) | ((with_reducible apply l_storeF); assumption; rfl; rfl; (repeat (first | exact Upd.head | apply Upd.tail)); rfl; clear hS; intro w hS) | ((with_reducible apply l_store); assumption; rfl; rfl; (repeat (first | exact Upd.head | apply Upd.tail)); rfl; clear hS; intro w hS; simp only [splice] at hS; try rw [splice_nil] at hS))
  go_step3
  go_wp2_with (first | ((with_reducible apply l_want); rfl) | ((with_reducible apply l_alloc); assumption; rfl; clear hS; intro b w hS) | ((with_reducible apply l_box); assumption; rfl; clear hS; intro b w hS) | ((with_reducible apply l_load); assumption; rfl; (repeat (first | exact Has.head | apply Has.tail)); (first | rfl | (simp [takeV]; done))) | ((with_reducible apply l_build); rfl; (simp [fillL, splice, Value.cells, Act.eval]; rfl)) | ((with_reducible apply l_buildA); rfl; (simp [fillL, splice, Value.cells, Act.eval]; rfl)) | ((with_reducible apply l_bslice); assumption; rfl; rfl; (simp [fillL, splice, zeros, Value.cells, Act.eval]; rfl); clear hS; intro b w hS) | ((with_reducible apply l_storeF); assumption; rfl; rfl; (repeat (first | exact Upd.head | apply Upd.tail)); rfl; clear hS; intro w hS) | ((with_reducible apply l_store); assumption; rfl; rfl; (repeat (first | exact Upd.head | apply Upd.tail)); rfl; clear hS; intro w hS; simp only [splice] at hS; try rw [splice_nil] at hS))
  refine wp_loop_rounds 2 ?_
  rw [rounds_succ]
  go_wp2_with (first | ((with_reducible apply l_want); rfl) | ((with_reducible apply l_alloc); assumption; rfl; clear hS; intro b w hS) | ((with_reducible apply l_box); assumption; rfl; clear hS; intro b w hS) | ((with_reducible apply l_load); assumption; rfl; (repeat (first | exact Has.head | apply Has.tail)); (first | rfl | (simp [takeV]; done))) | ((with_reducible apply l_build); rfl; (simp [fillL, splice, Value.cells, Act.eval]; rfl)) | ((with_reducible apply l_buildA); rfl; (simp [fillL, splice, Value.cells, Act.eval]; rfl)) | ((with_reducible apply l_bslice); assumption; rfl; rfl; (simp [fillL, splice, zeros, Value.cells, Act.eval]; rfl); clear hS; intro b w hS) | ((with_reducible apply l_storeF); assumption; rfl; rfl; (repeat (first | exact Upd.head | apply Upd.tail)); rfl; clear hS; intro w hS) | ((with_reducible apply l_store); assumption; rfl; rfl; (repeat (first | exact Upd.head | apply Upd.tail)); rfl; clear hS; intro w hS; simp only [splice] at hS; try rw [splice_nil] at hS))
  rw [rounds_succ]
  go_wp2_with (first | ((with_reducible apply l_want); rfl) | ((with_reducible apply l_alloc); assumption; rfl; clear hS; intro b w hS) | ((with_reducible apply l_box); assumption; rfl; clear hS; intro b w hS) | ((with_reducible apply l_load); assumption; rfl; (repeat (first | exact Has.head | apply Has.tail)); (first | rfl | (simp [takeV]; done))) | ((with_reducible apply l_build); rfl; (simp [fillL, splice, Value.cells, Act.eval]; rfl)) | ((with_reducible apply l_buildA); rfl; (simp [fillL, splice, Value.cells, Act.eval]; rfl)) | ((with_reducible apply l_bslice); assumption; rfl; rfl; (simp [fillL, splice, zeros, Value.cells, Act.eval]; rfl); clear hS; intro b w hS) | ((with_reducible apply l_storeF); assumption; rfl; rfl; (repeat (first | exact Upd.head | apply Upd.tail)); rfl; clear hS; intro w hS) | ((with_reducible apply l_store); assumption; rfl; rfl; (repeat (first | exact Upd.head | apply Upd.tail)); rfl; clear hS; intro w hS; simp only [splice] at hS; try rw [splice_nil] at hS))
  rw [Exit.noGoto_ret]
  go_ret2
  refine ⟨_, rfl, ?_, hS.fr⟩
  have h := RdS.of_rd (size := 1) (n := 2) (c := 2) ((hS.rd0 (by repeat (first | exact Has.head | apply Has.tail))).drop 2) rfl (Nat.le_refl _)
  rw [cont_cell p (by omega)] at h
  have e : bv [UInt8.ofNat (192 + p / 64), UInt8.ofNat (128 + p % 64)] = [.int .u8 (192 + (p : Int) / 64), .int .u8 ((128 + p % 64 : Nat) : Int)] := by
    simp only [bv, List.map_cons, List.map_nil, u8_cell (192 + p / 64) (by omega), u8_cell (128 + p % 64) (by omega)]
    rw [show ((192 + p / 64 : Nat) : Int) = 192 + (p : Int) / 64 from by omega]
  rw [e]
  exact h
theorem bytes_3 (w0 : World) (p : Nat) (h1 : ¬ p < 2048) (h2 : p < 65536) (h3 : decide (55296 ≤ (p : Int)) = false ∨ (decide (55296 ≤ (p : Int)) = true ∧ decide ((p : Int) ≤ 57343) = false)) :
    Calls Tryz.prog 304 #[.int .i64 (p : Int)] w0 fun e w' => ∃ v, e = .returned (.tuple #[v, .bool true]) ∧ RdS w' 1 v 3 (bv [UInt8.ofNat (224 + p / 4096), UInt8.ofNat (128 + p / 64 % 64), UInt8.ofNat (128 + p % 64)]) ∧ Fr [] w0 w' := by
  have h0 : 0 ≤ (p : Int) := by omega
  have h1' : 2048 ≤ (p : Int) := by omega
  have h2' : (p : Int) < 65536 := by omega
  have d4 : decide ((p : Int) < 0) = false := by simp
  have d5 : decide ((1114111 : Int) < p) = false := by simp; omega
  have d6 : decide ((p : Int) < 128) = false := by simp; omega
  have d1 : decide ((p : Int) < 64) = false := by simp; omega
  have d2 : decide ((p : Int) / 64 < 32) = false := by simp; omega
  have d3 : decide ((p : Int) / 64 / 64 < 16) = true := by simp; omega
  rcases h3 with h3 | ⟨h3, h3'⟩
  all_goals
    have H1 := Lib.hid h1
    have H2 := Lib.hid h2
    clear h1 h2
    go_enter Tryz.func304, Tryz.ntmps304
    have hS := St.start [] w0
    go_wp2_with (first | ((with_reducible apply l_want); rfl) | ((with_reducible apply l_alloc); assumption; rfl; clear hS; intro b w hS) | ((with_reducible apply l_box); assumption; rfl; clear hS; intro b w hS) | ((with_reducible apply l_load); assumption; rfl; (repeat (first | exact Has.head | apply Has.tail)); (first | rfl | (simp [takeV]; done))) | ((with_reducible apply l_build); rfl; (simp [fillL, splice, Value.cells, Act.eval]; rfl)) | ((with_reducible apply l_buildA); rfl; (simp [fillL, splice, Value.cells, Act.eval]; rfl)) | ((with_reducible apply l_bslice); assumption; rfl; rfl; (simp [fillL, splice, zeros, Value.cells, Act.eval]; rfl); clear hS; intro b w hS) | ((with_reducible apply l_storeF); assumption; rfl; rfl; (repeat (first | exact Upd.head | apply Upd.tail)); rfl; clear hS; intro w hS) | ((with_reducible apply l_store); assumption; rfl; rfl; (repeat (first | exact Upd.head | apply Upd.tail)); rfl; clear hS; intro w hS; simp only [splice] at hS; try rw [splice_nil] at hS))
    go_step3
    go_wp2_with (first | ((with_reducible apply l_want); rfl) | ((with_reducible apply l_alloc); assumption; rfl; clear hS; intro b w hS) | ((with_reducible apply l_box); assumption; rfl; clear hS; intro b w hS) | ((with_reducible apply l_load); assumption; rfl; (repeat (first | exact Has.head | apply Has.tail)); (first | rfl | (simp [takeV]; done))) | ((with_reducible apply l_build); rfl; (simp [fillL, splice, Value.cells, Act.eval]; rfl)) | ((with_reducible apply l_buildA); rfl; (simp [fillL, splice, Value.cells, Act.eval]; rfl)) | ((with_reducible apply l_bslice); assumption; rfl; rfl; (simp [fillL, splice, zeros, Value.cells, Act.eval]; rfl); clear hS; intro b w hS) | ((with_reducible apply l_storeF); assumption; rfl; rfl; (repeat (first | exact Upd.head | apply Upd.tail)); rfl; clear hS; intro w hS) | ((with_reducible apply l_store); assumption; rfl; rfl; (repeat (first | exact Upd.head | apply Upd.tail)); rfl; clear hS; intro w hS; simp only [splice] at hS; try rw [splice_nil] at hS))
    refine wp_loop_rounds 3 ?_
    rw [rounds_succ]
    go_wp2_with (first | ((with_reducible apply l_want); rfl) | ((with_reducible apply l_alloc); assumption; rfl; clear hS; intro b w hS) | ((with_reducible apply l_box); assumption; rfl; clear hS; intro b w hS) | ((with_reducible apply l_load); assumption; rfl; (repeat (first | exact Has.head | apply Has.tail)); (first | rfl | (simp [takeV]; done))) | ((with_reducible apply l_build); rfl; (simp [fillL, splice, Value.cells, Act.eval]; rfl)) | ((with_reducible apply l_buildA); rfl; (simp [fillL, splice, Value.cells, Act.eval]; rfl)) | ((with_reducible apply l_bslice); assumption; rfl; rfl; (simp [fillL, splice, zeros, Value.cells, Act.eval]; rfl); clear hS; intro b w hS) | ((with_reducible apply l_storeF); assumption; rfl; rfl; (repeat (first | exact Upd.head | apply Upd.tail)); rfl; clear hS; intro w hS) | ((with_reducible apply l_store); assumption; rfl; rfl; (repeat (first | exact Upd.head | apply Upd.tail)); rfl; clear hS; intro w hS; simp only [splice] at hS; try rw [splice_nil] at hS))
    rw [rounds_succ]
    go_wp2_with (first | ((with_reducible apply l_want); rfl) | ((with_reducible apply l_alloc); assumption; rfl; clear hS; intro b w hS) | ((with_reducible apply l_box); assumption; rfl; clear hS; intro b w hS) | ((with_reducible apply l_load); assumption; rfl; (repeat (first | exact Has.head | apply Has.tail)); (first | rfl | (simp [takeV]; done))) | ((with_reducible apply l_build); rfl; (simp [fillL, splice, Value.cells, Act.eval]; rfl)) | ((with_reducible apply l_buildA); rfl; (simp [fillL, splice, Value.cells, Act.eval]; rfl)) | ((with_reducible apply l_bslice); assumption; rfl; rfl; (simp [fillL, splice, zeros, Value.cells, Act.eval]; rfl); clear hS; intro b w hS) | ((with_reducible apply l_storeF); assumption; rfl; rfl; (repeat (first | exact Upd.head | apply Upd.tail)); rfl; clear hS; intro w hS) | ((with_reducible apply l_store); assumption; rfl; rfl; (repeat (first | exact Upd.head | apply Upd.tail)); rfl; clear hS; intro w hS; simp only [splice] at hS; try rw [splice_nil] at hS))
    rw [rounds_succ]
    go_wp2_with (first | ((with_reducible apply l_want); rfl) | ((with_reducible apply l_alloc); assumption; rfl; clear hS; intro b w hS) | ((with_reducible apply l_box); assumption; rfl; clear hS; intro b w hS) | ((with_reducible apply l_load); assumption; rfl; (repeat (first | exact Has.head | apply Has.tail)); (first | rfl | (simp [takeV]; done))) | ((with_reducible apply l_build); rfl; (simp [fillL, splice, Value.cells, Act.eval]; rfl)) | ((with_reducible apply l_buildA); rfl; (simp [fillL, splice, Value.cells, Act.eval]; rfl)) | ((with_reducible apply l_bslice); assumption; rfl; rfl; (simp [fillL, splice, zeros, Value.cells, Act.eval]; rfl); clear hS; intro b w hS) | ((with_reducible apply l_storeF); assumption; rfl; rfl; (repeat (first | exact Upd.head | apply Upd.tail)); rfl; clear hS; intro w hS) | ((with_reducible apply l_store); assumption; rfl; rfl; (repeat (first | exact Upd.head | apply Upd.tail)); rfl; clear hS; intro w hS; simp only [splice] at hS; try rw [splice_nil] at hS))
    rw [Exit.noGoto_ret]
    go_ret2
    refine ⟨_, rfl, ?_, hS.fr⟩
    have h1 := H1.out
    have h2 := H2.out
    have h := RdS.of_rd (size := 1) (n := 3) (c := 3) ((hS.rd0 (by repeat (first | exact Has.head | apply Has.tail))).drop 1) rfl (Nat.le_refl _)
    rw [cont_cell p (by omega), show ((p : Int) / 64) = ((p / 64 : Nat) : Int) from by omega, cont_cell (p / 64) (by omega), show (224 + ((p / 64 : Nat) : Int) / 64) = ((224 + p / 4096 : Nat) : Int) from by omega] at h
    have e : bv [UInt8.ofNat (224 + p / 4096), UInt8.ofNat (128 + p / 64 % 64), UInt8.ofNat (128 + p % 64)] = [.int .u8 ((224 + p / 4096 : Nat) : Int), .int .u8 ((128 + p / 64 % 64 : Nat) : Int), .int .u8 ((128 + p % 64 : Nat) : Int)] := by
      simp only [bv, List.map_cons, List.map_nil]
      repeat rw [u8_cell _ (by omega)]
    rw [e]
    simp only [List.drop] at h
    exact h
theorem bytes_4 (w0 : World) (p : Nat) (h1 : ¬ p < 65536) (h2 : p < 1114112) :
    Calls Tryz.prog 304 #[.int .i64 (p : Int)] w0 fun e w' => ∃ v, e = .returned (.tuple #[v, .bool true]) ∧ RdS w' 1 v 4 (bv [UInt8.ofNat (240 + p / 262144), UInt8.ofNat (128 + p / 4096 % 64), UInt8.ofNat (128 + p / 64 % 64), UInt8.ofNat (128 + p % 64)]) ∧ Fr [] w0 w' := by
  have h0 : 0 ≤ (p : Int) := by omega
  have h1' : 65536 ≤ (p : Int) := by omega
  have h2' : (p : Int) < 1114112 := by omega
  have d4 : decide ((p : Int) < 0) = false := by simp
  have d5 : decide ((1114111 : Int) < p) = false := by simp; omega
  have d6 : decide ((p : Int) < 128) = false := by simp; omega
  have d0 : decide (55296 ≤ (p : Int)) = true := by simp; omega
  have d0' : decide ((p : Int) ≤ 57343) = false := by simp; omega
  have d1 : decide ((p : Int) < 64) = false := by simp; omega
  have d2 : decide ((p : Int) / 64 < 32) = false := by simp; omega
  have d3 : decide ((p : Int) / 64 / 64 < 16) = false := by simp; omega
  have d7 : decide ((p : Int) / 64 / 64 / 64 < 8) = true := by simp; omega
  have H1 := Lib.hid h1
  have H2 := Lib.hid h2
  clear h1 h2
  go_enter Tryz.func304, Tryz.ntmps304
  have hS := St.start [] w0
  go_wp2_with (first | ((with_reducible apply l_want); rfl) | ((with_reducible apply l_alloc); assumption; rfl; clear hS; intro b w hS) | ((with_reducible apply l_box); assumption; rfl; clear hS; intro b w hS) | ((with_reducible apply l_load); assumption; rfl; (repeat (first | exact Has.head | apply Has.tail)); (first | rfl | (simp [takeV]; done))) | ((with_reducible apply l_build); rfl; (simp [fillL, splice, Value.cells, Act.eval]; rfl)) | ((with_reducible apply l_buildA); rfl; (simp [fillL, splice, Value.cells, Act.eval]; rfl)) | ((with_reducible apply l_bslice); assumption; rfl; rfl; (simp [fillL, splice, zeros, Value.cells, Act.eval]; rfl); clear hS; intro b w hS) | ((with_reducible apply l_storeF); assumption; rfl; rfl; (repeat (first | exact Upd.head | apply Upd.tail)); rfl; clear hS; intro w hS) | ((with_reducible apply l_store); assumption; rfl; rfl; (repeat (first | exact Upd.head | apply Upd.tail)); rfl; clear hS; intro w hS; simp only [splice] at hS; try rw [splice_nil] at hS))
  go_step3
  go_wp2_with (first | ((with_reducible apply l_want); rfl) | ((with_reducible apply l_alloc); assumption; rfl; clear hS; intro b w hS) | ((with_reducible apply l_box); assumption; rfl; clear hS; intro b w hS) | ((with_reducible apply l_load); assumption; rfl; (repeat (first | exact Has.head | apply Has.tail)); (first | rfl | (simp [takeV]; done))) | ((with_reducible apply l_build); rfl; (simp [fillL, splice, Value.cells, Act.eval]; rfl)) | ((with_reducible apply l_buildA); rfl; (simp [fillL, splice, Value.cells, Act.eval]; rfl)) | ((with_reducible apply l_bslice); assumption; rfl; rfl; (simp [fillL, splice, zeros, Value.cells, Act.eval]; rfl); clear hS; intro b w hS) | ((with_reducible apply l_storeF); assumption; rfl; rfl; (repeat (first | exact Upd.head | apply Upd.tail)); rfl; clear hS; intro w hS) | ((with_reducible apply l_store); assumption; rfl; rfl; (repeat (first | exact Upd.head | apply Upd.tail)); rfl; clear hS; intro w hS; simp only [splice] at hS; try rw [splice_nil] at hS))
  refine wp_loop_rounds 4 ?_
  rw [rounds_succ]
  go_wp2_with (first | ((with_reducible apply l_want); rfl) | ((with_reducible apply l_alloc); assumption; rfl; clear hS; intro b w hS) | ((with_reducible apply l_box); assumption; rfl; clear hS; intro b w hS) | ((with_reducible apply l_load); assumption; rfl; (repeat (first | exact Has.head | apply Has.tail)); (first | rfl | (simp [takeV]; done))) | ((with_reducible apply l_build); rfl; (simp [fillL, splice, Value.cells, Act.eval]; rfl)) | ((with_reducible apply l_buildA); rfl; (simp [fillL, splice, Value.cells, Act.eval]; rfl)) | ((with_reducible apply l_bslice); assumption; rfl; rfl; (simp [fillL, splice, zeros, Value.cells, Act.eval]; rfl); clear hS; intro b w hS) | ((with_reducible apply l_storeF); assumption; rfl; rfl; (repeat (first | exact Upd.head | apply Upd.tail)); rfl; clear hS; intro w hS) | ((with_reducible apply l_store); assumption; rfl; rfl; (repeat (first | exact Upd.head | apply Upd.tail)); rfl; clear hS; intro w hS; simp only [splice] at hS; try rw [splice_nil] at hS))
  rw [rounds_succ]
  go_wp2_with (first | ((with_reducible apply l_want); rfl) | ((with_reducible apply l_alloc); assumption; rfl; clear hS; intro b w hS) | ((with_reducible apply l_box); assumption; rfl; clear hS; intro b w hS) | ((with_reducible apply l_load); assumption; rfl; (repeat (first | exact Has.head | apply Has.tail)); (first | rfl | (simp [takeV]; done))) | ((with_reducible apply l_build); rfl; (simp [fillL, splice, Value.cells, Act.eval]; rfl)) | ((with_reducible apply l_buildA); rfl; (simp [fillL, splice, Value.cells, Act.eval]; rfl)) | ((with_reducible apply l_bslice); assumption; rfl; rfl; (simp [fillL, splice, zeros, Value.cells, Act.eval]; rfl); clear hS; intro b w hS) | ((with_reducible apply l_storeF); assumption; rfl; rfl; (repeat (first | exact Upd.head | apply Upd.tail)); rfl; clear hS; intro w hS) | ((with_reducible apply l_store); assumption; rfl; rfl; (repeat (first | exact Upd.head | apply Upd.tail)); rfl; clear hS; intro w hS; simp only [splice] at hS; try rw [splice_nil] at hS))
  rw [rounds_succ]
  go_wp2_with (first | ((with_reducible apply l_want); rfl) | ((with_reducible apply l_alloc); assumption; rfl; clear hS; intro b w hS) | ((with_reducible apply l_box); assumption; rfl; clear hS; intro b w hS) | ((with_reducible apply l_load); assumption; rfl; (repeat (first | exact Has.head | apply Has.tail)); (first | rfl | (simp [takeV]; done))) | ((with_reducible apply l_build); rfl; (simp [fillL, splice, Value.cells, Act.eval]; rfl)) | ((with_reducible apply l_buildA); rfl; (simp [fillL, splice, Value.cells, Act.eval]; rfl)) | ((with_reducible apply l_bslice); assumption; rfl; rfl; (simp [fillL, splice, zeros, Value.cells, Act.eval]; rfl); clear hS; intro b w hS) | ((with_reducible apply l_storeF); assumption; rfl; rfl; (repeat (first | exact Upd.head | apply Upd.tail)); rfl; clear hS; intro w hS) | ((with_reducible apply l_store); assumption; rfl; rfl; (repeat (first | exact Upd.head | apply Upd.tail)); rfl; clear hS; intro w hS; simp only [splice] at hS; try rw [splice_nil] at hS))
  rw [rounds_succ]
  go_wp2_with (first | ((with_reducible apply l_want); rfl) | ((with_reducible apply l_alloc); assumption; rfl; clear hS; intro b w hS) | ((with_reducible apply l_box); assumption; rfl; clear hS; intro b w hS) | ((with_reducible apply l_load); assumption; rfl; (repeat (first | exact Has.head | apply Has.tail)); (first | rfl | (simp [takeV]; done))) | ((with_reducible apply l_build); rfl; (simp [fillL, splice, Value.cells, Act.eval]; rfl)) | ((with_reducible apply l_buildA); rfl; (simp [fillL, splice, Value.cells, Act.eval]; rfl)) | ((with_reducible apply l_bslice); assumption; rfl; rfl; (simp [fillL, splice, zeros, Value.cells, Act.eval]; rfl); clear hS; intro b w hS) | ((with_reducible apply l_storeF); assumption; rfl; rfl; (repeat (first | exact Upd.head | apply Upd.tail)); rfl; clear hS; intro w hS) | ((with_reducible apply l_store); assumption; rfl; rfl; (repeat (first | exact Upd.head | apply Upd.tail)); rfl; clear hS; intro w hS; simp only [splice] at hS; try rw [splice_nil] at hS))
  rw [Exit.noGoto_ret]
  go_ret2
  refine ⟨_, rfl, ?_, hS.fr⟩
  have h1 := H1.out
  have h2 := H2.out
  have h := RdS.of_rd (size := 1) (n := 4) (c := 4) ((hS.rd0 (by repeat (first | exact Has.head | apply Has.tail))).drop 0) rfl (Nat.le_refl _)
  rw [cont_cell p (by omega), show ((p : Int) / 64) = ((p / 64 : Nat) : Int) from by omega, cont_cell (p / 64) (by omega), show (((p / 64 : Nat) : Int) / 64) = ((p / 4096 : Nat) : Int) from by omega, cont_cell (p / 4096) (by omega), show (240 + ((p / 4096 : Nat) : Int) / 64) = ((240 + p / 262144 : Nat) : Int) from by omega] at h
  have e : bv [UInt8.ofNat (240 + p / 262144), UInt8.ofNat (128 + p / 4096 % 64), UInt8.ofNat (128 + p / 64 % 64), UInt8.ofNat (128 + p % 64)] = [.int .u8 ((240 + p / 262144 : Nat) : Int), .int .u8 ((128 + p / 4096 % 64 : Nat) : Int), .int .u8 ((128 + p / 64 % 64 : Nat) : Int), .int .u8 ((128 + p % 64 : Nat) : Int)] := by
    simp only [bv, List.map_cons, List.map_nil]
    repeat rw [u8_cell _ (by omega)]
  rw [e]
  simp only [List.drop] at h
  exact h

theorem bytes_c (w0 : World) (p : Nat) (hp : validPt p) :
    Calls Tryz.prog 304 #[.int .i64 (p : Int)] w0 fun e w' => ∃ v, e = .returned (.tuple #[v, .bool true]) ∧ RdS w' 1 v (ptBytes p).length (bv (ptBytes p)) ∧ Fr [] w0 w' := by
  obtain ⟨hp1, hp2⟩ := hp
  unfold ptBytes
  split
  · exact bytes_1 w0 p hp1 hp2 (by assumption)
  · split
    · exact bytes_2 w0 p (by assumption) (by assumption)
    · split
      · refine bytes_3 w0 p (by assumption) (by assumption) ?_
        by_cases h : 55296 ≤ p
        · exact .inr ⟨by simp; omega, by simp; omega⟩
        · exact .inl (by simp; omega)
      · exact bytes_4 w0 p (by assumption) (by omega)

theorem point_c (w0 : World) (p : Nat) (hp : validPt p) :
    Calls Tryz.prog 257 #[.int .i64 (p : Int)] w0 fun e w' => ∃ v, e = .returned v ∧ RdS w' 1 v (ptBytes p).length (bv (ptBytes p)) ∧ Fr [] w0 w' := by
  go_enter Tryz.func257, Tryz.ntmps257
  go_wp2_with fail
  refine (bytes_c _ p hp).mono ?_
  rintro e w1 ⟨v, rfl, hr, hf⟩
  go_wp2_with fail
  go_ret
  exact ⟨v, rfl, hr, hf⟩
end Go.Proofs.YtaejmginhkbbhaaGreatDoor
