/- The walks through the document's own layer 1 (package bellmanref01), first part: numbers added and multiplied, a digit, a number's text (F301, F300, F299, F200, F132). Conditions: as each contract says. The walks through the document's own layer 1, second part: what digits say (F244, F199, F131). Conditions: as each contract says. The walks through the document's own layer 7, fifth part: resets, and what is one (F44, F42). Conditions: as each contract says. -/
import Derived.Test.YtaejmginhkbbhaaGreatDoorX1
import Derived.Test.YtaejmginhkbbhaaGreatDoorXA
import Derived.Test.YtaejmginhkbbhaaGreatDoorX3
import Derived.Test.YtaejmginhkbbhaaGreatDoorS4
import Derived.Test.YtaejmginhkbbhaaGreatDoorX4
set_option linter.unusedSimpArgs false
set_option linter.unusedVariables false
set_option maxRecDepth 100000
set_option maxHeartbeats 1000000
namespace Go.Proofs.YtaejmginhkbbhaaGreatDoor
open Go Go.RowKit
attribute [local irreducible] Calls
theorem radd_t (w0 : World) (a b : Nat) (h : a + b < 18446744073709551616) : Calls Tryz.prog 301 #[.int .u64 (a : Int), .int .u64 (b : Int)] w0 fun e w' => e = .returned (.tuple #[.int .u64 ((a + b : Nat) : Int), .int .i64 0]) ∧ w' = w0 := by
  have hc : decide ((18446744073709551615 : Int) - (a : Int) < (b : Int)) = false := by simp; omega
  go_enter Tryz.func301, Tryz.ntmps301
  go_wp2_with (first | ((with_reducible apply l_want); rfl) | ((with_reducible apply l_alloc); assumption; rfl; clear hS; intro b w hS) | ((with_reducible apply l_box); assumption; rfl; clear hS; intro b w hS) | ((with_reducible apply l_load); assumption; rfl; (repeat (first | exact Has.head | apply Has.tail)); (first | rfl | (simp [takeV]; done))) | ((with_reducible apply l_build); rfl; (simp [fillL, splice, Value.cells, Act.eval]; rfl)) | ((with_reducible apply l_buildA); rfl; (simp [fillL, splice, Value.cells, Act.eval]; rfl)) | ((with_reducible apply l_bslice); assumption; rfl; rfl; (first | (simp [fillL, splice, zeros, Value.cells, Act.eval]; rfl) | rfl); clear hS; intro b w hS) | ((with_reducible apply l_storeF); assumption; rfl; rfl; (repeat (first | exact Upd.head | apply Upd.tail)); rfl; clear hS; intro w hS) | ((with_reducible apply l_store); assumption; rfl; rfl; (repeat (first | exact Upd.head | apply Upd.tail)); rfl; clear hS; intro w hS; simp only [splice] at hS; try rw [splice_nil] at hS))
  go_ret2
  exact ⟨rfl, rfl⟩
theorem radd_f (w0 : World) (a b : Nat) (h : ¬ a + b < 18446744073709551616) (ha : a < 18446744073709551616) (hb : b < 18446744073709551616) : Calls Tryz.prog 301 #[.int .u64 (a : Int), .int .u64 (b : Int)] w0 fun e w' => e = .returned (.tuple #[.int .u64 0, .int .i64 111]) ∧ w' = w0 := by
  have hc : decide ((18446744073709551615 : Int) - (a : Int) < (b : Int)) = true := by simp; omega
  go_enter Tryz.func301, Tryz.ntmps301
  go_wp2_with (first | ((with_reducible apply l_want); rfl) | ((with_reducible apply l_alloc); assumption; rfl; clear hS; intro b w hS) | ((with_reducible apply l_box); assumption; rfl; clear hS; intro b w hS) | ((with_reducible apply l_load); assumption; rfl; (repeat (first | exact Has.head | apply Has.tail)); (first | rfl | (simp [takeV]; done))) | ((with_reducible apply l_build); rfl; (simp [fillL, splice, Value.cells, Act.eval]; rfl)) | ((with_reducible apply l_buildA); rfl; (simp [fillL, splice, Value.cells, Act.eval]; rfl)) | ((with_reducible apply l_bslice); assumption; rfl; rfl; (first | (simp [fillL, splice, zeros, Value.cells, Act.eval]; rfl) | rfl); clear hS; intro b w hS) | ((with_reducible apply l_storeF); assumption; rfl; rfl; (repeat (first | exact Upd.head | apply Upd.tail)); rfl; clear hS; intro w hS) | ((with_reducible apply l_store); assumption; rfl; rfl; (repeat (first | exact Upd.head | apply Upd.tail)); rfl; clear hS; intro w hS; simp only [splice] at hS; try rw [splice_nil] at hS))
  go_ret2
  exact ⟨rfl, rfl⟩
theorem rmul_t (w0 : World) (a : Nat) (h : a * 10 < 18446744073709551616) : Calls Tryz.prog 300 #[.int .u64 (a : Int), .int .u64 10] w0 fun e w' => e = .returned (.tuple #[.int .u64 ((a * 10 : Nat) : Int), .int .i64 0]) ∧ w' = w0 := by
  cases a with
  | zero =>
    go_enter Tryz.func300, Tryz.ntmps300
    go_wp2_with (first | ((with_reducible apply l_want); rfl) | ((with_reducible apply l_alloc); assumption; rfl; clear hS; intro b w hS) | ((with_reducible apply l_box); assumption; rfl; clear hS; intro b w hS) | ((with_reducible apply l_load); assumption; rfl; (repeat (first | exact Has.head | apply Has.tail)); (first | rfl | (simp [takeV]; done))) | ((with_reducible apply l_build); rfl; (simp [fillL, splice, Value.cells, Act.eval]; rfl)) | ((with_reducible apply l_buildA); rfl; (simp [fillL, splice, Value.cells, Act.eval]; rfl)) | ((with_reducible apply l_bslice); assumption; rfl; rfl; (first | (simp [fillL, splice, zeros, Value.cells, Act.eval]; rfl) | rfl); clear hS; intro b w hS) | ((with_reducible apply l_storeF); assumption; rfl; rfl; (repeat (first | exact Upd.head | apply Upd.tail)); rfl; clear hS; intro w hS) | ((with_reducible apply l_store); assumption; rfl; rfl; (repeat (first | exact Upd.head | apply Upd.tail)); rfl; clear hS; intro w hS; simp only [splice] at hS; try rw [splice_nil] at hS))
    go_ret2
    exact ⟨rfl, rfl⟩
  | succ n =>
    obtain ⟨m, hm⟩ : ∃ m, m = n + 1 := ⟨_, rfl⟩
    rw [← hm] at h ⊢
    have h0 : ((m : Int) != 0) = true := by simp; omega
    have hne : ¬ (m : Int) = 0 := by omega
    obtain ⟨q, hq, hq10⟩ : ∃ q : Nat, Int.tdiv 18446744073709551615 (m : Int) = (q : Int) ∧ 10 ≤ q := by
      refine ⟨18446744073709551615 / m, ?_, ?_⟩
      · rw [Int.tdiv_eq_ediv_of_nonneg (by omega)]; rfl
      · rw [Nat.le_div_iff_mul_le (by omega)]; omega
    have hq3 : q ≤ 18446744073709551615 := by
      have : (q : Int) = ((18446744073709551615 / m : Nat) : Int) := by rw [← hq, Int.tdiv_eq_ediv_of_nonneg (by omega)]; rfl
      have h5 := Nat.div_le_self 18446744073709551615 m
      omega
    have hd : decide ((q : Int) < 10) = false := by simp; omega
    clear hm
    go_enter Tryz.func300, Tryz.ntmps300
    go_wp2_with (first | ((with_reducible apply l_want); rfl) | ((with_reducible apply l_alloc); assumption; rfl; clear hS; intro b w hS) | ((with_reducible apply l_box); assumption; rfl; clear hS; intro b w hS) | ((with_reducible apply l_load); assumption; rfl; (repeat (first | exact Has.head | apply Has.tail)); (first | rfl | (simp [takeV]; done))) | ((with_reducible apply l_build); rfl; (simp [fillL, splice, Value.cells, Act.eval]; rfl)) | ((with_reducible apply l_buildA); rfl; (simp [fillL, splice, Value.cells, Act.eval]; rfl)) | ((with_reducible apply l_bslice); assumption; rfl; rfl; (first | (simp [fillL, splice, zeros, Value.cells, Act.eval]; rfl) | rfl); clear hS; intro b w hS) | ((with_reducible apply l_storeF); assumption; rfl; rfl; (repeat (first | exact Upd.head | apply Upd.tail)); rfl; clear hS; intro w hS) | ((with_reducible apply l_store); assumption; rfl; rfl; (repeat (first | exact Upd.head | apply Upd.tail)); rfl; clear hS; intro w hS; simp only [splice] at hS; try rw [splice_nil] at hS))
    go_ret2
    exact ⟨rfl, rfl⟩
theorem rmul_f (w0 : World) (a : Nat) (h : ¬ a * 10 < 18446744073709551616) (ha : a < 18446744073709551616) : Calls Tryz.prog 300 #[.int .u64 (a : Int), .int .u64 10] w0 fun e w' => e = .returned (.tuple #[.int .u64 0, .int .i64 111]) ∧ w' = w0 := by
  have h0 : ((a : Int) != 0) = true := by simp; omega
  have hne : ¬ (a : Int) = 0 := by omega
  obtain ⟨q, hq, hq10⟩ : ∃ q : Nat, Int.tdiv 18446744073709551615 (a : Int) = (q : Int) ∧ q < 10 := by
    refine ⟨18446744073709551615 / a, ?_, ?_⟩
    · rw [Int.tdiv_eq_ediv_of_nonneg (by omega)]; rfl
    · rw [Nat.div_lt_iff_lt_mul (by omega)]; omega
  have hd : decide ((q : Int) < 10) = true := by simp; omega
  go_enter Tryz.func300, Tryz.ntmps300
  go_wp2_with (first | ((with_reducible apply l_want); rfl) | ((with_reducible apply l_alloc); assumption; rfl; clear hS; intro b w hS) | ((with_reducible apply l_box); assumption; rfl; clear hS; intro b w hS) | ((with_reducible apply l_load); assumption; rfl; (repeat (first | exact Has.head | apply Has.tail)); (first | rfl | (simp [takeV]; done))) | ((with_reducible apply l_build); rfl; (simp [fillL, splice, Value.cells, Act.eval]; rfl)) | ((with_reducible apply l_buildA); rfl; (simp [fillL, splice, Value.cells, Act.eval]; rfl)) | ((with_reducible apply l_bslice); assumption; rfl; rfl; (first | (simp [fillL, splice, zeros, Value.cells, Act.eval]; rfl) | rfl); clear hS; intro b w hS) | ((with_reducible apply l_storeF); assumption; rfl; rfl; (repeat (first | exact Upd.head | apply Upd.tail)); rfl; clear hS; intro w hS) | ((with_reducible apply l_store); assumption; rfl; rfl; (repeat (first | exact Upd.head | apply Upd.tail)); rfl; clear hS; intro w hS; simp only [splice] at hS; try rw [splice_nil] at hS))
  go_ret2
  exact ⟨rfl, rfl⟩
/-- A digit's value to the base 16; 16: it is none. -/
def dgR (n : Nat) : Nat := if 48 ≤ n ∧ n ≤ 57 then n - 48 else if 97 ≤ n ∧ n ≤ 102 then n - 97 + 10 else if 65 ≤ n ∧ n ≤ 70 then n - 65 + 10 else 16
theorem digit_0 (w0 : World) (n : Nat) (h1 : 0 ≤ n) (h2 : n ≤ 47) : Calls Tryz.prog 299 #[.int .u8 (n : Int)] w0 fun en w' => en = .returned (.int .u64 ((dgR n : Nat) : Int)) ∧ w' = w0 := by
  have hd : dgR n = 16 := by unfold dgR; repeat (first | (rw [if_pos (by omega)]) | (rw [if_neg (by omega)]))
  rw [hd]
  have f0 : decide ((48 : Int) ≤ (n : Int)) = false := by simp; omega
  have f1 : decide ((n : Int) ≤ 57) = true := by simp; omega
  have f2 : decide ((97 : Int) ≤ (n : Int)) = false := by simp; omega
  have f3 : decide ((n : Int) ≤ 102) = true := by simp; omega
  have f4 : decide ((65 : Int) ≤ (n : Int)) = false := by simp; omega
  have f5 : decide ((n : Int) ≤ 70) = true := by simp; omega
  go_enter Tryz.func299, Tryz.ntmps299
  go_wp2_with (first | ((with_reducible apply l_want); rfl) | ((with_reducible apply l_alloc); assumption; rfl; clear hS; intro b w hS) | ((with_reducible apply l_box); assumption; rfl; clear hS; intro b w hS) | ((with_reducible apply l_load); assumption; rfl; (repeat (first | exact Has.head | apply Has.tail)); (first | rfl | (simp [takeV]; done))) | ((with_reducible apply l_build); rfl; (simp [fillL, splice, Value.cells, Act.eval]; rfl)) | ((with_reducible apply l_buildA); rfl; (simp [fillL, splice, Value.cells, Act.eval]; rfl)) | ((with_reducible apply l_bslice); assumption; rfl; rfl; (first | (simp [fillL, splice, zeros, Value.cells, Act.eval]; rfl) | rfl); clear hS; intro b w hS) | ((with_reducible apply l_storeF); assumption; rfl; rfl; (repeat (first | exact Upd.head | apply Upd.tail)); rfl; clear hS; intro w hS) | ((with_reducible apply l_store); assumption; rfl; rfl; (repeat (first | exact Upd.head | apply Upd.tail)); rfl; clear hS; intro w hS; simp only [splice] at hS; try rw [splice_nil] at hS))
  go_ret
  refine ⟨?_, rfl⟩
  rfl
theorem digit_1 (w0 : World) (n : Nat) (h1 : 48 ≤ n) (h2 : n ≤ 57) : Calls Tryz.prog 299 #[.int .u8 (n : Int)] w0 fun en w' => en = .returned (.int .u64 ((dgR n : Nat) : Int)) ∧ w' = w0 := by
  have hd : dgR n = n - 48 := by unfold dgR; repeat (first | (rw [if_pos (by omega)]) | (rw [if_neg (by omega)]))
  rw [hd]
  have f0 : decide ((48 : Int) ≤ (n : Int)) = true := by simp; omega
  have f1 : decide ((n : Int) ≤ 57) = true := by simp; omega
  have f2 : decide ((97 : Int) ≤ (n : Int)) = false := by simp; omega
  have f3 : decide ((n : Int) ≤ 102) = true := by simp; omega
  have f4 : decide ((65 : Int) ≤ (n : Int)) = false := by simp; omega
  have f5 : decide ((n : Int) ≤ 70) = true := by simp; omega
  go_enter Tryz.func299, Tryz.ntmps299
  go_wp2_with (first | ((with_reducible apply l_want); rfl) | ((with_reducible apply l_alloc); assumption; rfl; clear hS; intro b w hS) | ((with_reducible apply l_box); assumption; rfl; clear hS; intro b w hS) | ((with_reducible apply l_load); assumption; rfl; (repeat (first | exact Has.head | apply Has.tail)); (first | rfl | (simp [takeV]; done))) | ((with_reducible apply l_build); rfl; (simp [fillL, splice, Value.cells, Act.eval]; rfl)) | ((with_reducible apply l_buildA); rfl; (simp [fillL, splice, Value.cells, Act.eval]; rfl)) | ((with_reducible apply l_bslice); assumption; rfl; rfl; (first | (simp [fillL, splice, zeros, Value.cells, Act.eval]; rfl) | rfl); clear hS; intro b w hS) | ((with_reducible apply l_storeF); assumption; rfl; rfl; (repeat (first | exact Upd.head | apply Upd.tail)); rfl; clear hS; intro w hS) | ((with_reducible apply l_store); assumption; rfl; rfl; (repeat (first | exact Upd.head | apply Upd.tail)); rfl; clear hS; intro w hS; simp only [splice] at hS; try rw [splice_nil] at hS))
  go_ret
  refine ⟨?_, rfl⟩
  rw [show ((n - 48 : Nat) : Int) = (n : Int) - 48 by omega]
  rfl
theorem digit_2 (w0 : World) (n : Nat) (h1 : 58 ≤ n) (h2 : n ≤ 64) : Calls Tryz.prog 299 #[.int .u8 (n : Int)] w0 fun en w' => en = .returned (.int .u64 ((dgR n : Nat) : Int)) ∧ w' = w0 := by
  have hd : dgR n = 16 := by unfold dgR; repeat (first | (rw [if_pos (by omega)]) | (rw [if_neg (by omega)]))
  rw [hd]
  have f0 : decide ((48 : Int) ≤ (n : Int)) = true := by simp; omega
  have f1 : decide ((n : Int) ≤ 57) = false := by simp; omega
  have f2 : decide ((97 : Int) ≤ (n : Int)) = false := by simp; omega
  have f3 : decide ((n : Int) ≤ 102) = true := by simp; omega
  have f4 : decide ((65 : Int) ≤ (n : Int)) = false := by simp; omega
  have f5 : decide ((n : Int) ≤ 70) = true := by simp; omega
  go_enter Tryz.func299, Tryz.ntmps299
  go_wp2_with (first | ((with_reducible apply l_want); rfl) | ((with_reducible apply l_alloc); assumption; rfl; clear hS; intro b w hS) | ((with_reducible apply l_box); assumption; rfl; clear hS; intro b w hS) | ((with_reducible apply l_load); assumption; rfl; (repeat (first | exact Has.head | apply Has.tail)); (first | rfl | (simp [takeV]; done))) | ((with_reducible apply l_build); rfl; (simp [fillL, splice, Value.cells, Act.eval]; rfl)) | ((with_reducible apply l_buildA); rfl; (simp [fillL, splice, Value.cells, Act.eval]; rfl)) | ((with_reducible apply l_bslice); assumption; rfl; rfl; (first | (simp [fillL, splice, zeros, Value.cells, Act.eval]; rfl) | rfl); clear hS; intro b w hS) | ((with_reducible apply l_storeF); assumption; rfl; rfl; (repeat (first | exact Upd.head | apply Upd.tail)); rfl; clear hS; intro w hS) | ((with_reducible apply l_store); assumption; rfl; rfl; (repeat (first | exact Upd.head | apply Upd.tail)); rfl; clear hS; intro w hS; simp only [splice] at hS; try rw [splice_nil] at hS))
  go_ret
  refine ⟨?_, rfl⟩
  rfl
theorem digit_3 (w0 : World) (n : Nat) (h1 : 65 ≤ n) (h2 : n ≤ 70) : Calls Tryz.prog 299 #[.int .u8 (n : Int)] w0 fun en w' => en = .returned (.int .u64 ((dgR n : Nat) : Int)) ∧ w' = w0 := by
  have hd : dgR n = n - 65 + 10 := by unfold dgR; repeat (first | (rw [if_pos (by omega)]) | (rw [if_neg (by omega)]))
  rw [hd]
  have f0 : decide ((48 : Int) ≤ (n : Int)) = true := by simp; omega
  have f1 : decide ((n : Int) ≤ 57) = false := by simp; omega
  have f2 : decide ((97 : Int) ≤ (n : Int)) = false := by simp; omega
  have f3 : decide ((n : Int) ≤ 102) = true := by simp; omega
  have f4 : decide ((65 : Int) ≤ (n : Int)) = true := by simp; omega
  have f5 : decide ((n : Int) ≤ 70) = true := by simp; omega
  go_enter Tryz.func299, Tryz.ntmps299
  go_wp2_with (first | ((with_reducible apply l_want); rfl) | ((with_reducible apply l_alloc); assumption; rfl; clear hS; intro b w hS) | ((with_reducible apply l_box); assumption; rfl; clear hS; intro b w hS) | ((with_reducible apply l_load); assumption; rfl; (repeat (first | exact Has.head | apply Has.tail)); (first | rfl | (simp [takeV]; done))) | ((with_reducible apply l_build); rfl; (simp [fillL, splice, Value.cells, Act.eval]; rfl)) | ((with_reducible apply l_buildA); rfl; (simp [fillL, splice, Value.cells, Act.eval]; rfl)) | ((with_reducible apply l_bslice); assumption; rfl; rfl; (first | (simp [fillL, splice, zeros, Value.cells, Act.eval]; rfl) | rfl); clear hS; intro b w hS) | ((with_reducible apply l_storeF); assumption; rfl; rfl; (repeat (first | exact Upd.head | apply Upd.tail)); rfl; clear hS; intro w hS) | ((with_reducible apply l_store); assumption; rfl; rfl; (repeat (first | exact Upd.head | apply Upd.tail)); rfl; clear hS; intro w hS; simp only [splice] at hS; try rw [splice_nil] at hS))
  go_ret
  refine ⟨?_, rfl⟩
  rw [show ((n - 65 + 10 : Nat) : Int) = (n : Int) - 65 + 10 by omega]
  rfl
theorem digit_4 (w0 : World) (n : Nat) (h1 : 71 ≤ n) (h2 : n ≤ 96) : Calls Tryz.prog 299 #[.int .u8 (n : Int)] w0 fun en w' => en = .returned (.int .u64 ((dgR n : Nat) : Int)) ∧ w' = w0 := by
  have hd : dgR n = 16 := by unfold dgR; repeat (first | (rw [if_pos (by omega)]) | (rw [if_neg (by omega)]))
  rw [hd]
  have f0 : decide ((48 : Int) ≤ (n : Int)) = true := by simp; omega
  have f1 : decide ((n : Int) ≤ 57) = false := by simp; omega
  have f2 : decide ((97 : Int) ≤ (n : Int)) = false := by simp; omega
  have f3 : decide ((n : Int) ≤ 102) = true := by simp; omega
  have f4 : decide ((65 : Int) ≤ (n : Int)) = true := by simp; omega
  have f5 : decide ((n : Int) ≤ 70) = false := by simp; omega
  go_enter Tryz.func299, Tryz.ntmps299
  go_wp2_with (first | ((with_reducible apply l_want); rfl) | ((with_reducible apply l_alloc); assumption; rfl; clear hS; intro b w hS) | ((with_reducible apply l_box); assumption; rfl; clear hS; intro b w hS) | ((with_reducible apply l_load); assumption; rfl; (repeat (first | exact Has.head | apply Has.tail)); (first | rfl | (simp [takeV]; done))) | ((with_reducible apply l_build); rfl; (simp [fillL, splice, Value.cells, Act.eval]; rfl)) | ((with_reducible apply l_buildA); rfl; (simp [fillL, splice, Value.cells, Act.eval]; rfl)) | ((with_reducible apply l_bslice); assumption; rfl; rfl; (first | (simp [fillL, splice, zeros, Value.cells, Act.eval]; rfl) | rfl); clear hS; intro b w hS) | ((with_reducible apply l_storeF); assumption; rfl; rfl; (repeat (first | exact Upd.head | apply Upd.tail)); rfl; clear hS; intro w hS) | ((with_reducible apply l_store); assumption; rfl; rfl; (repeat (first | exact Upd.head | apply Upd.tail)); rfl; clear hS; intro w hS; simp only [splice] at hS; try rw [splice_nil] at hS))
  go_ret
  refine ⟨?_, rfl⟩
  rfl
theorem digit_5 (w0 : World) (n : Nat) (h1 : 97 ≤ n) (h2 : n ≤ 102) : Calls Tryz.prog 299 #[.int .u8 (n : Int)] w0 fun en w' => en = .returned (.int .u64 ((dgR n : Nat) : Int)) ∧ w' = w0 := by
  have hd : dgR n = n - 97 + 10 := by unfold dgR; repeat (first | (rw [if_pos (by omega)]) | (rw [if_neg (by omega)]))
  rw [hd]
  have f0 : decide ((48 : Int) ≤ (n : Int)) = true := by simp; omega
  have f1 : decide ((n : Int) ≤ 57) = false := by simp; omega
  have f2 : decide ((97 : Int) ≤ (n : Int)) = true := by simp; omega
  have f3 : decide ((n : Int) ≤ 102) = true := by simp; omega
  have f4 : decide ((65 : Int) ≤ (n : Int)) = true := by simp; omega
  have f5 : decide ((n : Int) ≤ 70) = false := by simp; omega
  go_enter Tryz.func299, Tryz.ntmps299
  go_wp2_with (first | ((with_reducible apply l_want); rfl) | ((with_reducible apply l_alloc); assumption; rfl; clear hS; intro b w hS) | ((with_reducible apply l_box); assumption; rfl; clear hS; intro b w hS) | ((with_reducible apply l_load); assumption; rfl; (repeat (first | exact Has.head | apply Has.tail)); (first | rfl | (simp [takeV]; done))) | ((with_reducible apply l_build); rfl; (simp [fillL, splice, Value.cells, Act.eval]; rfl)) | ((with_reducible apply l_buildA); rfl; (simp [fillL, splice, Value.cells, Act.eval]; rfl)) | ((with_reducible apply l_bslice); assumption; rfl; rfl; (first | (simp [fillL, splice, zeros, Value.cells, Act.eval]; rfl) | rfl); clear hS; intro b w hS) | ((with_reducible apply l_storeF); assumption; rfl; rfl; (repeat (first | exact Upd.head | apply Upd.tail)); rfl; clear hS; intro w hS) | ((with_reducible apply l_store); assumption; rfl; rfl; (repeat (first | exact Upd.head | apply Upd.tail)); rfl; clear hS; intro w hS; simp only [splice] at hS; try rw [splice_nil] at hS))
  go_ret
  refine ⟨?_, rfl⟩
  rw [show ((n - 97 + 10 : Nat) : Int) = (n : Int) - 97 + 10 by omega]
  rfl
theorem digit_6 (w0 : World) (n : Nat) (h1 : 103 ≤ n) (h2 : n ≤ 255) : Calls Tryz.prog 299 #[.int .u8 (n : Int)] w0 fun en w' => en = .returned (.int .u64 ((dgR n : Nat) : Int)) ∧ w' = w0 := by
  have hd : dgR n = 16 := by unfold dgR; repeat (first | (rw [if_pos (by omega)]) | (rw [if_neg (by omega)]))
  rw [hd]
  have f0 : decide ((48 : Int) ≤ (n : Int)) = true := by simp; omega
  have f1 : decide ((n : Int) ≤ 57) = false := by simp; omega
  have f2 : decide ((97 : Int) ≤ (n : Int)) = true := by simp; omega
  have f3 : decide ((n : Int) ≤ 102) = false := by simp; omega
  have f4 : decide ((65 : Int) ≤ (n : Int)) = true := by simp; omega
  have f5 : decide ((n : Int) ≤ 70) = false := by simp; omega
  go_enter Tryz.func299, Tryz.ntmps299
  go_wp2_with (first | ((with_reducible apply l_want); rfl) | ((with_reducible apply l_alloc); assumption; rfl; clear hS; intro b w hS) | ((with_reducible apply l_box); assumption; rfl; clear hS; intro b w hS) | ((with_reducible apply l_load); assumption; rfl; (repeat (first | exact Has.head | apply Has.tail)); (first | rfl | (simp [takeV]; done))) | ((with_reducible apply l_build); rfl; (simp [fillL, splice, Value.cells, Act.eval]; rfl)) | ((with_reducible apply l_buildA); rfl; (simp [fillL, splice, Value.cells, Act.eval]; rfl)) | ((with_reducible apply l_bslice); assumption; rfl; rfl; (first | (simp [fillL, splice, zeros, Value.cells, Act.eval]; rfl) | rfl); clear hS; intro b w hS) | ((with_reducible apply l_storeF); assumption; rfl; rfl; (repeat (first | exact Upd.head | apply Upd.tail)); rfl; clear hS; intro w hS) | ((with_reducible apply l_store); assumption; rfl; rfl; (repeat (first | exact Upd.head | apply Upd.tail)); rfl; clear hS; intro w hS; simp only [splice] at hS; try rw [splice_nil] at hS))
  go_ret
  refine ⟨?_, rfl⟩
  rfl
theorem rdigit_c (w0 : World) (c : UInt8) : Calls Tryz.prog 299 #[.int .u8 (c.toNat : Int)] w0 fun en w' => en = .returned (.int .u64 ((dgR c.toNat : Nat) : Int)) ∧ w' = w0 := by
  have h := c.toNat_lt
  by_cases h0 : c.toNat ≤ 47
  · exact digit_0 w0 _ (by omega) h0
  by_cases h1 : c.toNat ≤ 57
  · exact digit_1 w0 _ (by omega) h1
  by_cases h2 : c.toNat ≤ 64
  · exact digit_2 w0 _ (by omega) h2
  by_cases h3 : c.toNat ≤ 70
  · exact digit_3 w0 _ (by omega) h3
  by_cases h4 : c.toNat ≤ 96
  · exact digit_4 w0 _ (by omega) h4
  by_cases h5 : c.toNat ≤ 102
  · exact digit_5 w0 _ (by omega) h5
  · exact digit_6 w0 _ (by omega) (by omega)
theorem dgR_dig (c : UInt8) : (dgR c.toNat < 10 ↔ digB c = true) ∧ (digB c = true → dgR c.toNat = c.toNat - 48) ∧ dgR c.toNat ≤ 16 := by
  have h := c.toNat_lt
  have hb : digB c = true ↔ 48 ≤ c.toNat ∧ c.toNat ≤ 57 := by simp [digB]
  rw [hb]
  unfold dgR
  refine ⟨?_, fun h2 => by rw [if_pos h2], ?_⟩
  · split
    · omega
    · split
      · omega
      · split <;> omega
  · split
    · omega
    · split
      · omega
      · split <;> omega
def hex16 : List UInt8 := [48, 49, 50, 51, 52, 53, 54, 55, 56, 57, 97, 98, 99, 100, 101, 102]
theorem hex_fin : ∀ k : Fin 10, (hex16.take (k.val + 1)).drop k.val = [UInt8.ofNat (48 + k.val)] := by decide +kernel
theorem slice_hex (k : Nat) (hk : k < 10) (W : World) : (Instr.sliceAt 9 (.string ⟨#[48, 49, 50, 51, 52, 53, 54, 55, 56, 57, 97, 98, 99, 100, 101, 102]⟩) (some (.int .u64 (k : Int))) (some (.int .u64 ((k : Int) + 1))) none).run Tryz.prog W = .ok (txt [UInt8.ofNat (48 + k)]) W := by
  have hu : Tryz.prog.underlying 9 = some .string := Str.str
  have e : (ByteArray.mk hex16.toArray).extract k (k + 1) = ⟨[UInt8.ofNat (48 + k)].toArray⟩ := by rw [extract_mk, hex_fin ⟨k, hk⟩]
  have h3 : (k : Int) ≤ (k : Int) + 1 := by omega
  have h4 : (k : Int) + 1 ≤ 16 := by omega
  have e2 : ((k : Int) + 1).toNat = k + 1 := by omega
  have e3 : (0 : Int) ≤ (k : Int) + 1 := by omega
  have hz : (ByteArray.mk #[48, 49, 50, 51, 52, 53, 54, 55, 56, 57, 97, 98, 99, 100, 101, 102]).size = 16 := rfl
  have e4 : (ByteArray.mk #[48, 49, 50, 51, 52, 53, 54, 55, 56, 57, 97, 98, 99, 100, 101, 102]).extract k (k + 1) = ⟨[UInt8.ofNat (48 + k)].toArray⟩ := e
  simp [go_sem, hu, hz, h3, h4, e2, e3, e4]
theorem dec_step (m : Nat) (h : ¬ m < 10) : Lib.decDigits m = Lib.decDigits (m / 10) ++ [UInt8.ofNat (48 + m % 10)] := by
  rw [Lib.decDigits, dif_neg h]
/-- A number's text, digit by digit. -/
theorem rtold_c (w0 : World) (u : Nat) (hu : u < 18446744073709551616) : Calls Tryz.prog 200 #[.int .u64 (u : Int), .int .u64 10] w0 fun e w' => e = .returned (txt (Lib.decDigits u)) ∧ Fr [] w0 w' := by
  obtain ⟨R, hR⟩ : ∃ R, R = Lib.decDigits u := ⟨_, rfl⟩
  rw [← hR]
  have hRl : R.length ≤ 20 := by
    rw [hR, Lib.decDigits_length]
    by_cases h0 : u < 10
    · rw [Lib.nDigits_small h0]; omega
    · have := Lib.numDigits_eq u (by omega) hu
      split at this <;> omega
  have HR := Lib.hid hR
  clear hR
  go_enter Tryz.func200, Tryz.ntmps200
  have hS := St.start [] w0
  go_wp2_with (first | ((with_reducible apply l_want); rfl) | ((with_reducible apply l_alloc); assumption; rfl; clear hS; intro b w hS) | ((with_reducible apply l_box); assumption; rfl; clear hS; intro b w hS) | ((with_reducible apply l_load); assumption; rfl; (repeat (first | exact Has.head | apply Has.tail)); (first | rfl | (simp [takeV]; done))) | ((with_reducible apply l_build); rfl; (simp [fillL, splice, Value.cells, Act.eval]; rfl)) | ((with_reducible apply l_buildA); rfl; (simp [fillL, splice, Value.cells, Act.eval]; rfl)) | ((with_reducible apply l_bslice); assumption; rfl; rfl; (first | (simp [fillL, splice, zeros, Value.cells, Act.eval]; rfl) | rfl); clear hS; intro b w hS) | ((with_reducible apply l_storeF); assumption; rfl; rfl; (repeat (first | exact Upd.head | apply Upd.tail)); rfl; clear hS; intro w hS) | ((with_reducible apply l_store); assumption; rfl; rfl; (repeat (first | exact Upd.head | apply Upd.tail)); rfl; clear hS; intro w hS; simp only [splice] at hS; try rw [splice_nil] at hS))
  go_loopg [0, 5] u (fun g t0 t5 wr => ∃ (m : Nat) (s : List UInt8), g = m ∧ m ≤ u ∧ t0 = .int .u64 (m : Int) ∧ t5 = txt s ∧ Hid (R = Lib.decDigits m ++ s) ∧ St [] w0 wr [])
  case atStart => exact ⟨u, [], rfl, Nat.le_refl _, rfl, rfl, Lib.hid (by rw [HR.out]; simp), hS⟩
  case round =>
    obtain ⟨m, s, rfl, hmu, rfl, rfl, HT, hS⟩ := hrel
    have hsl : s.length ≤ 20 := by
      have := congrArg List.length HT.out
      rw [List.length_append] at this
      omega
    obtain ⟨k, hk⟩ : ∃ k, k = gk % 10 := ⟨_, rfl⟩
    have hk10 : k < 10 := by omega
    have hmod : Int.tmod (gk : Int) 10 = (k : Int) := by
      rw [hk, Int.tmod_eq_emod_of_nonneg (by omega)]
      rfl
    obtain ⟨q, hq⟩ : ∃ q, q = gk / 10 := ⟨_, rfl⟩
    have hdiv : Int.tdiv (gk : Int) 10 = (q : Int) := by
      rw [hq, Int.tdiv_eq_ediv_of_nonneg (by omega)]
      rfl
    have hqu : q ≤ u := by omega
    have hsx := slice_hex k hk10
    obtain ⟨d, hd⟩ : ∃ d, d = UInt8.ofNat (48 + k) := ⟨_, rfl⟩
    rw [← hd] at hsx
    by_cases hz : gk < 10
    · have hq0 : ((q : Int) == 0) = true := by simp; omega
      have hkg : k = gk := by omega
      have HN : Hid (R = [d] ++ s) := Lib.hid (by rw [HT.out, Lib.decDigits_one hz, hd, hkg])
      clear hkg
      clear hk hq HT hz hd
      go_wp2_with (first | ((with_reducible apply l_want); rfl) | ((with_reducible apply l_cat (l := [d]) (m := s)); rfl; rfl; (simp; omega)) | ((with_reducible apply l_alloc); assumption; rfl; clear hS; intro b w hS) | ((with_reducible apply l_box); assumption; rfl; clear hS; intro b w hS) | ((with_reducible apply l_load); assumption; rfl; (repeat (first | exact Has.head | apply Has.tail)); (first | rfl | (simp [takeV]; done))) | ((with_reducible apply l_build); rfl; (simp [fillL, splice, Value.cells, Act.eval]; rfl)) | ((with_reducible apply l_buildA); rfl; (simp [fillL, splice, Value.cells, Act.eval]; rfl)) | ((with_reducible apply l_bslice); assumption; rfl; rfl; (first | (simp [fillL, splice, zeros, Value.cells, Act.eval]; rfl) | rfl); clear hS; intro b w hS) | ((with_reducible apply l_storeF); assumption; rfl; rfl; (repeat (first | exact Upd.head | apply Upd.tail)); rfl; clear hS; intro w hS) | ((with_reducible apply l_store); assumption; rfl; rfl; (repeat (first | exact Upd.head | apply Upd.tail)); rfl; clear hS; intro w hS; simp only [splice] at hS; try rw [splice_nil] at hS))
      go_ret
      exact ⟨by rw [HN.out]; rfl, hS.fr⟩
    · have hq0 : ((q : Int) == 0) = false := by simp; omega
      have HN : Hid (R = Lib.decDigits q ++ ([d] ++ s)) := Lib.hid (by rw [HT.out, dec_step gk hz, hd, hk, hq, List.append_assoc])
      have hlt : q < gk := by omega
      clear hk hq HT hz hd
      go_wp2_with (first | ((with_reducible apply l_want); rfl) | ((with_reducible apply l_cat (l := [d]) (m := s)); rfl; rfl; (simp; omega)) | ((with_reducible apply l_alloc); assumption; rfl; clear hS; intro b w hS) | ((with_reducible apply l_box); assumption; rfl; clear hS; intro b w hS) | ((with_reducible apply l_load); assumption; rfl; (repeat (first | exact Has.head | apply Has.tail)); (first | rfl | (simp [takeV]; done))) | ((with_reducible apply l_build); rfl; (simp [fillL, splice, Value.cells, Act.eval]; rfl)) | ((with_reducible apply l_buildA); rfl; (simp [fillL, splice, Value.cells, Act.eval]; rfl)) | ((with_reducible apply l_bslice); assumption; rfl; rfl; (first | (simp [fillL, splice, zeros, Value.cells, Act.eval]; rfl) | rfl); clear hS; intro b w hS) | ((with_reducible apply l_storeF); assumption; rfl; rfl; (repeat (first | exact Upd.head | apply Upd.tail)); rfl; clear hS; intro w hS) | ((with_reducible apply l_store); assumption; rfl; rfl; (repeat (first | exact Upd.head | apply Upd.tail)); rfl; clear hS; intro w hS; simp only [splice] at hS; try rw [splice_nil] at hS))
      go_roundg q
      case measure => exact hlt
      case rel => exact ⟨q, _, rfl, hqu, rfl, rfl, HN, hS⟩
theorem rtext_c (w0 : World) (u : Nat) (hu : u < 18446744073709551616) : Calls Tryz.prog 132 #[.int .u64 (u : Int)] w0 fun e w' => e = .returned (txt (Lib.decDigits u)) ∧ Fr [] w0 w' := by
  go_enter Tryz.func132, Tryz.ntmps132
  have hS := St.start [] w0
  go_wp2_with (first | ((with_reducible apply l_want); rfl) | (go_at_call 200; go_must (refine (rtold_c _ u hu).mono ?_); rintro en w1 ⟨rfl, hf1⟩; replace hS := hS.keep hf1) | ((with_reducible apply l_alloc); assumption; rfl; clear hS; intro b w hS) | ((with_reducible apply l_box); assumption; rfl; clear hS; intro b w hS) | ((with_reducible apply l_load); assumption; rfl; (repeat (first | exact Has.head | apply Has.tail)); (first | rfl | (simp [takeV]; done))) | ((with_reducible apply l_build); rfl; (simp [fillL, splice, Value.cells, Act.eval]; rfl)) | ((with_reducible apply l_buildA); rfl; (simp [fillL, splice, Value.cells, Act.eval]; rfl)) | ((with_reducible apply l_bslice); assumption; rfl; rfl; (first | (simp [fillL, splice, zeros, Value.cells, Act.eval]; rfl) | rfl); clear hS; intro b w hS) | ((with_reducible apply l_storeF); assumption; rfl; rfl; (repeat (first | exact Upd.head | apply Upd.tail)); rfl; clear hS; intro w hS) | ((with_reducible apply l_store); assumption; rfl; rfl; (repeat (first | exact Upd.head | apply Upd.tail)); rfl; clear hS; intro w hS; simp only [splice] at hS; try rw [splice_nil] at hS))
  go_ret
  exact ⟨rfl, hS.fr⟩
theorem rread_0 (w0 : World) : Calls Tryz.prog 244 #[txt [], .int .u64 10] w0 fun e w' => e = .returned (.tuple #[.int .u64 0, .int .i64 110]) ∧ Fr [] w0 w' := by
  go_enter Tryz.func244, Tryz.ntmps244
  have hS := St.start [] w0
  go_wp2_with (first | ((with_reducible apply l_want); rfl) | ((with_reducible apply l_alloc); assumption; rfl; clear hS; intro b w hS) | ((with_reducible apply l_box); assumption; rfl; clear hS; intro b w hS) | ((with_reducible apply l_load); assumption; rfl; (repeat (first | exact Has.head | apply Has.tail)); (first | rfl | (simp [takeV]; done))) | ((with_reducible apply l_build); rfl; (simp [fillL, splice, Value.cells, Act.eval]; rfl)) | ((with_reducible apply l_buildA); rfl; (simp [fillL, splice, Value.cells, Act.eval]; rfl)) | ((with_reducible apply l_bslice); assumption; rfl; rfl; (first | (simp [fillL, splice, zeros, Value.cells, Act.eval]; rfl) | rfl); clear hS; intro b w hS) | ((with_reducible apply l_storeF); assumption; rfl; rfl; (repeat (first | exact Upd.head | apply Upd.tail)); rfl; clear hS; intro w hS) | ((with_reducible apply l_store); assumption; rfl; rfl; (repeat (first | exact Upd.head | apply Upd.tail)); rfl; clear hS; intro w hS; simp only [splice] at hS; try rw [splice_nil] at hS))
  go_ret2
  exact ⟨rfl, hS.fr⟩
theorem rread_a (w0 : World) (l : List UInt8) (hne : l ≠ []) (hl : l.length ≤ 1099511627776) (hd : l.all digB = false) : Calls Tryz.prog 244 #[txt l, .int .u64 10] w0 fun e w' => e = .returned (.tuple #[.int .u64 0, .int .i64 110]) ∧ Fr [] w0 w' := by
  have hz : ((l.length : Int) == 0) = false := by
    simp only [beq_eq_false_iff_ne, ne_eq]
    have := List.length_pos_iff.2 hne
    omega
  have Hd := Lib.hid hd
  clear hd
  go_enter Tryz.func244, Tryz.ntmps244
  have hS := St.start [] w0
  go_wp2_with (first | ((with_reducible apply l_want); rfl) | ((with_reducible apply l_alloc); assumption; rfl; clear hS; intro b w hS) | ((with_reducible apply l_box); assumption; rfl; clear hS; intro b w hS) | ((with_reducible apply l_load); assumption; rfl; (repeat (first | exact Has.head | apply Has.tail)); (first | rfl | (simp [takeV]; done))) | ((with_reducible apply l_build); rfl; (simp [fillL, splice, Value.cells, Act.eval]; rfl)) | ((with_reducible apply l_buildA); rfl; (simp [fillL, splice, Value.cells, Act.eval]; rfl)) | ((with_reducible apply l_bslice); assumption; rfl; rfl; (first | (simp [fillL, splice, zeros, Value.cells, Act.eval]; rfl) | rfl); clear hS; intro b w hS) | ((with_reducible apply l_storeF); assumption; rfl; rfl; (repeat (first | exact Upd.head | apply Upd.tail)); rfl; clear hS; intro w hS) | ((with_reducible apply l_store); assumption; rfl; rfl; (repeat (first | exact Upd.head | apply Upd.tail)); rfl; clear hS; intro w hS; simp only [splice] at hS; try rw [splice_nil] at hS))
  go_loopg [6] l.length (fun g t6 wr => ∃ i : Nat, i + g = l.length ∧ t6 = .int .i64 (i : Int) ∧ Hid ((l.take i).all digB = true) ∧ St [] w0 wr [])
  case atStart => exact ⟨0, by omega, rfl, Lib.hid rfl, hS⟩
  case round =>
    obtain ⟨i, hig, rfl, HT, hS⟩ := hrel
    by_cases hi : i < l.length
    · obtain ⟨x, hx⟩ : ∃ x, l[i]? = some x := ⟨_, List.getElem?_eq_getElem hi⟩
      have hgx := getElem_mk l i x hx
      have hal := all_at' digB l i x hx HT.out
      have hdg := dgR_dig x
      obtain ⟨d, hdd⟩ : ∃ d, d = dgR x.toNat := ⟨_, rfl⟩
      have hdc := fun W => rdigit_c W x
      rw [← hdd] at hdc hdg
      have Hdc := Lib.hid hdc
      cases hb : digB x with
      | true =>
        have HN := Lib.hid (hal.1 hb)
        have hc : decide ((10 : Int) ≤ (d : Int)) = false := by
          have := hdg.1.2 hb
          simp; omega
        clear hx hal hdg hdd hdc hb HT
        go_wp2_with (first | ((with_reducible apply l_want); rfl) | (go_at_call 299; go_must (refine (Hdc.out _).mono ?_); rintro en w1 ⟨rfl, rfl⟩) | ((with_reducible apply l_alloc); assumption; rfl; clear hS; intro b w hS) | ((with_reducible apply l_box); assumption; rfl; clear hS; intro b w hS) | ((with_reducible apply l_load); assumption; rfl; (repeat (first | exact Has.head | apply Has.tail)); (first | rfl | (simp [takeV]; done))) | ((with_reducible apply l_build); rfl; (simp [fillL, splice, Value.cells, Act.eval]; rfl)) | ((with_reducible apply l_buildA); rfl; (simp [fillL, splice, Value.cells, Act.eval]; rfl)) | ((with_reducible apply l_bslice); assumption; rfl; rfl; (first | (simp [fillL, splice, zeros, Value.cells, Act.eval]; rfl) | rfl); clear hS; intro b w hS) | ((with_reducible apply l_storeF); assumption; rfl; rfl; (repeat (first | exact Upd.head | apply Upd.tail)); rfl; clear hS; intro w hS) | ((with_reducible apply l_store); assumption; rfl; rfl; (repeat (first | exact Upd.head | apply Upd.tail)); rfl; clear hS; intro w hS; simp only [splice] at hS; try rw [splice_nil] at hS))
        go_roundg (gk - 1)
        case measure => omega
        case rel => exact ⟨i + 1, by omega, by go_num, HN, hS⟩
      | false =>
        have hc : decide ((10 : Int) ≤ (d : Int)) = true := by
          have : ¬ d < 10 := fun h => by rw [hdg.1.1 h] at hb; cases hb
          simp; omega
        clear hx hal hdg hdd hdc hb HT
        go_wp2_with (first | ((with_reducible apply l_want); rfl) | (go_at_call 299; go_must (refine (Hdc.out _).mono ?_); rintro en w1 ⟨rfl, rfl⟩) | ((with_reducible apply l_alloc); assumption; rfl; clear hS; intro b w hS) | ((with_reducible apply l_box); assumption; rfl; clear hS; intro b w hS) | ((with_reducible apply l_load); assumption; rfl; (repeat (first | exact Has.head | apply Has.tail)); (first | rfl | (simp [takeV]; done))) | ((with_reducible apply l_build); rfl; (simp [fillL, splice, Value.cells, Act.eval]; rfl)) | ((with_reducible apply l_buildA); rfl; (simp [fillL, splice, Value.cells, Act.eval]; rfl)) | ((with_reducible apply l_bslice); assumption; rfl; rfl; (first | (simp [fillL, splice, zeros, Value.cells, Act.eval]; rfl) | rfl); clear hS; intro b w hS) | ((with_reducible apply l_storeF); assumption; rfl; rfl; (repeat (first | exact Upd.head | apply Upd.tail)); rfl; clear hS; intro w hS) | ((with_reducible apply l_store); assumption; rfl; rfl; (repeat (first | exact Upd.head | apply Upd.tail)); rfl; clear hS; intro w hS; simp only [splice] at hS; try rw [splice_nil] at hS))
        go_ret2
        exact ⟨rfl, hS.fr⟩
    · exfalso
      have h1 := HT.out
      rw [List.take_of_length_le (by omega), Hd.out] at h1
      cases h1
theorem rread_b (w0 : World) (l : List UInt8) (hne : l ≠ []) (hl : l.length ≤ 1099511627776) (hd : l.all digB = true) : Calls Tryz.prog 244 #[txt l, .int .u64 10] w0 fun e w' => e = .returned (match foldD 0 l with | some m => .tuple #[.int .u64 (m : Int), .int .i64 0] | none => .tuple #[.int .u64 0, .int .i64 111]) ∧ Fr [] w0 w' := by
  obtain ⟨R, hR⟩ : ∃ R : Value, R = (match foldD 0 l with | some m => .tuple #[.int .u64 (m : Int), .int .i64 0] | none => .tuple #[.int .u64 0, .int .i64 111]) := ⟨_, rfl⟩
  rw [← hR]
  have HR := Lib.hid hR
  have hz : ((l.length : Int) == 0) = false := by
    simp only [beq_eq_false_iff_ne, ne_eq]
    have := List.length_pos_iff.2 hne
    omega
  have Hd := Lib.hid hd
  clear hd hR
  go_enter Tryz.func244, Tryz.ntmps244
  have hS := St.start [] w0
  go_wp2_with (first | ((with_reducible apply l_want); rfl) | ((with_reducible apply l_alloc); assumption; rfl; clear hS; intro b w hS) | ((with_reducible apply l_box); assumption; rfl; clear hS; intro b w hS) | ((with_reducible apply l_load); assumption; rfl; (repeat (first | exact Has.head | apply Has.tail)); (first | rfl | (simp [takeV]; done))) | ((with_reducible apply l_build); rfl; (simp [fillL, splice, Value.cells, Act.eval]; rfl)) | ((with_reducible apply l_buildA); rfl; (simp [fillL, splice, Value.cells, Act.eval]; rfl)) | ((with_reducible apply l_bslice); assumption; rfl; rfl; (first | (simp [fillL, splice, zeros, Value.cells, Act.eval]; rfl) | rfl); clear hS; intro b w hS) | ((with_reducible apply l_storeF); assumption; rfl; rfl; (repeat (first | exact Upd.head | apply Upd.tail)); rfl; clear hS; intro w hS) | ((with_reducible apply l_store); assumption; rfl; rfl; (repeat (first | exact Upd.head | apply Upd.tail)); rfl; clear hS; intro w hS; simp only [splice] at hS; try rw [splice_nil] at hS))
  go_loopg [6] l.length (fun g t6 wr => ∃ i : Nat, i + g = l.length ∧ t6 = .int .i64 (i : Int) ∧ St [] w0 wr [])
  case atStart => exact ⟨0, by omega, rfl, hS⟩
  case round =>
    obtain ⟨i, hig, rfl, hS⟩ := hrel
    by_cases hi : i < l.length
    · obtain ⟨x, hx⟩ : ∃ x, l[i]? = some x := ⟨_, List.getElem?_eq_getElem hi⟩
      have hgx := getElem_mk l i x hx
      have hb := List.all_eq_true.1 Hd.out x (List.mem_of_getElem? hx)
      have hdg := dgR_dig x
      obtain ⟨d, hdd⟩ : ∃ d, d = dgR x.toNat := ⟨_, rfl⟩
      have hdc := fun W => rdigit_c W x
      rw [← hdd] at hdc hdg
      have Hdc := Lib.hid hdc
      have hc : decide ((10 : Int) ≤ (d : Int)) = false := by
        have := hdg.1.2 hb
        simp; omega
      clear hx hdg hdd hdc hb
      go_wp2_with (first | ((with_reducible apply l_want); rfl) | (go_at_call 299; go_must (refine (Hdc.out _).mono ?_); rintro en w1 ⟨rfl, rfl⟩) | ((with_reducible apply l_alloc); assumption; rfl; clear hS; intro b w hS) | ((with_reducible apply l_box); assumption; rfl; clear hS; intro b w hS) | ((with_reducible apply l_load); assumption; rfl; (repeat (first | exact Has.head | apply Has.tail)); (first | rfl | (simp [takeV]; done))) | ((with_reducible apply l_build); rfl; (simp [fillL, splice, Value.cells, Act.eval]; rfl)) | ((with_reducible apply l_buildA); rfl; (simp [fillL, splice, Value.cells, Act.eval]; rfl)) | ((with_reducible apply l_bslice); assumption; rfl; rfl; (first | (simp [fillL, splice, zeros, Value.cells, Act.eval]; rfl) | rfl); clear hS; intro b w hS) | ((with_reducible apply l_storeF); assumption; rfl; rfl; (repeat (first | exact Upd.head | apply Upd.tail)); rfl; clear hS; intro w hS) | ((with_reducible apply l_store); assumption; rfl; rfl; (repeat (first | exact Upd.head | apply Upd.tail)); rfl; clear hS; intro w hS; simp only [splice] at hS; try rw [splice_nil] at hS))
      go_roundg (gk - 1)
      case measure => omega
      case rel => exact ⟨i + 1, by omega, by go_num, hS⟩
    · have hnn : decide ((i : Int) < (l.length : Int)) = false := by simp; omega
      go_wp2_with (first | ((with_reducible apply l_want); rfl) | ((with_reducible apply l_alloc); assumption; rfl; clear hS; intro b w hS) | ((with_reducible apply l_box); assumption; rfl; clear hS; intro b w hS) | ((with_reducible apply l_load); assumption; rfl; (repeat (first | exact Has.head | apply Has.tail)); (first | rfl | (simp [takeV]; done))) | ((with_reducible apply l_build); rfl; (simp [fillL, splice, Value.cells, Act.eval]; rfl)) | ((with_reducible apply l_buildA); rfl; (simp [fillL, splice, Value.cells, Act.eval]; rfl)) | ((with_reducible apply l_bslice); assumption; rfl; rfl; (first | (simp [fillL, splice, zeros, Value.cells, Act.eval]; rfl) | rfl); clear hS; intro b w hS) | ((with_reducible apply l_storeF); assumption; rfl; rfl; (repeat (first | exact Upd.head | apply Upd.tail)); rfl; clear hS; intro w hS) | ((with_reducible apply l_store); assumption; rfl; rfl; (repeat (first | exact Upd.head | apply Upd.tail)); rfl; clear hS; intro w hS; simp only [splice] at hS; try rw [splice_nil] at hS))
      try go_frame
      go_loopg [7, 8] l.length (fun g t7 t8 wr => ∃ i n : Nat, i + g = l.length ∧ t8 = .int .i64 (i : Int) ∧ t7 = .int .u64 (n : Int) ∧ n < 18446744073709551616 ∧ Hid (foldD 0 l = foldD n (l.drop i)) ∧ St [] w0 wr [])
      case atStart => exact ⟨0, 0, by omega, rfl, rfl, by omega, Lib.hid rfl, hS⟩
      case round =>
        obtain ⟨j, n, hjg, rfl, rfl, hn, HT, hS⟩ := hrel
        by_cases hj : j < l.length
        · obtain ⟨x, hx⟩ : ∃ x, l[j]? = some x := ⟨_, List.getElem?_eq_getElem hj⟩
          have hgx := getElem_mk l j x hx
          have hb := List.all_eq_true.1 Hd.out x (List.mem_of_getElem? hx)
          have hdg := dgR_dig x
          have hdr : l.drop j = x :: l.drop (j + 1) := by rw [List.drop_eq_getElem_cons hj, (List.getElem?_eq_some_iff.1 hx).2]
          obtain ⟨d, hdd⟩ : ∃ d, d = dgR x.toNat := ⟨_, rfl⟩
          have hdc := fun W => rdigit_c W x
          rw [← hdd] at hdc hdg
          have Hdc := Lib.hid hdc
          have hd10 := hdg.1.2 hb
          have hst : foldD n (x :: l.drop (j + 1)) = if n * 10 + d < 18446744073709551616 then foldD (n * 10 + d) (l.drop (j + 1)) else none := by rw [hdg.2.1 hb]; simp only [foldD]
          rw [hdr, hst] at HT
          clear hx hdg hdd hdc hb hdr hst
          by_cases h3 : n * 10 < 18446744073709551616
          · by_cases h4 : n * 10 + d < 18446744073709551616
            · have HN : Hid (foldD 0 l = foldD (n * 10 + d) (l.drop (j + 1))) := Lib.hid (by rw [HT.out, if_pos h4])
              clear HT
              go_wp2_with (first | ((with_reducible apply l_want); rfl) | (go_at_call 300; go_must (refine (rmul_t _ n h3).mono ?_); rintro en w1 ⟨rfl, rfl⟩) | (go_at_call 299; go_must (refine (Hdc.out _).mono ?_); rintro en w1 ⟨rfl, rfl⟩) | (go_at_call 301; go_must (refine (radd_t _ (n * 10) d h4).mono ?_); rintro en w1 ⟨rfl, rfl⟩) | ((with_reducible apply l_alloc); assumption; rfl; clear hS; intro b w hS) | ((with_reducible apply l_box); assumption; rfl; clear hS; intro b w hS) | ((with_reducible apply l_load); assumption; rfl; (repeat (first | exact Has.head | apply Has.tail)); (first | rfl | (simp [takeV]; done))) | ((with_reducible apply l_build); rfl; (simp [fillL, splice, Value.cells, Act.eval]; rfl)) | ((with_reducible apply l_buildA); rfl; (simp [fillL, splice, Value.cells, Act.eval]; rfl)) | ((with_reducible apply l_bslice); assumption; rfl; rfl; (first | (simp [fillL, splice, zeros, Value.cells, Act.eval]; rfl) | rfl); clear hS; intro b w hS) | ((with_reducible apply l_storeF); assumption; rfl; rfl; (repeat (first | exact Upd.head | apply Upd.tail)); rfl; clear hS; intro w hS) | ((with_reducible apply l_store); assumption; rfl; rfl; (repeat (first | exact Upd.head | apply Upd.tail)); rfl; clear hS; intro w hS; simp only [splice] at hS; try rw [splice_nil] at hS))
              go_roundg (gk - 1)
              case measure => omega
              case rel => exact ⟨j + 1, n * 10 + d, by omega, by go_num, rfl, h4, HN, hS⟩
            · have HN : Hid (foldD 0 l = none) := Lib.hid (by rw [HT.out, if_neg h4])
              clear HT
              go_wp2_with (first | ((with_reducible apply l_want); rfl) | (go_at_call 300; go_must (refine (rmul_t _ n h3).mono ?_); rintro en w1 ⟨rfl, rfl⟩) | (go_at_call 299; go_must (refine (Hdc.out _).mono ?_); rintro en w1 ⟨rfl, rfl⟩) | (go_at_call 301; go_must (refine (radd_f _ (n * 10) d h4 h3 (by omega)).mono ?_); rintro en w1 ⟨rfl, rfl⟩) | ((with_reducible apply l_alloc); assumption; rfl; clear hS; intro b w hS) | ((with_reducible apply l_box); assumption; rfl; clear hS; intro b w hS) | ((with_reducible apply l_load); assumption; rfl; (repeat (first | exact Has.head | apply Has.tail)); (first | rfl | (simp [takeV]; done))) | ((with_reducible apply l_build); rfl; (simp [fillL, splice, Value.cells, Act.eval]; rfl)) | ((with_reducible apply l_buildA); rfl; (simp [fillL, splice, Value.cells, Act.eval]; rfl)) | ((with_reducible apply l_bslice); assumption; rfl; rfl; (first | (simp [fillL, splice, zeros, Value.cells, Act.eval]; rfl) | rfl); clear hS; intro b w hS) | ((with_reducible apply l_storeF); assumption; rfl; rfl; (repeat (first | exact Upd.head | apply Upd.tail)); rfl; clear hS; intro w hS) | ((with_reducible apply l_store); assumption; rfl; rfl; (repeat (first | exact Upd.head | apply Upd.tail)); rfl; clear hS; intro w hS; simp only [splice] at hS; try rw [splice_nil] at hS))
              go_ret2
              refine ⟨?_, hS.fr⟩
              rw [HR.out, HN.out]
              rfl
          · have HN : Hid (foldD 0 l = none) := Lib.hid (by rw [HT.out, if_neg (by omega)])
            clear HT
            go_wp2_with (first | ((with_reducible apply l_want); rfl) | (go_at_call 300; go_must (refine (rmul_f _ n h3 hn).mono ?_); rintro en w1 ⟨rfl, rfl⟩) | ((with_reducible apply l_alloc); assumption; rfl; clear hS; intro b w hS) | ((with_reducible apply l_box); assumption; rfl; clear hS; intro b w hS) | ((with_reducible apply l_load); assumption; rfl; (repeat (first | exact Has.head | apply Has.tail)); (first | rfl | (simp [takeV]; done))) | ((with_reducible apply l_build); rfl; (simp [fillL, splice, Value.cells, Act.eval]; rfl)) | ((with_reducible apply l_buildA); rfl; (simp [fillL, splice, Value.cells, Act.eval]; rfl)) | ((with_reducible apply l_bslice); assumption; rfl; rfl; (first | (simp [fillL, splice, zeros, Value.cells, Act.eval]; rfl) | rfl); clear hS; intro b w hS) | ((with_reducible apply l_storeF); assumption; rfl; rfl; (repeat (first | exact Upd.head | apply Upd.tail)); rfl; clear hS; intro w hS) | ((with_reducible apply l_store); assumption; rfl; rfl; (repeat (first | exact Upd.head | apply Upd.tail)); rfl; clear hS; intro w hS; simp only [splice] at hS; try rw [splice_nil] at hS))
            go_ret2
            refine ⟨?_, hS.fr⟩
            rw [HR.out, HN.out]
            rfl
        · have HN : Hid (foldD 0 l = some n) := Lib.hid (by rw [HT.out, List.drop_eq_nil_of_le (by omega)]; rfl)
          have hnn : decide ((j : Int) < (l.length : Int)) = false := by simp; omega
          clear HT
          go_wp2_with (first | ((with_reducible apply l_want); rfl) | ((with_reducible apply l_alloc); assumption; rfl; clear hS; intro b w hS) | ((with_reducible apply l_box); assumption; rfl; clear hS; intro b w hS) | ((with_reducible apply l_load); assumption; rfl; (repeat (first | exact Has.head | apply Has.tail)); (first | rfl | (simp [takeV]; done))) | ((with_reducible apply l_build); rfl; (simp [fillL, splice, Value.cells, Act.eval]; rfl)) | ((with_reducible apply l_buildA); rfl; (simp [fillL, splice, Value.cells, Act.eval]; rfl)) | ((with_reducible apply l_bslice); assumption; rfl; rfl; (first | (simp [fillL, splice, zeros, Value.cells, Act.eval]; rfl) | rfl); clear hS; intro b w hS) | ((with_reducible apply l_storeF); assumption; rfl; rfl; (repeat (first | exact Upd.head | apply Upd.tail)); rfl; clear hS; intro w hS) | ((with_reducible apply l_store); assumption; rfl; rfl; (repeat (first | exact Upd.head | apply Upd.tail)); rfl; clear hS; intro w hS; simp only [splice] at hS; try rw [splice_nil] at hS))
          go_ret2
          refine ⟨?_, hS.fr⟩
          rw [HR.out, HN.out]
          rfl
theorem rread_c (w0 : World) (l : List UInt8) (hl : l.length ≤ 1099511627776) : Calls Tryz.prog 244 #[txt l, .int .u64 10] w0 fun e w' => e = .returned (.tuple #[.int .u64 ((digitsP l).1 : Int), .int .i64 (digitsP l).2]) ∧ Fr [] w0 w' := by
  unfold digitsP
  by_cases h0 : l = []
  · subst h0
    rw [if_pos (.inl rfl)]
    exact rread_0 w0
  · cases hd : l.all digB with
    | false =>
      rw [if_pos (.inr rfl)]
      exact rread_a w0 l h0 hl hd
    | true =>
      rw [if_neg (by simp [h0])]
      have h := rread_b w0 l h0 hl hd
      cases hf : foldD 0 l with
      | none => rw [hf] at h; exact h
      | some m => rw [hf] at h; exact h
theorem rdigits_c (w0 : World) (l : List UInt8) (hl : l.length ≤ 1099511627776) : Calls Tryz.prog 199 #[txt l] w0 fun e w' => e = .returned (.tuple #[.int .u64 ((digitsP l).1 : Int), .int .i64 (digitsP l).2]) ∧ Fr [] w0 w' := by
  have h := fun W => rread_c W l hl
  obtain ⟨n, hn⟩ : ∃ n, n = (digitsP l).1 := ⟨_, rfl⟩
  obtain ⟨e, he⟩ : ∃ e, e = (digitsP l).2 := ⟨_, rfl⟩
  rw [← hn, ← he] at h
  rw [← hn, ← he]
  have H := Lib.hid h
  clear h hn he
  go_enter Tryz.func199, Tryz.ntmps199
  have hS := St.start [] w0
  go_wp2_with (first | ((with_reducible apply l_want); rfl) | (go_at_call 244; go_must (refine (H.out _).mono ?_); rintro en w1 ⟨rfl, hf1⟩; replace hS := hS.keep hf1) | ((with_reducible apply l_alloc); assumption; rfl; clear hS; intro b w hS) | ((with_reducible apply l_box); assumption; rfl; clear hS; intro b w hS) | ((with_reducible apply l_load); assumption; rfl; (repeat (first | exact Has.head | apply Has.tail)); (first | rfl | (simp [takeV]; done))) | ((with_reducible apply l_build); rfl; (simp [fillL, splice, Value.cells, Act.eval]; rfl)) | ((with_reducible apply l_buildA); rfl; (simp [fillL, splice, Value.cells, Act.eval]; rfl)) | ((with_reducible apply l_bslice); assumption; rfl; rfl; (first | (simp [fillL, splice, zeros, Value.cells, Act.eval]; rfl) | rfl); clear hS; intro b w hS) | ((with_reducible apply l_storeF); assumption; rfl; rfl; (repeat (first | exact Upd.head | apply Upd.tail)); rfl; clear hS; intro w hS) | ((with_reducible apply l_store); assumption; rfl; rfl; (repeat (first | exact Upd.head | apply Upd.tail)); rfl; clear hS; intro w hS; simp only [splice] at hS; try rw [splice_nil] at hS))
  go_ret2
  exact ⟨rfl, hS.fr⟩
theorem digitsP_110 (l : List UInt8) (h : (digitsP l).2 = 110) : digitsP l = (0, 110) := by
  unfold digitsP at h ⊢
  split
  · rfl
  · rename_i h1
    rw [if_neg h1] at h
    split at h <;> cases h
/-- What a number's text says, as the document has it. -/
theorem rparse_c (w0 : World) (l : List UInt8) (hl : l.length ≤ 1099511627776) : Calls Tryz.prog 131 #[txt l] w0 fun e w' => e = .returned (.tuple #[.int .u64 ((parseP l).1 : Int), .int .i64 (parseP l).2]) ∧ Fr [] w0 w' := by
  have h := fun W => rdigits_c W l hl
  by_cases h110 : (digitsP l).2 = 110
  · have e1 : parseP l = (0, 110) := by
      unfold parseP
      split
      · rfl
      · exact digitsP_110 l h110
    rw [digitsP_110 l h110] at h
    rw [e1]
    have H := Lib.hid h
    clear h e1 h110
    go_enter Tryz.func131, Tryz.ntmps131
    have hS := St.start [] w0
    go_wp2_with (first | ((with_reducible apply l_want); rfl) | (go_at_call 199; go_must (refine (H.out _).mono ?_); rintro en w1 ⟨rfl, hf1⟩; replace hS := hS.keep hf1) | ((with_reducible apply l_alloc); assumption; rfl; clear hS; intro b w hS) | ((with_reducible apply l_box); assumption; rfl; clear hS; intro b w hS) | ((with_reducible apply l_load); assumption; rfl; (repeat (first | exact Has.head | apply Has.tail)); (first | rfl | (simp [takeV]; done))) | ((with_reducible apply l_build); rfl; (simp [fillL, splice, Value.cells, Act.eval]; rfl)) | ((with_reducible apply l_buildA); rfl; (simp [fillL, splice, Value.cells, Act.eval]; rfl)) | ((with_reducible apply l_bslice); assumption; rfl; rfl; (first | (simp [fillL, splice, zeros, Value.cells, Act.eval]; rfl) | rfl); clear hS; intro b w hS) | ((with_reducible apply l_storeF); assumption; rfl; rfl; (repeat (first | exact Upd.head | apply Upd.tail)); rfl; clear hS; intro w hS) | ((with_reducible apply l_store); assumption; rfl; rfl; (repeat (first | exact Upd.head | apply Upd.tail)); rfl; clear hS; intro w hS; simp only [splice] at hS; try rw [splice_nil] at hS))
    go_ret2
    exact ⟨rfl, hS.fr⟩
  · obtain ⟨n, hn⟩ : ∃ n, n = (digitsP l).1 := ⟨_, rfl⟩
    obtain ⟨e, he⟩ : ∃ e, e = (digitsP l).2 := ⟨_, rfl⟩
    have hne : (e == 110) = false := by simpa [he] using h110
    unfold parseP
    by_cases hz : 1 < l.length ∧ l.head? = some 48
    · rw [if_pos hz]
      rw [← hn, ← he] at h
      have H := Lib.hid h
      obtain ⟨c, r, rfl⟩ : ∃ c r, l = c :: r := by
        cases l with
        | nil => simp at hz
        | cons c r => exact ⟨c, r, rfl⟩
      obtain rfl : c = 48 := by simpa using hz.2
      have hz1 := hz.1
      have hp : (1 : Int) < (r.length : Int) + 1 := by simp only [List.length_cons] at hz1; omega
      have hg0 : ∀ h, (ByteArray.mk (48 :: r).toArray)[0]'h = 48 := fun h => rfl
      clear h hn he hz h110
      go_enter Tryz.func131, Tryz.ntmps131
      have hS := St.start [] w0
      go_wp2_with (first | ((with_reducible apply l_want); rfl) | (go_at_call 199; go_must (refine (H.out _).mono ?_); rintro en w1 ⟨rfl, hf1⟩; replace hS := hS.keep hf1) | ((with_reducible apply l_alloc); assumption; rfl; clear hS; intro b w hS) | ((with_reducible apply l_box); assumption; rfl; clear hS; intro b w hS) | ((with_reducible apply l_load); assumption; rfl; (repeat (first | exact Has.head | apply Has.tail)); (first | rfl | (simp [takeV]; done))) | ((with_reducible apply l_build); rfl; (simp [fillL, splice, Value.cells, Act.eval]; rfl)) | ((with_reducible apply l_buildA); rfl; (simp [fillL, splice, Value.cells, Act.eval]; rfl)) | ((with_reducible apply l_bslice); assumption; rfl; rfl; (first | (simp [fillL, splice, zeros, Value.cells, Act.eval]; rfl) | rfl); clear hS; intro b w hS) | ((with_reducible apply l_storeF); assumption; rfl; rfl; (repeat (first | exact Upd.head | apply Upd.tail)); rfl; clear hS; intro w hS) | ((with_reducible apply l_store); assumption; rfl; rfl; (repeat (first | exact Upd.head | apply Upd.tail)); rfl; clear hS; intro w hS; simp only [splice] at hS; try rw [splice_nil] at hS))
      go_ret2
      exact ⟨rfl, hS.fr⟩
    · rw [if_neg hz]
      rw [← hn, ← he] at h ⊢
      have H := Lib.hid h
      clear h hn he h110
      by_cases h1 : 1 < l.length
      · obtain ⟨c, r, rfl⟩ : ∃ c r, l = c :: r := by
          cases l with
          | nil => simp at h1
          | cons c r => exact ⟨c, r, rfl⟩
        have hc : ¬ (c.toNat : Int) = 48 := by
          intro h2
          refine hz ⟨h1, ?_⟩
          have : c = 48 := by
            apply UInt8.toNat_inj.1
            have e : (48 : UInt8).toNat = 48 := rfl
            omega
          simp [this]
        have hp : (1 : Int) < (r.length : Int) + 1 := by simp only [List.length_cons] at h1; omega
        have hg0 : ∀ h, (ByteArray.mk (c :: r).toArray)[0]'h = c := fun h => rfl
        have hc2 : ((c.toNat : Int) == 48) = false := by simpa using hc
        clear hz
        go_enter Tryz.func131, Tryz.ntmps131
        have hS := St.start [] w0
        go_wp2_with (first | ((with_reducible apply l_want); rfl) | (go_at_call 199; go_must (refine (H.out _).mono ?_); rintro en w1 ⟨rfl, hf1⟩; replace hS := hS.keep hf1) | ((with_reducible apply l_alloc); assumption; rfl; clear hS; intro b w hS) | ((with_reducible apply l_box); assumption; rfl; clear hS; intro b w hS) | ((with_reducible apply l_load); assumption; rfl; (repeat (first | exact Has.head | apply Has.tail)); (first | rfl | (simp [takeV]; done))) | ((with_reducible apply l_build); rfl; (simp [fillL, splice, Value.cells, Act.eval]; rfl)) | ((with_reducible apply l_buildA); rfl; (simp [fillL, splice, Value.cells, Act.eval]; rfl)) | ((with_reducible apply l_bslice); assumption; rfl; rfl; (first | (simp [fillL, splice, zeros, Value.cells, Act.eval]; rfl) | rfl); clear hS; intro b w hS) | ((with_reducible apply l_storeF); assumption; rfl; rfl; (repeat (first | exact Upd.head | apply Upd.tail)); rfl; clear hS; intro w hS) | ((with_reducible apply l_store); assumption; rfl; rfl; (repeat (first | exact Upd.head | apply Upd.tail)); rfl; clear hS; intro w hS; simp only [splice] at hS; try rw [splice_nil] at hS))
        go_ret2
        exact ⟨rfl, hS.fr⟩
      · have hp : ¬ (1 : Int) < (l.length : Int) := by omega
        clear hz
        go_enter Tryz.func131, Tryz.ntmps131
        have hS := St.start [] w0
        go_wp2_with (first | ((with_reducible apply l_want); rfl) | (go_at_call 199; go_must (refine (H.out _).mono ?_); rintro en w1 ⟨rfl, hf1⟩; replace hS := hS.keep hf1) | ((with_reducible apply l_alloc); assumption; rfl; clear hS; intro b w hS) | ((with_reducible apply l_box); assumption; rfl; clear hS; intro b w hS) | ((with_reducible apply l_load); assumption; rfl; (repeat (first | exact Has.head | apply Has.tail)); (first | rfl | (simp [takeV]; done))) | ((with_reducible apply l_build); rfl; (simp [fillL, splice, Value.cells, Act.eval]; rfl)) | ((with_reducible apply l_buildA); rfl; (simp [fillL, splice, Value.cells, Act.eval]; rfl)) | ((with_reducible apply l_bslice); assumption; rfl; rfl; (first | (simp [fillL, splice, zeros, Value.cells, Act.eval]; rfl) | rfl); clear hS; intro b w hS) | ((with_reducible apply l_storeF); assumption; rfl; rfl; (repeat (first | exact Upd.head | apply Upd.tail)); rfl; clear hS; intro w hS) | ((with_reducible apply l_store); assumption; rfl; rfl; (repeat (first | exact Upd.head | apply Upd.tail)); rfl; clear hS; intro w hS; simp only [splice] at hS; try rw [splice_nil] at hS))
        go_ret2
        exact ⟨rfl, hS.fr⟩
theorem rreset_c (w0 : World) (a b : Nat) (ha : a < 18446744073709551616) (hb : b < 18446744073709551616) :
    Calls Tryz.prog 44 #[.int .u64 (a : Int), .int .u64 (b : Int)] w0 fun en w' => en = .returned (resetP a b).v ∧ Fr [] w0 w' := by
  have h1 := dec_len a ha
  have h2 := dec_len b hb
  go_enter Tryz.func44, Tryz.ntmps44
  have hS := St.start [] w0
  go_wp2_with (first | ((with_reducible apply l_want); rfl) | (go_at_call 132; go_must (refine (rtext_c _ _ (by assumption)).mono ?_); rintro en w1 ⟨rfl, hf1⟩; replace hS := hS.keep hf1) | ((with_reducible apply l_cat (l := Lib.decDigits a) (m := [32])); rfl; rfl; (simp; omega)) | ((with_reducible apply l_cat (l := Lib.decDigits a ++ [32]) (m := Lib.decDigits b)); rfl; rfl; (simp; omega)) | ((with_reducible apply l_alloc); assumption; rfl; clear hS; intro b w hS) | ((with_reducible apply l_box); assumption; rfl; clear hS; intro b w hS) | ((with_reducible apply l_load); assumption; rfl; (repeat (first | exact Has.head | apply Has.tail)); (first | rfl | (simp [takeV]; done))) | ((with_reducible apply l_build); rfl; (simp [fillL, splice, Value.cells, Act.eval]; rfl)) | ((with_reducible apply l_buildA); rfl; (simp [fillL, splice, Value.cells, Act.eval]; rfl)) | ((with_reducible apply l_bslice); assumption; rfl; rfl; (first | (simp [fillL, splice, zeros, Value.cells, Act.eval]; rfl) | rfl); clear hS; intro b w hS) | ((with_reducible apply l_storeF); assumption; rfl; rfl; (repeat (first | exact Upd.head | apply Upd.tail)); rfl; clear hS; intro w hS) | ((with_reducible apply l_store); assumption; rfl; rfl; (repeat (first | exact Upd.head | apply Upd.tail)); rfl; clear hS; intro w hS; simp only [splice] at hS; try rw [splice_nil] at hS))
  refine bodyPost_ret (results_c1 (k := 3) (agg := true) rfl hS rfl (by repeat (first | exact Has.head | apply Has.tail)) rfl) rfl ⟨rfl, hS.fr⟩
theorem own_rd {W : World} {bb o n cp : Nat} {xs : List Value} (h : (own 9 1 (.slice (some ⟨bb, o, none⟩) n cp) n xs).ok W) (i : Nat) (hi : i < n) : Rd W bb (o + i) ((xs.drop i).take 1) := by
  obtain ⟨_, b', o', he, hrd⟩ := (RdS.of_own h).at i hi (by decide)
  obtain ⟨rfl, rfl⟩ : bb = b' ∧ o = o' := by simpa using he
  have := hrd.take 1
  rwa [Nat.mul_one] at this
theorem parse_space (l : List UInt8) (h : (32 : UInt8) ∈ l) : (parseP l).2 = 110 := by
  have hd : l.all digB = false := by
    rw [Bool.eq_false_iff]
    intro ha
    have := List.all_eq_true.1 ha 32 h
    cases this
  unfold parseP
  split
  · rfl
  · unfold digitsP
    rw [if_pos (.inr hd)]
/-- What an event says as a reset, by what stands between spaces. -/
theorem resetsP_split (e : Ev) : resetsP e = match splitP 32 e.da with
    | [a, b] => if e.id = [] ∧ (e.ty == resetT) = true ∧ (parseP a).2 = 0 ∧ (parseP b).2 = 0 then ((parseP a).1, (parseP b).1, 0) else (0, 0, 170)
    | _ => (0, 0, 170) := by
  by_cases hm : (32 : UInt8) ∈ e.da
  · obtain ⟨a, b, hab, ha⟩ := List.eq_append_cons_of_mem hm
    have hc : Lib.cut e.da [32] = (a, b, true) := by rw [hab]; exact cut_at 32 a b ha
    unfold resetsP
    rw [hc, hab, splitP_at 32 b a ha]
    simp only
    by_cases hb : (32 : UInt8) ∈ b
    · have hp := parse_space b hb
      rw [if_neg (by rintro ⟨-, -, -, -, h⟩; rw [hp] at h; cases h)]
      obtain ⟨c, d, hcd, hc2⟩ := List.eq_append_cons_of_mem hb
      rw [hcd, splitP_at 32 d c hc2]
      cases hs : splitP 32 d with
      | nil => exact absurd hs (splitP_ne 32 d)
      | cons x r => rfl
    · rw [splitP_no 32 b hb]
      simp only [true_and]
  · have hc : Lib.cut e.da [32] = (e.da, [], false) := cut_no 32 e.da hm
    unfold resetsP
    rw [hc, splitP_no 32 e.da hm]
    simp
def resV (x : Nat × Nat × Int) : Value := .tuple #[.int .u64 (x.1 : Int), .int .u64 (x.2.1 : Int), .int .i64 x.2.2]
def PP (L : List (List UInt8)) (w0 : World) (da : List UInt8) : Prop := ∀ W, Calls Tryz.prog 130 #[txt da, .int .u8 32] W fun e w' => ∃ v, e = .returned v ∧ St [] W w' [own 9 1 v L.length (sv L)]
theorem rres_i (w0 : World) (c : UInt8) (id ty da : List UInt8) (L : List (List UInt8)) (hp : PP L w0 da) : Calls Tryz.prog 42 #[.agg ⟨[txt (c :: id), txt ty, txt da]⟩] w0 fun en w' => en = .returned (resV (0, 0, 170)) ∧ Fr [] w0 w' := by
  have Hp := Lib.hid hp
  clear hp
  go_enter Tryz.func42, Tryz.ntmps42
  have hS := St.start [] w0
  go_wp2_with (first | ((with_reducible apply l_want); rfl) | (go_at_call 130; go_must (refine (Hp.out _).mono ?_); rintro en w1 ⟨v, rfl, hT⟩; obtain ⟨A, cp, rfl, hcp⟩ := (RdS.of_own (hT.get (c := own 9 1 v L.length (sv L)) (by exact Has.head))).shape; replace hS := hS.join hT; simp only [List.cons_append, List.nil_append] at hS; clear hT) | ((with_reducible apply l_alloc); assumption; rfl; clear hS; intro b w hS) | ((with_reducible apply l_box); assumption; rfl; clear hS; intro b w hS) | ((with_reducible apply l_load); assumption; rfl; (repeat (first | exact Has.head | apply Has.tail)); (first | rfl | (simp [takeV]; done))) | ((with_reducible apply l_build); rfl; (simp [fillL, splice, Value.cells, Act.eval]; rfl)) | ((with_reducible apply l_buildA); rfl; (simp [fillL, splice, Value.cells, Act.eval]; rfl)) | ((with_reducible apply l_bslice); assumption; rfl; rfl; (first | (simp [fillL, splice, zeros, Value.cells, Act.eval]; rfl) | rfl); clear hS; intro b w hS) | ((with_reducible apply l_storeF); assumption; rfl; rfl; (repeat (first | exact Upd.head | apply Upd.tail)); rfl; clear hS; intro w hS) | ((with_reducible apply l_store); assumption; rfl; rfl; (repeat (first | exact Upd.head | apply Upd.tail)); rfl; clear hS; intro w hS; simp only [splice] at hS; try rw [splice_nil] at hS))
  go_ret3
  exact ⟨rfl, hS.fr⟩
theorem rres_t (w0 : World) (ty da : List UInt8) (L : List (List UInt8)) (hp : PP L w0 da) (ht : (ty == [115, 116, 114, 101, 97, 109, 45, 114, 101, 115, 101, 116]) = false) : Calls Tryz.prog 42 #[.agg ⟨[txt [], txt ty, txt da]⟩] w0 fun en w' => en = .returned (resV (0, 0, 170)) ∧ Fr [] w0 w' := by
  have Hp := Lib.hid hp
  have ht2 : (ty != [115, 116, 114, 101, 97, 109, 45, 114, 101, 115, 101, 116]) = true := by rw [bne, ht]; rfl
  clear hp
  go_enter Tryz.func42, Tryz.ntmps42
  have hS := St.start [] w0
  go_wp2_with (first | ((with_reducible apply l_want); rfl) | (go_at_call 130; go_must (refine (Hp.out _).mono ?_); rintro en w1 ⟨v, rfl, hT⟩; obtain ⟨A, cp, rfl, hcp⟩ := (RdS.of_own (hT.get (c := own 9 1 v L.length (sv L)) (by exact Has.head))).shape; replace hS := hS.join hT; simp only [List.cons_append, List.nil_append] at hS; clear hT) | ((with_reducible apply l_alloc); assumption; rfl; clear hS; intro b w hS) | ((with_reducible apply l_box); assumption; rfl; clear hS; intro b w hS) | ((with_reducible apply l_load); assumption; rfl; (repeat (first | exact Has.head | apply Has.tail)); (first | rfl | (simp [takeV]; done))) | ((with_reducible apply l_build); rfl; (simp [fillL, splice, Value.cells, Act.eval]; rfl)) | ((with_reducible apply l_buildA); rfl; (simp [fillL, splice, Value.cells, Act.eval]; rfl)) | ((with_reducible apply l_bslice); assumption; rfl; rfl; (first | (simp [fillL, splice, zeros, Value.cells, Act.eval]; rfl) | rfl); clear hS; intro b w hS) | ((with_reducible apply l_storeF); assumption; rfl; rfl; (repeat (first | exact Upd.head | apply Upd.tail)); rfl; clear hS; intro w hS) | ((with_reducible apply l_store); assumption; rfl; rfl; (repeat (first | exact Upd.head | apply Upd.tail)); rfl; clear hS; intro w hS; simp only [splice] at hS; try rw [splice_nil] at hS))
  go_ret3
  exact ⟨rfl, hS.fr⟩
theorem rres_l (w0 : World) (ty da : List UInt8) (L : List (List UInt8)) (hp : PP L w0 da) (ht : (ty == [115, 116, 114, 101, 97, 109, 45, 114, 101, 115, 101, 116]) = true) (hl : L.length ≠ 2) : Calls Tryz.prog 42 #[.agg ⟨[txt [], txt ty, txt da]⟩] w0 fun en w' => en = .returned (resV (0, 0, 170)) ∧ Fr [] w0 w' := by
  have Hp := Lib.hid hp
  have ht2 : (ty != [115, 116, 114, 101, 97, 109, 45, 114, 101, 115, 101, 116]) = false := by rw [bne, ht]; rfl
  have hl2 : ((L.length : Int) != 2) = true := by simp; omega
  clear hp hl
  go_enter Tryz.func42, Tryz.ntmps42
  have hS := St.start [] w0
  go_wp2_with (first | ((with_reducible apply l_want); rfl) | (go_at_call 130; go_must (refine (Hp.out _).mono ?_); rintro en w1 ⟨v, rfl, hT⟩; obtain ⟨A, cp, rfl, hcp⟩ := (RdS.of_own (hT.get (c := own 9 1 v L.length (sv L)) (by exact Has.head))).shape; replace hS := hS.join hT; simp only [List.cons_append, List.nil_append] at hS; clear hT) | ((with_reducible apply l_alloc); assumption; rfl; clear hS; intro b w hS) | ((with_reducible apply l_box); assumption; rfl; clear hS; intro b w hS) | ((with_reducible apply l_load); assumption; rfl; (repeat (first | exact Has.head | apply Has.tail)); (first | rfl | (simp [takeV]; done))) | ((with_reducible apply l_build); rfl; (simp [fillL, splice, Value.cells, Act.eval]; rfl)) | ((with_reducible apply l_buildA); rfl; (simp [fillL, splice, Value.cells, Act.eval]; rfl)) | ((with_reducible apply l_bslice); assumption; rfl; rfl; (first | (simp [fillL, splice, zeros, Value.cells, Act.eval]; rfl) | rfl); clear hS; intro b w hS) | ((with_reducible apply l_storeF); assumption; rfl; rfl; (repeat (first | exact Upd.head | apply Upd.tail)); rfl; clear hS; intro w hS) | ((with_reducible apply l_store); assumption; rfl; rfl; (repeat (first | exact Upd.head | apply Upd.tail)); rfl; clear hS; intro w hS; simp only [splice] at hS; try rw [splice_nil] at hS))
  go_ret3
  exact ⟨rfl, hS.fr⟩
theorem rres_2 (w0 : World) (ty da xa xb : List UInt8) (hp : PP [xa, xb] w0 da) (ht : (ty == [115, 116, 114, 101, 97, 109, 45, 114, 101, 115, 101, 116]) = true) (n1 n2 : Nat) (e1 e2 : Int)
    (h1 : ∀ W, Calls Tryz.prog 131 #[txt xa] W fun e w' => e = .returned (.tuple #[.int .u64 (n1 : Int), .int .i64 e1]) ∧ Fr [] W w')
    (h2 : ∀ W, Calls Tryz.prog 131 #[txt xb] W fun e w' => e = .returned (.tuple #[.int .u64 (n2 : Int), .int .i64 e2]) ∧ Fr [] W w') (r1 r2 : Bool) (g1 : (e1 != 0) = r1) (g2 : (e2 != 0) = r2) :
    Calls Tryz.prog 42 #[.agg ⟨[txt [], txt ty, txt da]⟩] w0 fun en w' => en = .returned (resV (if (!r1 && !r2) = true then (n1, n2, 0) else (0, 0, 170))) ∧ Fr [] w0 w' := by
  have Hp := Lib.hid hp
  have H1 := Lib.hid h1
  have H2 := Lib.hid h2
  have ht2 : (ty != [115, 116, 114, 101, 97, 109, 45, 114, 101, 115, 101, 116]) = false := by rw [bne, ht]; rfl
  clear hp h1 h2
  cases r1 with
  | true =>
    go_enter Tryz.func42, Tryz.ntmps42
    have hS := St.start [] w0
    go_wp2_with (first | ((with_reducible apply l_want); rfl) | (go_at_call 130; go_must (refine (Hp.out _).mono ?_); rintro en w1 ⟨v, rfl, hT⟩; obtain ⟨A, cp, rfl, hcp⟩ := (RdS.of_own (hT.get (c := own 9 1 v 2 [txt xa, txt xb]) (by exact Has.head))).shape; obtain ⟨_, bb, o, rfl, hrd⟩ := (RdS.of_own (hT.get (c := own 9 1 (.slice A 2 cp) 2 [txt xa, txt xb]) (by exact Has.head))).at 0 (by decide) (by decide); clear hrd; replace hS := hS.join hT; simp only [List.cons_append, List.nil_append] at hS; clear hT) | ((with_reducible apply l_read); rfl; exact own_rd (hS.get (c := own 9 1 (.slice (some ⟨bb, o, none⟩) 2 cp) 2 [txt xa, txt xb]) (by exact Has.head)) 0 (by decide); rfl) | ((with_reducible apply l_read); rfl; exact own_rd (hS.get (c := own 9 1 (.slice (some ⟨bb, o, none⟩) 2 cp) 2 [txt xa, txt xb]) (by exact Has.head)) 1 (by decide); rfl) | (go_at_call 131; refine (H1.out _).mono ?_; rintro en w1 ⟨rfl, hf1⟩; replace hS := hS.keep hf1) | (go_at_call 131; refine (H2.out _).mono ?_; rintro en w1 ⟨rfl, hf1⟩; replace hS := hS.keep hf1) | ((with_reducible apply l_alloc); assumption; rfl; clear hS; intro b w hS) | ((with_reducible apply l_box); assumption; rfl; clear hS; intro b w hS) | ((with_reducible apply l_load); assumption; rfl; (repeat (first | exact Has.head | apply Has.tail)); (first | rfl | (simp [takeV]; done))) | ((with_reducible apply l_build); rfl; (simp [fillL, splice, Value.cells, Act.eval]; rfl)) | ((with_reducible apply l_buildA); rfl; (simp [fillL, splice, Value.cells, Act.eval]; rfl)) | ((with_reducible apply l_bslice); assumption; rfl; rfl; (first | (simp [fillL, splice, zeros, Value.cells, Act.eval]; rfl) | rfl); clear hS; intro b w hS) | ((with_reducible apply l_storeF); assumption; rfl; rfl; (repeat (first | exact Upd.head | apply Upd.tail)); rfl; clear hS; intro w hS) | ((with_reducible apply l_store); assumption; rfl; rfl; (repeat (first | exact Upd.head | apply Upd.tail)); rfl; clear hS; intro w hS; simp only [splice] at hS; try rw [splice_nil] at hS))
    go_ret3
    exact ⟨rfl, hS.fr⟩
  | false =>
    cases r2 with
    | true =>
      go_enter Tryz.func42, Tryz.ntmps42
      have hS := St.start [] w0
      go_wp2_with (first | ((with_reducible apply l_want); rfl) | (go_at_call 130; go_must (refine (Hp.out _).mono ?_); rintro en w1 ⟨v, rfl, hT⟩; obtain ⟨A, cp, rfl, hcp⟩ := (RdS.of_own (hT.get (c := own 9 1 v 2 [txt xa, txt xb]) (by exact Has.head))).shape; obtain ⟨_, bb, o, rfl, hrd⟩ := (RdS.of_own (hT.get (c := own 9 1 (.slice A 2 cp) 2 [txt xa, txt xb]) (by exact Has.head))).at 0 (by decide) (by decide); clear hrd; replace hS := hS.join hT; simp only [List.cons_append, List.nil_append] at hS; clear hT) | ((with_reducible apply l_read); rfl; exact own_rd (hS.get (c := own 9 1 (.slice (some ⟨bb, o, none⟩) 2 cp) 2 [txt xa, txt xb]) (by exact Has.head)) 0 (by decide); rfl) | ((with_reducible apply l_read); rfl; exact own_rd (hS.get (c := own 9 1 (.slice (some ⟨bb, o, none⟩) 2 cp) 2 [txt xa, txt xb]) (by exact Has.head)) 1 (by decide); rfl) | (go_at_call 131; refine (H1.out _).mono ?_; rintro en w1 ⟨rfl, hf1⟩; replace hS := hS.keep hf1) | (go_at_call 131; refine (H2.out _).mono ?_; rintro en w1 ⟨rfl, hf1⟩; replace hS := hS.keep hf1) | ((with_reducible apply l_alloc); assumption; rfl; clear hS; intro b w hS) | ((with_reducible apply l_box); assumption; rfl; clear hS; intro b w hS) | ((with_reducible apply l_load); assumption; rfl; (repeat (first | exact Has.head | apply Has.tail)); (first | rfl | (simp [takeV]; done))) | ((with_reducible apply l_build); rfl; (simp [fillL, splice, Value.cells, Act.eval]; rfl)) | ((with_reducible apply l_buildA); rfl; (simp [fillL, splice, Value.cells, Act.eval]; rfl)) | ((with_reducible apply l_bslice); assumption; rfl; rfl; (first | (simp [fillL, splice, zeros, Value.cells, Act.eval]; rfl) | rfl); clear hS; intro b w hS) | ((with_reducible apply l_storeF); assumption; rfl; rfl; (repeat (first | exact Upd.head | apply Upd.tail)); rfl; clear hS; intro w hS) | ((with_reducible apply l_store); assumption; rfl; rfl; (repeat (first | exact Upd.head | apply Upd.tail)); rfl; clear hS; intro w hS; simp only [splice] at hS; try rw [splice_nil] at hS))
      go_ret3
      exact ⟨rfl, hS.fr⟩
    | false =>
      go_enter Tryz.func42, Tryz.ntmps42
      have hS := St.start [] w0
      go_wp2_with (first | ((with_reducible apply l_want); rfl) | (go_at_call 130; go_must (refine (Hp.out _).mono ?_); rintro en w1 ⟨v, rfl, hT⟩; obtain ⟨A, cp, rfl, hcp⟩ := (RdS.of_own (hT.get (c := own 9 1 v 2 [txt xa, txt xb]) (by exact Has.head))).shape; obtain ⟨_, bb, o, rfl, hrd⟩ := (RdS.of_own (hT.get (c := own 9 1 (.slice A 2 cp) 2 [txt xa, txt xb]) (by exact Has.head))).at 0 (by decide) (by decide); clear hrd; replace hS := hS.join hT; simp only [List.cons_append, List.nil_append] at hS; clear hT) | ((with_reducible apply l_read); rfl; exact own_rd (hS.get (c := own 9 1 (.slice (some ⟨bb, o, none⟩) 2 cp) 2 [txt xa, txt xb]) (by exact Has.head)) 0 (by decide); rfl) | ((with_reducible apply l_read); rfl; exact own_rd (hS.get (c := own 9 1 (.slice (some ⟨bb, o, none⟩) 2 cp) 2 [txt xa, txt xb]) (by exact Has.head)) 1 (by decide); rfl) | (go_at_call 131; refine (H1.out _).mono ?_; rintro en w1 ⟨rfl, hf1⟩; replace hS := hS.keep hf1) | (go_at_call 131; refine (H2.out _).mono ?_; rintro en w1 ⟨rfl, hf1⟩; replace hS := hS.keep hf1) | ((with_reducible apply l_alloc); assumption; rfl; clear hS; intro b w hS) | ((with_reducible apply l_box); assumption; rfl; clear hS; intro b w hS) | ((with_reducible apply l_load); assumption; rfl; (repeat (first | exact Has.head | apply Has.tail)); (first | rfl | (simp [takeV]; done))) | ((with_reducible apply l_build); rfl; (simp [fillL, splice, Value.cells, Act.eval]; rfl)) | ((with_reducible apply l_buildA); rfl; (simp [fillL, splice, Value.cells, Act.eval]; rfl)) | ((with_reducible apply l_bslice); assumption; rfl; rfl; (first | (simp [fillL, splice, zeros, Value.cells, Act.eval]; rfl) | rfl); clear hS; intro b w hS) | ((with_reducible apply l_storeF); assumption; rfl; rfl; (repeat (first | exact Upd.head | apply Upd.tail)); rfl; clear hS; intro w hS) | ((with_reducible apply l_store); assumption; rfl; rfl; (repeat (first | exact Upd.head | apply Upd.tail)); rfl; clear hS; intro w hS; simp only [splice] at hS; try rw [splice_nil] at hS))
      go_ret3
      exact ⟨rfl, hS.fr⟩
/-- What the document says of an event as a reset. -/
theorem rresets_c (w0 : World) (e : Ev) (hd : e.da.length ≤ 1099511627776) : Calls Tryz.prog 42 #[e.v] w0 fun en w' => en = .returned (resV (resetsP e)) ∧ Fr [] w0 w' := by
  rw [resetsP_split]
  have hp : PP (splitP 32 e.da) w0 e.da := fun W => parts_u W e.da 32 32 rfl hd
  have hpl := splitP_len 32 e.da
  obtain ⟨id, ty, da⟩ := e
  simp only at hp hpl hd ⊢
  cases id with
  | cons c id =>
    have e1 : (match splitP 32 da with | [a, b] => if (c :: id : List UInt8) = [] ∧ (ty == resetT) = true ∧ (parseP a).2 = 0 ∧ (parseP b).2 = 0 then ((parseP a).1, (parseP b).1, (0 : Int)) else (0, 0, 170) | _ => (0, 0, 170)) = (0, 0, 170) := by
      split
      · rw [if_neg (by simp)]
      · rfl
    rw [e1]
    exact rres_i w0 c id ty da _ hp
  | nil =>
    cases ht : (ty == resetT) with
    | false =>
      have e1 : (match splitP 32 da with | [a, b] => if ([] : List UInt8) = [] ∧ false = true ∧ (parseP a).2 = 0 ∧ (parseP b).2 = 0 then ((parseP a).1, (parseP b).1, (0 : Int)) else (0, 0, 170) | _ => (0, 0, 170)) = (0, 0, 170) := by
        split
        · rw [if_neg (by simp)]
        · rfl
      rw [e1]
      exact rres_t w0 ty da _ hp ht
    | true =>
      obtain ⟨L, hL⟩ : ∃ L, L = splitP 32 da := ⟨_, rfl⟩
      rw [← hL] at hp hpl ⊢
      clear hL
      by_cases hl : L.length = 2
      · match L, hl with
        | [a, b], _ =>
          have hla := hpl.1 a (by simp)
          have hlb := hpl.1 b (by simp)
          have h := rres_2 w0 ty da a b hp ht _ _ _ _ (fun W => rparse_c W a (by omega)) (fun W => rparse_c W b (by omega)) _ _ rfl rfl
          have e1 : (if ([] : List UInt8) = [] ∧ true = true ∧ (parseP a).2 = 0 ∧ (parseP b).2 = 0 then ((parseP a).1, (parseP b).1, (0 : Int)) else (0, 0, 170)) = (if (!((parseP a).2 != 0) && !((parseP b).2 != 0)) = true then ((parseP a).1, (parseP b).1, 0) else (0, 0, 170)) := by
            by_cases g1 : (parseP a).2 = 0 <;> by_cases g2 : (parseP b).2 = 0 <;> simp [g1, g2]
          rw [← e1] at h
          exact h
      · have e1 : (match L with | [a, b] => if ([] : List UInt8) = [] ∧ true = true ∧ (parseP a).2 = 0 ∧ (parseP b).2 = 0 then ((parseP a).1, (parseP b).1, (0 : Int)) else (0, 0, 170) | _ => (0, 0, 170)) = (0, 0, 170) := by
          split
          · exact absurd rfl hl
          · rfl
        rw [e1]
        exact rres_l w0 ty da _ hp ht hl
end Go.Proofs.YtaejmginhkbbhaaGreatDoor
