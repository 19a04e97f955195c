/- The walks through package decimal, part A: numbers added and multiplied; digits one by one, over any function (F297, F298, F293, F295). Conditions: as each contract says. -/
import Derived.Test.YtaejmginhkbbhaaGreatDoorV2
import Derived.Test.YtaejmginhkbbhaaGreatDoorPd
set_option linter.unusedSimpArgs false
set_option linter.unusedVariables false
set_option maxRecDepth 100000
set_option maxHeartbeats 1000000
namespace Go.Proofs.YtaejmginhkbbhaaGreatDoor
open Go Go.RowKit
theorem add_t (w0 : World) (a b : Nat) (h : a + b < 18446744073709551616) : Calls Tryz.prog 298 #[.int .u64 (a : Int), .int .u64 (b : Int)] w0 fun e w' => e = .returned (.tuple #[.int .u64 ((a + b : Nat) : Int), .int .i64 0]) ∧ w' = w0 := by
  go_enter Tryz.func298, Tryz.ntmps298
  go_wp2_with (first | ((with_reducible apply l_want); rfl) | ((with_reducible apply l_alloc); assumption; rfl; clear hS; intro b w hS) | ((with_reducible apply l_box); assumption; rfl; clear hS; intro b w hS) | ((with_reducible apply l_load); assumption; rfl; (repeat (first | exact Has.head | apply Has.tail)); (first | rfl | (simp [takeV]; done))) | ((with_reducible apply l_build); rfl; (simp [fillL, splice, Value.cells, Act.eval]; rfl)) | ((with_reducible apply l_buildA); rfl; (simp [fillL, splice, Value.cells, Act.eval]; rfl)) | ((with_reducible apply l_bslice); assumption; rfl; rfl; (first | (simp [fillL, splice, zeros, Value.cells, Act.eval]; rfl) | rfl); clear hS; intro b w hS) | ((with_reducible apply l_storeF); assumption; rfl; rfl; (repeat (first | exact Upd.head | apply Upd.tail)); rfl; clear hS; intro w hS) | ((with_reducible apply l_store); assumption; rfl; rfl; (repeat (first | exact Upd.head | apply Upd.tail)); rfl; clear hS; intro w hS; simp only [splice] at hS; try rw [splice_nil] at hS))
  go_ret2
  exact ⟨rfl, rfl⟩
theorem add_f (w0 : World) (a b : Nat) (h : ¬ a + b < 18446744073709551616) (ha : a < 18446744073709551616) (hb : b < 18446744073709551616) : Calls Tryz.prog 298 #[.int .u64 (a : Int), .int .u64 (b : Int)] w0 fun e w' => e = .returned (.tuple #[.int .u64 0, .int .i64 111]) ∧ w' = w0 := by
  have hw : IntKind.wrap .u64 ((a : Int) + (b : Int)) = (a : Int) + b - 18446744073709551616 := by
    simp [IntKind.wrap, IntKind.bits, IntKind.signed]
    omega
  have hd : (a : Int) + b - 18446744073709551616 < a := by omega
  go_enter Tryz.func298, Tryz.ntmps298
  go_wp2_with (first | ((with_reducible apply l_want); rfl) | ((with_reducible apply l_alloc); assumption; rfl; clear hS; intro b w hS) | ((with_reducible apply l_box); assumption; rfl; clear hS; intro b w hS) | ((with_reducible apply l_load); assumption; rfl; (repeat (first | exact Has.head | apply Has.tail)); (first | rfl | (simp [takeV]; done))) | ((with_reducible apply l_build); rfl; (simp [fillL, splice, Value.cells, Act.eval]; rfl)) | ((with_reducible apply l_buildA); rfl; (simp [fillL, splice, Value.cells, Act.eval]; rfl)) | ((with_reducible apply l_bslice); assumption; rfl; rfl; (first | (simp [fillL, splice, zeros, Value.cells, Act.eval]; rfl) | rfl); clear hS; intro b w hS) | ((with_reducible apply l_storeF); assumption; rfl; rfl; (repeat (first | exact Upd.head | apply Upd.tail)); rfl; clear hS; intro w hS) | ((with_reducible apply l_store); assumption; rfl; rfl; (repeat (first | exact Upd.head | apply Upd.tail)); rfl; clear hS; intro w hS; simp only [splice] at hS; try rw [splice_nil] at hS))
  go_ret2
  exact ⟨rfl, rfl⟩
theorem mul_t (w0 : World) (a : Nat) (h : a * 10 < 18446744073709551616) : Calls Tryz.prog 297 #[.int .u64 (a : Int), .int .u64 10] w0 fun e w' => e = .returned (.tuple #[.int .u64 ((a * 10 : Nat) : Int), .int .i64 0]) ∧ w' = w0 := by
  cases a with
  | zero =>
    go_enter Tryz.func297, Tryz.ntmps297
    go_wp2_with (first | ((with_reducible apply l_want); rfl) | ((with_reducible apply l_alloc); assumption; rfl; clear hS; intro b w hS) | ((with_reducible apply l_box); assumption; rfl; clear hS; intro b w hS) | ((with_reducible apply l_load); assumption; rfl; (repeat (first | exact Has.head | apply Has.tail)); (first | rfl | (simp [takeV]; done))) | ((with_reducible apply l_build); rfl; (simp [fillL, splice, Value.cells, Act.eval]; rfl)) | ((with_reducible apply l_buildA); rfl; (simp [fillL, splice, Value.cells, Act.eval]; rfl)) | ((with_reducible apply l_bslice); assumption; rfl; rfl; (first | (simp [fillL, splice, zeros, Value.cells, Act.eval]; rfl) | rfl); clear hS; intro b w hS) | ((with_reducible apply l_storeF); assumption; rfl; rfl; (repeat (first | exact Upd.head | apply Upd.tail)); rfl; clear hS; intro w hS) | ((with_reducible apply l_store); assumption; rfl; rfl; (repeat (first | exact Upd.head | apply Upd.tail)); rfl; clear hS; intro w hS; simp only [splice] at hS; try rw [splice_nil] at hS))
    go_ret2
    exact ⟨rfl, rfl⟩
  | succ n =>
    have hne : ¬ ((n + 1 : Nat) : Int) = 0 := by omega
    have hdv : Int.tdiv (((n + 1 : Nat) : Int) * 10) ((n + 1 : Nat) : Int) = 10 := by
      rw [Int.tdiv_eq_ediv_of_nonneg (by omega)]
      exact Int.mul_ediv_cancel_left _ hne
    go_enter Tryz.func297, Tryz.ntmps297
    go_wp2_with (first | ((with_reducible apply l_want); rfl) | ((with_reducible apply l_alloc); assumption; rfl; clear hS; intro b w hS) | ((with_reducible apply l_box); assumption; rfl; clear hS; intro b w hS) | ((with_reducible apply l_load); assumption; rfl; (repeat (first | exact Has.head | apply Has.tail)); (first | rfl | (simp [takeV]; done))) | ((with_reducible apply l_build); rfl; (simp [fillL, splice, Value.cells, Act.eval]; rfl)) | ((with_reducible apply l_buildA); rfl; (simp [fillL, splice, Value.cells, Act.eval]; rfl)) | ((with_reducible apply l_bslice); assumption; rfl; rfl; (first | (simp [fillL, splice, zeros, Value.cells, Act.eval]; rfl) | rfl); clear hS; intro b w hS) | ((with_reducible apply l_storeF); assumption; rfl; rfl; (repeat (first | exact Upd.head | apply Upd.tail)); rfl; clear hS; intro w hS) | ((with_reducible apply l_store); assumption; rfl; rfl; (repeat (first | exact Upd.head | apply Upd.tail)); rfl; clear hS; intro w hS; simp only [splice] at hS; try rw [splice_nil] at hS))
    go_ret2
    exact ⟨rfl, rfl⟩
theorem mul_f (w0 : World) (a : Nat) (h : ¬ a * 10 < 18446744073709551616) (ha : a < 18446744073709551616) : Calls Tryz.prog 297 #[.int .u64 (a : Int), .int .u64 10] w0 fun e w' => e = .returned (.tuple #[.int .u64 0, .int .i64 111]) ∧ w' = w0 := by
  obtain ⟨q, hq, hlt⟩ : ∃ q : Nat, IntKind.u64.wrap ((IntKind.u64.wrap ((a : Int) * 10)).tdiv (a : Int)) = (q : Int) ∧ q < 10 := by
    have hm : IntKind.u64.wrap ((a : Int) * 10) = ((a * 10 % 18446744073709551616 : Nat) : Int) := by
      simp [IntKind.wrap, IntKind.bits, IntKind.signed]
    have hd : ((a * 10 % 18446744073709551616 : Nat) : Int).tdiv (a : Int) = ((a * 10 % 18446744073709551616 / a : Nat) : Int) := by
      rw [Int.tdiv_eq_ediv_of_nonneg (by omega)]
      rfl
    have hl : a * 10 % 18446744073709551616 / a < 10 := by
      rw [Nat.div_lt_iff_lt_mul (by omega)]
      omega
    refine ⟨a * 10 % 18446744073709551616 / a, ?_, hl⟩
    rw [hm, hd]
    generalize a * 10 % 18446744073709551616 / a = q at hl
    simp [IntKind.wrap, IntKind.bits, IntKind.signed]
    omega
  have h0 : ((a : Int) != 0) = true := by simp; omega
  have h1 : ((q : Int) != 10) = true := by simp; omega
  have h2 : ¬ (q : Int) = 10 := by omega
  go_enter Tryz.func297, Tryz.ntmps297
  go_wp2_with (first | ((with_reducible apply l_want); rfl) | ((with_reducible apply l_alloc); assumption; rfl; clear hS; intro b w hS) | ((with_reducible apply l_box); assumption; rfl; clear hS; intro b w hS) | ((with_reducible apply l_load); assumption; rfl; (repeat (first | exact Has.head | apply Has.tail)); (first | rfl | (simp [takeV]; done))) | ((with_reducible apply l_build); rfl; (simp [fillL, splice, Value.cells, Act.eval]; rfl)) | ((with_reducible apply l_buildA); rfl; (simp [fillL, splice, Value.cells, Act.eval]; rfl)) | ((with_reducible apply l_bslice); assumption; rfl; rfl; (first | (simp [fillL, splice, zeros, Value.cells, Act.eval]; rfl) | rfl); clear hS; intro b w hS) | ((with_reducible apply l_storeF); assumption; rfl; rfl; (repeat (first | exact Upd.head | apply Upd.tail)); rfl; clear hS; intro w hS) | ((with_reducible apply l_store); assumption; rfl; rfl; (repeat (first | exact Upd.head | apply Upd.tail)); rfl; clear hS; intro w hS; simp only [splice] at hS; try rw [splice_nil] at hS))
  go_ret2
  exact ⟨rfl, rfl⟩
theorem all_at' {α : Type} (p : α → Bool) (l : List α) (i : Nat) (x : α) (hi : l[i]? = some x) (h : (l.take i).all p = true) : (p x = true → (l.take (i + 1)).all p = true) ∧ (p x = false → l.all p = false) := by
  obtain ⟨hlt, rfl⟩ := List.getElem?_eq_some_iff.1 hi
  refine ⟨fun hp => ?_, fun hp => ?_⟩
  · rw [List.take_succ_eq_append_getElem hlt, List.all_append, h]
    simp [hp]
  · rw [Bool.eq_false_iff]
    intro ha
    have := List.all_eq_true.1 ha l[i] (List.getElem_mem hlt)
    rw [hp] at this
    cases this
/-- All of a text are as a function says, and there is one. -/
theorem digits_c (w0 : World) (l : List UInt8) (k : Nat) (lb : Array Value) (p : UInt8 → Bool) (hl : l.length ≤ 1099511627776) (ecf : ∀ args w, (callFunc k args).run Tryz.prog w = .ok (.enter k args) w)
    (hcall : ∀ (c : UInt8) (W : World), Fr [] w0 W → Calls Tryz.prog k (#[.int .u8 (c.toNat : Int)] ++ lb) W fun e w' => e = .returned (.bool (p c)) ∧ Fr [] W w') :
    Calls Tryz.prog 293 #[.agg ⟨[txt l]⟩, .func (.func k) #[] lb] w0 fun e w' => e = .returned (.bool (l.all p && !(l == []))) ∧ Fr [] w0 w' := by
  obtain ⟨R, hR⟩ : ∃ R, R = (l.all p && !(l == [])) := ⟨_, rfl⟩
  rw [← hR]
  have HR := Lib.hid hR
  have Hc := Lib.hid hcall
  clear hR hcall
  go_enter Tryz.func293, Tryz.ntmps293
  have hS := St.start [] w0
  go_wp2_with (first | ((with_reducible apply l_want); rfl) | ((with_reducible apply l_alloc); assumption; rfl; clear hS; intro b w hS) | ((with_reducible apply l_box); assumption; rfl; clear hS; intro b w hS) | ((with_reducible apply l_load); assumption; rfl; (repeat (first | exact Has.head | apply Has.tail)); (first | rfl | (simp [takeV]; done))) | ((with_reducible apply l_build); rfl; (simp [fillL, splice, Value.cells, Act.eval]; rfl)) | ((with_reducible apply l_buildA); rfl; (simp [fillL, splice, Value.cells, Act.eval]; rfl)) | ((with_reducible apply l_bslice); assumption; rfl; rfl; (first | (simp [fillL, splice, zeros, Value.cells, Act.eval]; rfl) | rfl); clear hS; intro b w hS) | ((with_reducible apply l_storeF); assumption; rfl; rfl; (repeat (first | exact Upd.head | apply Upd.tail)); rfl; clear hS; intro w hS) | ((with_reducible apply l_store); assumption; rfl; rfl; (repeat (first | exact Upd.head | apply Upd.tail)); rfl; clear hS; intro w hS; simp only [splice] at hS; try rw [splice_nil] at hS))
  go_loopg [9] l.length (fun g t9 wr => ∃ i : Nat, i + g = l.length ∧ t9 = .int .i64 (i : Int) ∧ Hid ((l.take i).all p = true) ∧ St [] w0 wr [row b 363 [txt l]])
  case atStart => exact ⟨0, by omega, rfl, Lib.hid rfl, hS⟩
  case round =>
    obtain ⟨i, hig, rfl, HT, hS⟩ := hrel
    by_cases hlt : i < l.length
    · obtain ⟨x, hx⟩ : ∃ x, l[i]? = some x := ⟨_, List.getElem?_eq_getElem hlt⟩
      have hal := all_at' p l i x hx HT.out
      have hgx : ∀ h, (ByteArray.mk l.toArray)[i]'h = x := by
        intro h
        have h2 := (List.getElem?_eq_some_iff.1 hx).2
        rw [← h2]
        rfl
      have Hal := Lib.hid hal
      clear hal hx
      cases hp : p x with
      | true =>
        have Hp := Lib.hid hp
        clear hp
        go_wp2_with (first | ((with_reducible apply l_want); rfl) | ((with_reducible apply l_alloc); assumption; rfl; clear hS; intro b w hS) | ((with_reducible apply l_box); assumption; rfl; clear hS; intro b w hS) | ((with_reducible apply l_load); assumption; rfl; (repeat (first | exact Has.head | apply Has.tail)); (first | rfl | (simp [takeV]; done))) | ((with_reducible apply l_build); rfl; (simp [fillL, splice, Value.cells, Act.eval]; rfl)) | ((with_reducible apply l_buildA); rfl; (simp [fillL, splice, Value.cells, Act.eval]; rfl)) | ((with_reducible apply l_bslice); assumption; rfl; rfl; (first | (simp [fillL, splice, zeros, Value.cells, Act.eval]; rfl) | rfl); clear hS; intro b w hS) | ((with_reducible apply l_storeF); assumption; rfl; rfl; (repeat (first | exact Upd.head | apply Upd.tail)); rfl; clear hS; intro w hS) | ((with_reducible apply l_store); assumption; rfl; rfl; (repeat (first | exact Upd.head | apply Upd.tail)); rfl; clear hS; intro w hS; simp only [splice] at hS; try rw [splice_nil] at hS))
        refine (Hc.out x wr hS.fr).mono ?_
        rw [Hp.out]
        rintro en w1 ⟨rfl, hf1⟩
        replace hS := hS.keep hf1
        go_wp2_with (first | ((with_reducible apply l_want); rfl) | ((with_reducible apply l_alloc); assumption; rfl; clear hS; intro b w hS) | ((with_reducible apply l_box); assumption; rfl; clear hS; intro b w hS) | ((with_reducible apply l_load); assumption; rfl; (repeat (first | exact Has.head | apply Has.tail)); (first | rfl | (simp [takeV]; done))) | ((with_reducible apply l_build); rfl; (simp [fillL, splice, Value.cells, Act.eval]; rfl)) | ((with_reducible apply l_buildA); rfl; (simp [fillL, splice, Value.cells, Act.eval]; rfl)) | ((with_reducible apply l_bslice); assumption; rfl; rfl; (first | (simp [fillL, splice, zeros, Value.cells, Act.eval]; rfl) | rfl); clear hS; intro b w hS) | ((with_reducible apply l_storeF); assumption; rfl; rfl; (repeat (first | exact Upd.head | apply Upd.tail)); rfl; clear hS; intro w hS) | ((with_reducible apply l_store); assumption; rfl; rfl; (repeat (first | exact Upd.head | apply Upd.tail)); rfl; clear hS; intro w hS; simp only [splice] at hS; try rw [splice_nil] at hS))
        go_roundg (gk - 1)
        case measure => omega
        case rel => exact ⟨i + 1, by omega, by go_num, Lib.hid (Hal.out.1 Hp.out), hS⟩
      | false =>
        have Hp := Lib.hid hp
        clear hp
        go_wp2_with (first | ((with_reducible apply l_want); rfl) | ((with_reducible apply l_alloc); assumption; rfl; clear hS; intro b w hS) | ((with_reducible apply l_box); assumption; rfl; clear hS; intro b w hS) | ((with_reducible apply l_load); assumption; rfl; (repeat (first | exact Has.head | apply Has.tail)); (first | rfl | (simp [takeV]; done))) | ((with_reducible apply l_build); rfl; (simp [fillL, splice, Value.cells, Act.eval]; rfl)) | ((with_reducible apply l_buildA); rfl; (simp [fillL, splice, Value.cells, Act.eval]; rfl)) | ((with_reducible apply l_bslice); assumption; rfl; rfl; (first | (simp [fillL, splice, zeros, Value.cells, Act.eval]; rfl) | rfl); clear hS; intro b w hS) | ((with_reducible apply l_storeF); assumption; rfl; rfl; (repeat (first | exact Upd.head | apply Upd.tail)); rfl; clear hS; intro w hS) | ((with_reducible apply l_store); assumption; rfl; rfl; (repeat (first | exact Upd.head | apply Upd.tail)); rfl; clear hS; intro w hS; simp only [splice] at hS; try rw [splice_nil] at hS))
        refine (Hc.out x wr hS.fr).mono ?_
        rw [Hp.out]
        rintro en w1 ⟨rfl, hf1⟩
        replace hS := hS.keep hf1
        go_wp2_with (first | ((with_reducible apply l_want); rfl) | ((with_reducible apply l_alloc); assumption; rfl; clear hS; intro b w hS) | ((with_reducible apply l_box); assumption; rfl; clear hS; intro b w hS) | ((with_reducible apply l_load); assumption; rfl; (repeat (first | exact Has.head | apply Has.tail)); (first | rfl | (simp [takeV]; done))) | ((with_reducible apply l_build); rfl; (simp [fillL, splice, Value.cells, Act.eval]; rfl)) | ((with_reducible apply l_buildA); rfl; (simp [fillL, splice, Value.cells, Act.eval]; rfl)) | ((with_reducible apply l_bslice); assumption; rfl; rfl; (first | (simp [fillL, splice, zeros, Value.cells, Act.eval]; rfl) | rfl); clear hS; intro b w hS) | ((with_reducible apply l_storeF); assumption; rfl; rfl; (repeat (first | exact Upd.head | apply Upd.tail)); rfl; clear hS; intro w hS) | ((with_reducible apply l_store); assumption; rfl; rfl; (repeat (first | exact Upd.head | apply Upd.tail)); rfl; clear hS; intro w hS; simp only [splice] at hS; try rw [splice_nil] at hS))
        go_ret
        refine ⟨?_, hS.fr⟩
        rw [HR.out, Hal.out.2 Hp.out]
        rfl
    · have hie : i = l.length := by omega
      have hn : ¬ ((i : Int) < (l.length : Int)) := by omega
      have HT2 : Hid (l.all p = true) := by
        have := HT.out
        rw [hie, List.take_length] at this
        exact Lib.hid this
      clear HT
      go_wp2_with (first | ((with_reducible apply l_want); rfl) | ((with_reducible apply l_alloc); assumption; rfl; clear hS; intro b w hS) | ((with_reducible apply l_box); assumption; rfl; clear hS; intro b w hS) | ((with_reducible apply l_load); assumption; rfl; (repeat (first | exact Has.head | apply Has.tail)); (first | rfl | (simp [takeV]; done))) | ((with_reducible apply l_build); rfl; (simp [fillL, splice, Value.cells, Act.eval]; rfl)) | ((with_reducible apply l_buildA); rfl; (simp [fillL, splice, Value.cells, Act.eval]; rfl)) | ((with_reducible apply l_bslice); assumption; rfl; rfl; (first | (simp [fillL, splice, zeros, Value.cells, Act.eval]; rfl) | rfl); clear hS; intro b w hS) | ((with_reducible apply l_storeF); assumption; rfl; rfl; (repeat (first | exact Upd.head | apply Upd.tail)); rfl; clear hS; intro w hS) | ((with_reducible apply l_store); assumption; rfl; rfl; (repeat (first | exact Upd.head | apply Upd.tail)); rfl; clear hS; intro w hS; simp only [splice] at hS; try rw [splice_nil] at hS))
      go_ret
      refine ⟨?_, hS.fr⟩
      rw [HR.out, HT2.out]
      cases l <;> rfl
theorem fold_step (n : Nat) (c : UInt8) (r : List UInt8) : foldD n (c :: r) = match foldD n [c] with | some m => foldD m r | none => none := by
  by_cases h : n * 10 + (c.toNat - 48) < 18446744073709551616
  · simp only [foldD, if_pos h]
  · simp only [foldD, if_neg h]
theorem fold_lt {n m : Nat} {c : UInt8} (h : foldD n [c] = some m) : m < 18446744073709551616 := by
  simp only [foldD] at h
  split at h
  · cases h; assumption
  · cases h
/-- Things, put together by a function, as long as it refuses none: over digits. -/
theorem folded_c (w0 : World) (l : List UInt8) (v : Value) (k : Nat) (lb : Array Value) (hl : l.length ≤ 1099511627776) (hd : l.all digB = true) (hr : RdS w0 1 v l.length (bv l)) (ecf : ∀ args w, (callFunc k args).run Tryz.prog w = .ok (.enter k args) w)
    (hcall : ∀ (n : Nat) (c : UInt8) (W : World), n < 18446744073709551616 → digB c = true → Fr [] w0 W → Calls Tryz.prog k (#[.int .u64 (n : Int), .int .u8 (c.toNat : Int)] ++ lb) W fun e w' => e = .returned (match foldD n [c] with | some m => .tuple #[.int .u64 (m : Int), .int .i64 0] | none => .tuple #[.int .u64 0, .int .i64 111]) ∧ Fr [] W w') :
    Calls Tryz.prog 295 #[.func (.func k) #[] lb, v] w0 fun e w' => e = .returned (match foldD 0 l with | some m => .tuple #[.int .u64 (m : Int), .int .i64 0] | none => .tuple #[.int .u64 0, .int .i64 111]) ∧ Fr [] w0 w' := by
  obtain ⟨R, hR⟩ : ∃ R : Value, R = (match foldD 0 l with | some m => .tuple #[.int .u64 (m : Int), .int .i64 0] | none => .tuple #[.int .u64 0, .int .i64 111]) := ⟨_, rfl⟩
  rw [← hR]
  have HR := Lib.hid hR
  have Hc := Lib.hid hcall
  obtain ⟨A, cp, rfl, hcp⟩ := hr.shape
  have Hr := Lib.hid hr
  have Hd := Lib.hid hd
  clear hR hcall hr hd
  go_enter Tryz.func295, Tryz.ntmps295
  have hS := St.start [] w0
  go_wp2_with (first | ((with_reducible apply l_want); rfl) | ((with_reducible apply l_alloc); assumption; rfl; clear hS; intro b w hS) | ((with_reducible apply l_box); assumption; rfl; clear hS; intro b w hS) | ((with_reducible apply l_load); assumption; rfl; (repeat (first | exact Has.head | apply Has.tail)); (first | rfl | (simp [takeV]; done))) | ((with_reducible apply l_build); rfl; (simp [fillL, splice, Value.cells, Act.eval]; rfl)) | ((with_reducible apply l_buildA); rfl; (simp [fillL, splice, Value.cells, Act.eval]; rfl)) | ((with_reducible apply l_bslice); assumption; rfl; rfl; (first | (simp [fillL, splice, zeros, Value.cells, Act.eval]; rfl) | rfl); clear hS; intro b w hS) | ((with_reducible apply l_storeF); assumption; rfl; rfl; (repeat (first | exact Upd.head | apply Upd.tail)); rfl; clear hS; intro w hS) | ((with_reducible apply l_store); assumption; rfl; rfl; (repeat (first | exact Upd.head | apply Upd.tail)); rfl; clear hS; intro w hS; simp only [splice] at hS; try rw [splice_nil] at hS))
  go_loopg [4, 10] l.length (fun g t4 t10 wr => ∃ (i n : Nat), i + g = l.length ∧ t10 = .int .i64 (i : Int) ∧ t4 = .int .u64 (n : Int) ∧ n < 18446744073709551616 ∧ Hid (foldD 0 l = foldD n (l.drop i)) ∧ St [] w0 wr [])
  case atStart => exact ⟨0, 0, by omega, rfl, rfl, by omega, Lib.hid rfl, hS⟩
  case round =>
    obtain ⟨i, n, hig, rfl, rfl, hn, HT, hS⟩ := hrel
    by_cases hlt : i < l.length
    · obtain ⟨x, hx⟩ : ∃ x, l[i]? = some x := ⟨_, List.getElem?_eq_getElem hlt⟩
      have hdr : l.drop i = x :: l.drop (i + 1) := by
        rw [List.drop_eq_getElem_cons hlt, (List.getElem?_eq_some_iff.1 hx).2]
      have hxd : digB x = true := List.all_eq_true.1 Hd.out x (List.mem_of_getElem? hx)
      have hrd0 := Hr.out.keep hS.fr
      obtain ⟨_, bb, o, rfl, hrd⟩ := hrd0.at i hlt (by decide)
      have hrd1 : Rd wr bb (o + i) [.int .u8 (x.toNat : Int)] := by
        have := hrd.take 1
        rw [Nat.mul_one] at this
        have e1 : ((bv l).drop i).take 1 = [.int .u8 (x.toNat : Int)] := by
          rw [bv_drop, hdr]
          rfl
        rwa [e1] at this
      have Hrd := Lib.hid hrd1
      have Hx := Lib.hid hxd
      rw [hdr] at HT
      have hst := fold_step n x (l.drop (i + 1))
      cases hf : foldD n [x] with
      | some m =>
        rw [hf] at hst
        have hm := fold_lt hf
        have Hst := Lib.hid (HT.out.trans hst)
        have Hf := Lib.hid hf
        clear hrd0 hrd hrd1 hdr hx hst hf HT hxd
        go_wp2_with (first | ((with_reducible apply l_want); rfl) | ((with_reducible apply l_read); rfl; exact Hrd.out; rfl) | ((with_reducible apply l_alloc); assumption; rfl; clear hS; intro b w hS) | ((with_reducible apply l_box); assumption; rfl; clear hS; intro b w hS) | ((with_reducible apply l_load); assumption; rfl; (repeat (first | exact Has.head | apply Has.tail)); (first | rfl | (simp [takeV]; done))) | ((with_reducible apply l_build); rfl; (simp [fillL, splice, Value.cells, Act.eval]; rfl)) | ((with_reducible apply l_buildA); rfl; (simp [fillL, splice, Value.cells, Act.eval]; rfl)) | ((with_reducible apply l_bslice); assumption; rfl; rfl; (first | (simp [fillL, splice, zeros, Value.cells, Act.eval]; rfl) | rfl); clear hS; intro b w hS) | ((with_reducible apply l_storeF); assumption; rfl; rfl; (repeat (first | exact Upd.head | apply Upd.tail)); rfl; clear hS; intro w hS) | ((with_reducible apply l_store); assumption; rfl; rfl; (repeat (first | exact Upd.head | apply Upd.tail)); rfl; clear hS; intro w hS; simp only [splice] at hS; try rw [splice_nil] at hS))
        refine (Hc.out n x wr hn Hx.out hS.fr).mono ?_
        rw [Hf.out]
        rintro en w1 ⟨rfl, hf1⟩
        replace hS := hS.keep hf1
        go_wp2_with (first | ((with_reducible apply l_want); rfl) | ((with_reducible apply l_alloc); assumption; rfl; clear hS; intro b w hS) | ((with_reducible apply l_box); assumption; rfl; clear hS; intro b w hS) | ((with_reducible apply l_load); assumption; rfl; (repeat (first | exact Has.head | apply Has.tail)); (first | rfl | (simp [takeV]; done))) | ((with_reducible apply l_build); rfl; (simp [fillL, splice, Value.cells, Act.eval]; rfl)) | ((with_reducible apply l_buildA); rfl; (simp [fillL, splice, Value.cells, Act.eval]; rfl)) | ((with_reducible apply l_bslice); assumption; rfl; rfl; (first | (simp [fillL, splice, zeros, Value.cells, Act.eval]; rfl) | rfl); clear hS; intro b w hS) | ((with_reducible apply l_storeF); assumption; rfl; rfl; (repeat (first | exact Upd.head | apply Upd.tail)); rfl; clear hS; intro w hS) | ((with_reducible apply l_store); assumption; rfl; rfl; (repeat (first | exact Upd.head | apply Upd.tail)); rfl; clear hS; intro w hS; simp only [splice] at hS; try rw [splice_nil] at hS))
        go_roundg (gk - 1)
        case measure => omega
        case rel => exact ⟨i + 1, m, by omega, by go_num, rfl, hm, Hst, hS⟩
      | none =>
        rw [hf] at hst
        have Hst := Lib.hid (HT.out.trans hst)
        have Hf := Lib.hid hf
        clear hrd0 hrd hrd1 hdr hx hst hf HT hxd
        go_wp2_with (first | ((with_reducible apply l_want); rfl) | ((with_reducible apply l_read); rfl; exact Hrd.out; rfl) | ((with_reducible apply l_alloc); assumption; rfl; clear hS; intro b w hS) | ((with_reducible apply l_box); assumption; rfl; clear hS; intro b w hS) | ((with_reducible apply l_load); assumption; rfl; (repeat (first | exact Has.head | apply Has.tail)); (first | rfl | (simp [takeV]; done))) | ((with_reducible apply l_build); rfl; (simp [fillL, splice, Value.cells, Act.eval]; rfl)) | ((with_reducible apply l_buildA); rfl; (simp [fillL, splice, Value.cells, Act.eval]; rfl)) | ((with_reducible apply l_bslice); assumption; rfl; rfl; (first | (simp [fillL, splice, zeros, Value.cells, Act.eval]; rfl) | rfl); clear hS; intro b w hS) | ((with_reducible apply l_storeF); assumption; rfl; rfl; (repeat (first | exact Upd.head | apply Upd.tail)); rfl; clear hS; intro w hS) | ((with_reducible apply l_store); assumption; rfl; rfl; (repeat (first | exact Upd.head | apply Upd.tail)); rfl; clear hS; intro w hS; simp only [splice] at hS; try rw [splice_nil] at hS))
        refine (Hc.out n x wr hn Hx.out hS.fr).mono ?_
        rw [Hf.out]
        rintro en w1 ⟨rfl, hf1⟩
        replace hS := hS.keep hf1
        go_wp2_with (first | ((with_reducible apply l_want); rfl) | ((with_reducible apply l_alloc); assumption; rfl; clear hS; intro b w hS) | ((with_reducible apply l_box); assumption; rfl; clear hS; intro b w hS) | ((with_reducible apply l_load); assumption; rfl; (repeat (first | exact Has.head | apply Has.tail)); (first | rfl | (simp [takeV]; done))) | ((with_reducible apply l_build); rfl; (simp [fillL, splice, Value.cells, Act.eval]; rfl)) | ((with_reducible apply l_buildA); rfl; (simp [fillL, splice, Value.cells, Act.eval]; rfl)) | ((with_reducible apply l_bslice); assumption; rfl; rfl; (first | (simp [fillL, splice, zeros, Value.cells, Act.eval]; rfl) | rfl); clear hS; intro b w hS) | ((with_reducible apply l_storeF); assumption; rfl; rfl; (repeat (first | exact Upd.head | apply Upd.tail)); rfl; clear hS; intro w hS) | ((with_reducible apply l_store); assumption; rfl; rfl; (repeat (first | exact Upd.head | apply Upd.tail)); rfl; clear hS; intro w hS; simp only [splice] at hS; try rw [splice_nil] at hS))
        go_ret2
        refine ⟨?_, hS.fr⟩
        rw [HR.out, Hst.out]
        rfl
    · have hie : i = l.length := by omega
      have hnl : ¬ ((i : Int) < (l.length : Int)) := by omega
      have HT2 : Hid (foldD 0 l = some n) := by
        have := HT.out
        rw [hie, List.drop_length] at this
        exact Lib.hid this
      clear HT
      go_wp2_with (first | ((with_reducible apply l_want); rfl) | ((with_reducible apply l_alloc); assumption; rfl; clear hS; intro b w hS) | ((with_reducible apply l_box); assumption; rfl; clear hS; intro b w hS) | ((with_reducible apply l_load); assumption; rfl; (repeat (first | exact Has.head | apply Has.tail)); (first | rfl | (simp [takeV]; done))) | ((with_reducible apply l_build); rfl; (simp [fillL, splice, Value.cells, Act.eval]; rfl)) | ((with_reducible apply l_buildA); rfl; (simp [fillL, splice, Value.cells, Act.eval]; rfl)) | ((with_reducible apply l_bslice); assumption; rfl; rfl; (first | (simp [fillL, splice, zeros, Value.cells, Act.eval]; rfl) | rfl); clear hS; intro b w hS) | ((with_reducible apply l_storeF); assumption; rfl; rfl; (repeat (first | exact Upd.head | apply Upd.tail)); rfl; clear hS; intro w hS) | ((with_reducible apply l_store); assumption; rfl; rfl; (repeat (first | exact Upd.head | apply Upd.tail)); rfl; clear hS; intro w hS; simp only [splice] at hS; try rw [splice_nil] at hS))
      go_ret2
      refine ⟨?_, hS.fr⟩
      rw [HR.out, HT2.out]
      rfl
end Go.Proofs.YtaejmginhkbbhaaGreatDoor
