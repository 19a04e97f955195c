/- The walks through package event, fifteenth part: resets, and what is one (F40, F41, F127). Conditions: as each contract says. -/
import Derived.Test.YtaejmginhkbbhaaGreatDoorX3
set_option linter.unusedSimpArgs false
set_option linter.unusedVariables false
set_option maxRecDepth 100000
set_option maxHeartbeats 1000000
namespace Go.Proofs.YtaejmginhkbbhaaGreatDoor
open Go Go.RowKit
theorem dec_len (u : Nat) (h : u < 18446744073709551616) : (Lib.decDigits u).length ≤ 20 := by
  rw [Lib.decDigits_length]
  by_cases h0 : u < 10
  · rw [Lib.nDigits_small h0]; omega
  · have := Lib.numDigits_eq u (by omega) h
    split at this <;> omega
/-- The reset of an epoch and a start. -/
def resetP (a b : Nat) : Ev := ⟨[], resetT, Lib.decDigits a ++ [32] ++ Lib.decDigits b⟩
theorem reset_c (w0 : World) (hG : GlobT w0) (a b : Nat) (ha : a < 18446744073709551616) (hb : b < 18446744073709551616) :
    Calls Tryz.prog 40 #[.int .u64 (a : Int), .int .u64 (b : Int)] w0 fun en w' => en = .returned (resetP a b).v ∧ Fr [] w0 w' := by
  have h1 := dec_len a ha
  have h2 := dec_len b hb
  go_enter Tryz.func40, Tryz.ntmps40
  have hS := St.start [] w0
  go_wp2_with (first | ((with_reducible apply l_want); rfl) | (go_at_call 126; go_must (refine (text_u _ (hG.keep hS.fr) _ (by assumption)).mono ?_); rintro en w1 ⟨rfl, hf1⟩; replace hS := hS.keep hf1) | ((with_reducible apply l_cat (l := Lib.decDigits a) (m := [32])); rfl; rfl; (simp; omega)) | ((with_reducible apply l_cat (l := Lib.decDigits a ++ [32]) (m := Lib.decDigits b)); rfl; rfl; (simp; omega)) | ((with_reducible apply l_alloc); assumption; rfl; clear hS; intro b w hS) | ((with_reducible apply l_box); assumption; rfl; clear hS; intro b w hS) | ((with_reducible apply l_load); assumption; rfl; (repeat (first | exact Has.head | apply Has.tail)); (first | rfl | (simp [takeV]; done))) | ((with_reducible apply l_build); rfl; (simp [fillL, splice, Value.cells, Act.eval]; rfl)) | ((with_reducible apply l_buildA); rfl; (simp [fillL, splice, Value.cells, Act.eval]; rfl)) | ((with_reducible apply l_bslice); assumption; rfl; rfl; (first | (simp [fillL, splice, zeros, Value.cells, Act.eval]; rfl) | rfl); clear hS; intro b w hS) | ((with_reducible apply l_storeF); assumption; rfl; rfl; (repeat (first | exact Upd.head | apply Upd.tail)); rfl; clear hS; intro w hS) | ((with_reducible apply l_store); assumption; rfl; rfl; (repeat (first | exact Upd.head | apply Upd.tail)); rfl; clear hS; intro w hS; simp only [splice] at hS; try rw [splice_nil] at hS))
  refine bodyPost_ret (results_c1 (k := 3) (agg := true) rfl hS rfl (by repeat (first | exact Has.head | apply Has.tail)) rfl) rfl ⟨rfl, hS.fr⟩
theorem clear3_c (S : List Nat) (w0 W : World) (L L1 L2 : List Chunk) (b c : Nat) (x y : Value) (hS : St S w0 W L) (hu : Upd L (row b 22 [x]) (row b 22 [.int .u64 0]) L1) (hu2 : Upd L1 (row c 22 [y]) (row c 22 [.int .u64 0]) L2) :
    Calls Tryz.prog 127 #[.pointer (some ⟨b, 0, none⟩), .pointer (some ⟨c, 0, none⟩)] W fun e W' => (∃ v, e = .returned v) ∧ St S w0 W' L2 := by
  go_enter Tryz.func127, Tryz.ntmps127
  go_wp2_with (first | ((with_reducible apply l_want); rfl) | ((with_reducible apply l_store); assumption; rfl; rfl; exact hu; rfl; clear hS; intro w hS) | ((with_reducible apply l_store); assumption; rfl; rfl; exact hu2; rfl; clear hS; intro w hS) | ((with_reducible apply l_alloc); assumption; rfl; clear hS; intro b w hS) | ((with_reducible apply l_box); assumption; rfl; clear hS; intro b w hS) | ((with_reducible apply l_load); assumption; rfl; (repeat (first | exact Has.head | apply Has.tail)); (first | rfl | (simp [takeV]; done))) | ((with_reducible apply l_build); rfl; (simp [fillL, splice, Value.cells, Act.eval]; rfl)) | ((with_reducible apply l_buildA); rfl; (simp [fillL, splice, Value.cells, Act.eval]; rfl)) | ((with_reducible apply l_bslice); assumption; rfl; rfl; (first | (simp [fillL, splice, zeros, Value.cells, Act.eval]; rfl) | rfl); clear hS; intro b w hS) | ((with_reducible apply l_storeF); assumption; rfl; rfl; (repeat (first | exact Upd.head | apply Upd.tail)); rfl; clear hS; intro w hS) | ((with_reducible apply l_store); assumption; rfl; rfl; (repeat (first | exact Upd.head | apply Upd.tail)); rfl; clear hS; intro w hS; simp only [splice] at hS; try rw [splice_nil] at hS))
  go_end0
  exact ⟨⟨_, rfl⟩, hS⟩
theorem cut_lens (l p : List UInt8) : (Lib.cut l p).1.length ≤ l.length ∧ (Lib.cut l p).2.1.length ≤ l.length := by
  unfold Lib.cut
  split
  · simp; omega
  · simp
/-- What an event says as a reset, and an error's number. -/
def resetsP (e : Ev) : Nat × Nat × Int :=
  if (Lib.cut e.da [32]).2.2 = true ∧ e.id = [] ∧ (e.ty == resetT) = true ∧ (parseP (Lib.cut e.da [32]).1).2 = 0 ∧ (parseP (Lib.cut e.da [32]).2.1).2 = 0 then ((parseP (Lib.cut e.da [32]).1).1, (parseP (Lib.cut e.da [32]).2.1).1, 0) else (0, 0, 170)
theorem resets_a (w0 : World) (hG : Glob w0) (id ty da x1 x2 : List UInt8) (fd r : Bool) (n1 n2 : Nat) (e1 e2 : Int)
    (hcut : ∀ W, Glob W → Calls Tryz.prog 128 #[txt da, txt [32]] W fun e w' => e = .returned (.tuple #[txt x1, txt x2, .bool fd]) ∧ Fr [] W w')
    (hres : ∀ W, Calls Tryz.prog 46 #[.agg ⟨[txt id, txt ty, txt da]⟩] W fun en w' => en = .returned (.bool r) ∧ Fr [] W w')
    (hp1 : ∀ W, Calls Tryz.prog 129 #[txt x1] W fun e w' => e = .returned (.tuple #[.int .u64 (n1 : Int), .int .i64 e1]) ∧ Fr [] W w')
    (hp2 : ∀ W, Calls Tryz.prog 129 #[txt x2] W fun e w' => e = .returned (.tuple #[.int .u64 (n2 : Int), .int .i64 e2]) ∧ Fr [] W w')
    (hfd : fd = false) :
    Calls Tryz.prog 41 #[.agg ⟨[txt id, txt ty, txt da]⟩] w0 fun en w' => en = .returned (.tuple #[.int .u64 0, .int .u64 0, .int .i64 170]) ∧ Fr [] w0 w' := by
  subst hfd
  have Hcut := Lib.hid hcut
  have Hres := Lib.hid hres
  have Hp1 := Lib.hid hp1
  have Hp2 := Lib.hid hp2
  clear hcut hres hp1 hp2
  go_enter_defers Tryz.func41, Tryz.ntmps41
  have hS := St.start [] w0
  have hmf : ∀ (fn : Fn) (first cap : Array Value) (w : World), (Instr.makeFunc fn first cap).run Tryz.prog w = .ok (.func fn first cap) w := fun _ _ _ _ => rfl
  go_wp2_with (first | ((with_reducible apply l_want); rfl) | (go_at_call 128; go_must (refine (Hcut.out _ (hG.keep hS.fr)).mono ?_); rintro en w1 ⟨rfl, hf1⟩; replace hS := hS.keep hf1) | (go_at_call 46; go_must (refine (Hres.out _).mono ?_); rintro en w1 ⟨rfl, hf1⟩; replace hS := hS.keep hf1) | (go_at_call 121; go_must (refine (must_f' _ _).mono ?_); rintro en w1 ⟨rfl, rfl⟩) | ((with_reducible apply l_alloc); assumption; rfl; clear hS; intro b w hS) | ((with_reducible apply l_box); assumption; rfl; clear hS; intro b w hS) | ((with_reducible apply l_load); assumption; rfl; (repeat (first | exact Has.head | apply Has.tail)); (first | rfl | (simp [takeV]; done))) | ((with_reducible apply l_build); rfl; (simp [fillL, splice, Value.cells, Act.eval]; rfl)) | ((with_reducible apply l_buildA); rfl; (simp [fillL, splice, Value.cells, Act.eval]; rfl)) | ((with_reducible apply l_bslice); assumption; rfl; rfl; (first | (simp [fillL, splice, zeros, Value.cells, Act.eval]; rfl) | rfl); clear hS; intro b w hS) | ((with_reducible apply l_storeF); assumption; rfl; rfl; (repeat (first | exact Upd.head | apply Upd.tail)); rfl; clear hS; intro w hS) | ((with_reducible apply l_store); assumption; rfl; rfl; (repeat (first | exact Upd.head | apply Upd.tail)); rfl; clear hS; intro w hS; simp only [splice] at hS; try rw [splice_nil] at hS))
  refine leaves_cons (f := 119) (args := #[_, _]) (by simp) (by simp [go_sem]; exact ⟨rfl, rfl⟩) ?_
  refine (caught_p [] w0 _ _ _ _ _ 127 _ 170 _ hS (enters_of Tryz.func127 (by kernel_rfl) rfl) (fun W hW => clear3_c [] w0 W _ _ _ _ _ _ _ hW (by repeat (first | exact Upd.head | apply Upd.tail)) (by repeat (first | exact Upd.head | apply Upd.tail))) (by repeat (first | exact Upd.head | apply Upd.tail))).mono ?_
  rintro e2 u' w'' ⟨rfl, rfl, hS2⟩
  exact ⟨_, results_c3 (k := 1) (k' := 1) (k2 := 1) (agg := false) (agg' := false) (agg2 := false) rfl hS2 rfl (by repeat (first | exact Has.head | apply Has.tail)) rfl rfl (by repeat (first | exact Has.head | apply Has.tail)) rfl rfl (by repeat (first | exact Has.head | apply Has.tail)) rfl, rfl, hS2.fr⟩
theorem resets_b (w0 : World) (hG : Glob w0) (id ty da x1 x2 : List UInt8) (fd r : Bool) (n1 n2 : Nat) (e1 e2 : Int)
    (hcut : ∀ W, Glob W → Calls Tryz.prog 128 #[txt da, txt [32]] W fun e w' => e = .returned (.tuple #[txt x1, txt x2, .bool fd]) ∧ Fr [] W w')
    (hres : ∀ W, Calls Tryz.prog 46 #[.agg ⟨[txt id, txt ty, txt da]⟩] W fun en w' => en = .returned (.bool r) ∧ Fr [] W w')
    (hp1 : ∀ W, Calls Tryz.prog 129 #[txt x1] W fun e w' => e = .returned (.tuple #[.int .u64 (n1 : Int), .int .i64 e1]) ∧ Fr [] W w')
    (hp2 : ∀ W, Calls Tryz.prog 129 #[txt x2] W fun e w' => e = .returned (.tuple #[.int .u64 (n2 : Int), .int .i64 e2]) ∧ Fr [] W w')
    (hfd : fd = true) (hid : id ≠ []) :
    Calls Tryz.prog 41 #[.agg ⟨[txt id, txt ty, txt da]⟩] w0 fun en w' => en = .returned (.tuple #[.int .u64 0, .int .u64 0, .int .i64 170]) ∧ Fr [] w0 w' := by
  subst hfd
  obtain ⟨c, id, rfl⟩ : ∃ c l, id = c :: l := by
    cases id with
    | nil => exact absurd rfl hid
    | cons c l => exact ⟨c, l, rfl⟩
  clear hid
  have Hcut := Lib.hid hcut
  have Hres := Lib.hid hres
  have Hp1 := Lib.hid hp1
  have Hp2 := Lib.hid hp2
  clear hcut hres hp1 hp2
  go_enter_defers Tryz.func41, Tryz.ntmps41
  have hS := St.start [] w0
  have hmf : ∀ (fn : Fn) (first cap : Array Value) (w : World), (Instr.makeFunc fn first cap).run Tryz.prog w = .ok (.func fn first cap) w := fun _ _ _ _ => rfl
  go_wp2_with (first | ((with_reducible apply l_want); rfl) | (go_at_call 128; go_must (refine (Hcut.out _ (hG.keep hS.fr)).mono ?_); rintro en w1 ⟨rfl, hf1⟩; replace hS := hS.keep hf1) | (go_at_call 46; go_must (refine (Hres.out _).mono ?_); rintro en w1 ⟨rfl, hf1⟩; replace hS := hS.keep hf1) | (go_at_call 121; go_must (refine (must_f' _ _).mono ?_); rintro en w1 ⟨rfl, rfl⟩) | ((with_reducible apply l_alloc); assumption; rfl; clear hS; intro b w hS) | ((with_reducible apply l_box); assumption; rfl; clear hS; intro b w hS) | ((with_reducible apply l_load); assumption; rfl; (repeat (first | exact Has.head | apply Has.tail)); (first | rfl | (simp [takeV]; done))) | ((with_reducible apply l_build); rfl; (simp [fillL, splice, Value.cells, Act.eval]; rfl)) | ((with_reducible apply l_buildA); rfl; (simp [fillL, splice, Value.cells, Act.eval]; rfl)) | ((with_reducible apply l_bslice); assumption; rfl; rfl; (first | (simp [fillL, splice, zeros, Value.cells, Act.eval]; rfl) | rfl); clear hS; intro b w hS) | ((with_reducible apply l_storeF); assumption; rfl; rfl; (repeat (first | exact Upd.head | apply Upd.tail)); rfl; clear hS; intro w hS) | ((with_reducible apply l_store); assumption; rfl; rfl; (repeat (first | exact Upd.head | apply Upd.tail)); rfl; clear hS; intro w hS; simp only [splice] at hS; try rw [splice_nil] at hS))
  refine leaves_cons (f := 119) (args := #[_, _]) (by simp) (by simp [go_sem]; exact ⟨rfl, rfl⟩) ?_
  refine (caught_p [] w0 _ _ _ _ _ 127 _ 170 _ hS (enters_of Tryz.func127 (by kernel_rfl) rfl) (fun W hW => clear3_c [] w0 W _ _ _ _ _ _ _ hW (by repeat (first | exact Upd.head | apply Upd.tail)) (by repeat (first | exact Upd.head | apply Upd.tail))) (by repeat (first | exact Upd.head | apply Upd.tail))).mono ?_
  rintro e2 u' w'' ⟨rfl, rfl, hS2⟩
  exact ⟨_, results_c3 (k := 1) (k' := 1) (k2 := 1) (agg := false) (agg' := false) (agg2 := false) rfl hS2 rfl (by repeat (first | exact Has.head | apply Has.tail)) rfl rfl (by repeat (first | exact Has.head | apply Has.tail)) rfl rfl (by repeat (first | exact Has.head | apply Has.tail)) rfl, rfl, hS2.fr⟩
theorem resets_c0 (w0 : World) (hG : Glob w0) (id ty da x1 x2 : List UInt8) (fd r : Bool) (n1 n2 : Nat) (e1 e2 : Int)
    (hcut : ∀ W, Glob W → Calls Tryz.prog 128 #[txt da, txt [32]] W fun e w' => e = .returned (.tuple #[txt x1, txt x2, .bool fd]) ∧ Fr [] W w')
    (hres : ∀ W, Calls Tryz.prog 46 #[.agg ⟨[txt id, txt ty, txt da]⟩] W fun en w' => en = .returned (.bool r) ∧ Fr [] W w')
    (hp1 : ∀ W, Calls Tryz.prog 129 #[txt x1] W fun e w' => e = .returned (.tuple #[.int .u64 (n1 : Int), .int .i64 e1]) ∧ Fr [] W w')
    (hp2 : ∀ W, Calls Tryz.prog 129 #[txt x2] W fun e w' => e = .returned (.tuple #[.int .u64 (n2 : Int), .int .i64 e2]) ∧ Fr [] W w')
    (hfd : fd = true) (hid : id = []) (hr : r = false) :
    Calls Tryz.prog 41 #[.agg ⟨[txt id, txt ty, txt da]⟩] w0 fun en w' => en = .returned (.tuple #[.int .u64 0, .int .u64 0, .int .i64 170]) ∧ Fr [] w0 w' := by
  subst hfd
  subst hid
  subst hr
  have Hcut := Lib.hid hcut
  have Hres := Lib.hid hres
  have Hp1 := Lib.hid hp1
  have Hp2 := Lib.hid hp2
  clear hcut hres hp1 hp2
  go_enter_defers Tryz.func41, Tryz.ntmps41
  have hS := St.start [] w0
  have hmf : ∀ (fn : Fn) (first cap : Array Value) (w : World), (Instr.makeFunc fn first cap).run Tryz.prog w = .ok (.func fn first cap) w := fun _ _ _ _ => rfl
  go_wp2_with (first | ((with_reducible apply l_want); rfl) | (go_at_call 128; go_must (refine (Hcut.out _ (hG.keep hS.fr)).mono ?_); rintro en w1 ⟨rfl, hf1⟩; replace hS := hS.keep hf1) | (go_at_call 46; go_must (refine (Hres.out _).mono ?_); rintro en w1 ⟨rfl, hf1⟩; replace hS := hS.keep hf1) | (go_at_call 121; go_must (refine (must_f' _ _).mono ?_); rintro en w1 ⟨rfl, rfl⟩) | ((with_reducible apply l_alloc); assumption; rfl; clear hS; intro b w hS) | ((with_reducible apply l_box); assumption; rfl; clear hS; intro b w hS) | ((with_reducible apply l_load); assumption; rfl; (repeat (first | exact Has.head | apply Has.tail)); (first | rfl | (simp [takeV]; done))) | ((with_reducible apply l_build); rfl; (simp [fillL, splice, Value.cells, Act.eval]; rfl)) | ((with_reducible apply l_buildA); rfl; (simp [fillL, splice, Value.cells, Act.eval]; rfl)) | ((with_reducible apply l_bslice); assumption; rfl; rfl; (first | (simp [fillL, splice, zeros, Value.cells, Act.eval]; rfl) | rfl); clear hS; intro b w hS) | ((with_reducible apply l_storeF); assumption; rfl; rfl; (repeat (first | exact Upd.head | apply Upd.tail)); rfl; clear hS; intro w hS) | ((with_reducible apply l_store); assumption; rfl; rfl; (repeat (first | exact Upd.head | apply Upd.tail)); rfl; clear hS; intro w hS; simp only [splice] at hS; try rw [splice_nil] at hS))
  refine leaves_cons (f := 119) (args := #[_, _]) (by simp) (by simp [go_sem]; exact ⟨rfl, rfl⟩) ?_
  refine (caught_p [] w0 _ _ _ _ _ 127 _ 170 _ hS (enters_of Tryz.func127 (by kernel_rfl) rfl) (fun W hW => clear3_c [] w0 W _ _ _ _ _ _ _ hW (by repeat (first | exact Upd.head | apply Upd.tail)) (by repeat (first | exact Upd.head | apply Upd.tail))) (by repeat (first | exact Upd.head | apply Upd.tail))).mono ?_
  rintro e2 u' w'' ⟨rfl, rfl, hS2⟩
  exact ⟨_, results_c3 (k := 1) (k' := 1) (k2 := 1) (agg := false) (agg' := false) (agg2 := false) rfl hS2 rfl (by repeat (first | exact Has.head | apply Has.tail)) rfl rfl (by repeat (first | exact Has.head | apply Has.tail)) rfl rfl (by repeat (first | exact Has.head | apply Has.tail)) rfl, rfl, hS2.fr⟩
theorem resets_d (w0 : World) (hG : Glob w0) (id ty da x1 x2 : List UInt8) (fd r : Bool) (n1 n2 : Nat) (e1 e2 : Int)
    (hcut : ∀ W, Glob W → Calls Tryz.prog 128 #[txt da, txt [32]] W fun e w' => e = .returned (.tuple #[txt x1, txt x2, .bool fd]) ∧ Fr [] W w')
    (hres : ∀ W, Calls Tryz.prog 46 #[.agg ⟨[txt id, txt ty, txt da]⟩] W fun en w' => en = .returned (.bool r) ∧ Fr [] W w')
    (hp1 : ∀ W, Calls Tryz.prog 129 #[txt x1] W fun e w' => e = .returned (.tuple #[.int .u64 (n1 : Int), .int .i64 e1]) ∧ Fr [] W w')
    (hp2 : ∀ W, Calls Tryz.prog 129 #[txt x2] W fun e w' => e = .returned (.tuple #[.int .u64 (n2 : Int), .int .i64 e2]) ∧ Fr [] W w')
    (hfd : fd = true) (hid : id = []) (hr : r = true) (he1 : e1 ≠ 0) :
    Calls Tryz.prog 41 #[.agg ⟨[txt id, txt ty, txt da]⟩] w0 fun en w' => en = .returned (.tuple #[.int .u64 0, .int .u64 0, .int .i64 170]) ∧ Fr [] w0 w' := by
  subst hfd
  subst hid
  subst hr
  have he1b : (e1 == 0) = false := by simpa using he1
  have Hcut := Lib.hid hcut
  have Hres := Lib.hid hres
  have Hp1 := Lib.hid hp1
  have Hp2 := Lib.hid hp2
  clear hcut hres hp1 hp2
  go_enter_defers Tryz.func41, Tryz.ntmps41
  have hS := St.start [] w0
  have hmf : ∀ (fn : Fn) (first cap : Array Value) (w : World), (Instr.makeFunc fn first cap).run Tryz.prog w = .ok (.func fn first cap) w := fun _ _ _ _ => rfl
  go_wp2_with (first | ((with_reducible apply l_want); rfl) | (go_at_call 128; go_must (refine (Hcut.out _ (hG.keep hS.fr)).mono ?_); rintro en w1 ⟨rfl, hf1⟩; replace hS := hS.keep hf1) | (go_at_call 46; go_must (refine (Hres.out _).mono ?_); rintro en w1 ⟨rfl, hf1⟩; replace hS := hS.keep hf1) | (go_at_call 121; go_must (refine (must_t _ _).mono ?_); rintro en w1 ⟨⟨v, rfl⟩, rfl⟩) | ((with_reducible apply l_alloc); assumption; rfl; clear hS; intro b w hS) | ((with_reducible apply l_box); assumption; rfl; clear hS; intro b w hS) | ((with_reducible apply l_load); assumption; rfl; (repeat (first | exact Has.head | apply Has.tail)); (first | rfl | (simp [takeV]; done))) | ((with_reducible apply l_build); rfl; (simp [fillL, splice, Value.cells, Act.eval]; rfl)) | ((with_reducible apply l_buildA); rfl; (simp [fillL, splice, Value.cells, Act.eval]; rfl)) | ((with_reducible apply l_bslice); assumption; rfl; rfl; (first | (simp [fillL, splice, zeros, Value.cells, Act.eval]; rfl) | rfl); clear hS; intro b w hS) | ((with_reducible apply l_storeF); assumption; rfl; rfl; (repeat (first | exact Upd.head | apply Upd.tail)); rfl; clear hS; intro w hS) | ((with_reducible apply l_store); assumption; rfl; rfl; (repeat (first | exact Upd.head | apply Upd.tail)); rfl; clear hS; intro w hS; simp only [splice] at hS; try rw [splice_nil] at hS))
  refine wp_loop_rounds 3 ?_
  rw [rounds_succ]
  go_wp2_with (first | ((with_reducible apply l_want); rfl) | (go_at_call 129; go_must (refine (Hp1.out _).mono ?_); rintro en w1 ⟨rfl, hf1⟩; replace hS := hS.keep hf1) | (go_at_call 121; go_must (refine (must_f' _ _).mono ?_); rintro en w1 ⟨rfl, rfl⟩) | ((with_reducible apply l_alloc); assumption; rfl; clear hS; intro b w hS) | ((with_reducible apply l_box); assumption; rfl; clear hS; intro b w hS) | ((with_reducible apply l_load); assumption; rfl; (repeat (first | exact Has.head | apply Has.tail)); (first | rfl | (simp [takeV]; done))) | ((with_reducible apply l_build); rfl; (simp [fillL, splice, Value.cells, Act.eval]; rfl)) | ((with_reducible apply l_buildA); rfl; (simp [fillL, splice, Value.cells, Act.eval]; rfl)) | ((with_reducible apply l_bslice); assumption; rfl; rfl; (first | (simp [fillL, splice, zeros, Value.cells, Act.eval]; rfl) | rfl); clear hS; intro b w hS) | ((with_reducible apply l_storeF); assumption; rfl; rfl; (repeat (first | exact Upd.head | apply Upd.tail)); rfl; clear hS; intro w hS) | ((with_reducible apply l_store); assumption; rfl; rfl; (repeat (first | exact Upd.head | apply Upd.tail)); rfl; clear hS; intro w hS; simp only [splice] at hS; try rw [splice_nil] at hS))
  refine leaves_cons (f := 119) (args := #[_, _]) (by simp) (by simp [go_sem]; exact ⟨rfl, rfl⟩) ?_
  refine (caught_p [] w0 _ _ _ _ _ 127 _ 170 _ hS (enters_of Tryz.func127 (by kernel_rfl) rfl) (fun W hW => clear3_c [] w0 W _ _ _ _ _ _ _ hW (by repeat (first | exact Upd.head | apply Upd.tail)) (by repeat (first | exact Upd.head | apply Upd.tail))) (by repeat (first | exact Upd.head | apply Upd.tail))).mono ?_
  rintro e2 u' w'' ⟨rfl, rfl, hS2⟩
  exact ⟨_, results_c3 (k := 1) (k' := 1) (k2 := 1) (agg := false) (agg' := false) (agg2 := false) rfl hS2 rfl (by repeat (first | exact Has.head | apply Has.tail)) rfl rfl (by repeat (first | exact Has.head | apply Has.tail)) rfl rfl (by repeat (first | exact Has.head | apply Has.tail)) rfl, rfl, hS2.fr⟩
theorem resets_e (w0 : World) (hG : Glob w0) (id ty da x1 x2 : List UInt8) (fd r : Bool) (n1 n2 : Nat) (e1 e2 : Int)
    (hcut : ∀ W, Glob W → Calls Tryz.prog 128 #[txt da, txt [32]] W fun e w' => e = .returned (.tuple #[txt x1, txt x2, .bool fd]) ∧ Fr [] W w')
    (hres : ∀ W, Calls Tryz.prog 46 #[.agg ⟨[txt id, txt ty, txt da]⟩] W fun en w' => en = .returned (.bool r) ∧ Fr [] W w')
    (hp1 : ∀ W, Calls Tryz.prog 129 #[txt x1] W fun e w' => e = .returned (.tuple #[.int .u64 (n1 : Int), .int .i64 e1]) ∧ Fr [] W w')
    (hp2 : ∀ W, Calls Tryz.prog 129 #[txt x2] W fun e w' => e = .returned (.tuple #[.int .u64 (n2 : Int), .int .i64 e2]) ∧ Fr [] W w')
    (hfd : fd = true) (hid : id = []) (hr : r = true) (he1 : e1 = 0) (he2 : e2 ≠ 0) :
    Calls Tryz.prog 41 #[.agg ⟨[txt id, txt ty, txt da]⟩] w0 fun en w' => en = .returned (.tuple #[.int .u64 0, .int .u64 0, .int .i64 170]) ∧ Fr [] w0 w' := by
  subst hfd
  subst hid
  subst hr
  subst he1
  have he2b : (e2 == 0) = false := by simpa using he2
  have Hcut := Lib.hid hcut
  have Hres := Lib.hid hres
  have Hp1 := Lib.hid hp1
  have Hp2 := Lib.hid hp2
  clear hcut hres hp1 hp2
  go_enter_defers Tryz.func41, Tryz.ntmps41
  have hS := St.start [] w0
  have hmf : ∀ (fn : Fn) (first cap : Array Value) (w : World), (Instr.makeFunc fn first cap).run Tryz.prog w = .ok (.func fn first cap) w := fun _ _ _ _ => rfl
  go_wp2_with (first | ((with_reducible apply l_want); rfl) | (go_at_call 128; go_must (refine (Hcut.out _ (hG.keep hS.fr)).mono ?_); rintro en w1 ⟨rfl, hf1⟩; replace hS := hS.keep hf1) | (go_at_call 46; go_must (refine (Hres.out _).mono ?_); rintro en w1 ⟨rfl, hf1⟩; replace hS := hS.keep hf1) | (go_at_call 121; go_must (refine (must_t _ _).mono ?_); rintro en w1 ⟨⟨v, rfl⟩, rfl⟩) | ((with_reducible apply l_alloc); assumption; rfl; clear hS; intro b w hS) | ((with_reducible apply l_box); assumption; rfl; clear hS; intro b w hS) | ((with_reducible apply l_load); assumption; rfl; (repeat (first | exact Has.head | apply Has.tail)); (first | rfl | (simp [takeV]; done))) | ((with_reducible apply l_build); rfl; (simp [fillL, splice, Value.cells, Act.eval]; rfl)) | ((with_reducible apply l_buildA); rfl; (simp [fillL, splice, Value.cells, Act.eval]; rfl)) | ((with_reducible apply l_bslice); assumption; rfl; rfl; (first | (simp [fillL, splice, zeros, Value.cells, Act.eval]; rfl) | rfl); clear hS; intro b w hS) | ((with_reducible apply l_storeF); assumption; rfl; rfl; (repeat (first | exact Upd.head | apply Upd.tail)); rfl; clear hS; intro w hS) | ((with_reducible apply l_store); assumption; rfl; rfl; (repeat (first | exact Upd.head | apply Upd.tail)); rfl; clear hS; intro w hS; simp only [splice] at hS; try rw [splice_nil] at hS))
  refine wp_loop_rounds 3 ?_
  rw [rounds_succ]
  go_wp2_with (first | ((with_reducible apply l_want); rfl) | (go_at_call 129; go_must (refine (Hp1.out _).mono ?_); rintro en w1 ⟨rfl, hf1⟩; replace hS := hS.keep hf1) | (go_at_call 121; go_must (refine (must_t _ _).mono ?_); rintro en w1 ⟨⟨v, rfl⟩, rfl⟩) | ((with_reducible apply l_alloc); assumption; rfl; clear hS; intro b w hS) | ((with_reducible apply l_box); assumption; rfl; clear hS; intro b w hS) | ((with_reducible apply l_load); assumption; rfl; (repeat (first | exact Has.head | apply Has.tail)); (first | rfl | (simp [takeV]; done))) | ((with_reducible apply l_build); rfl; (simp [fillL, splice, Value.cells, Act.eval]; rfl)) | ((with_reducible apply l_buildA); rfl; (simp [fillL, splice, Value.cells, Act.eval]; rfl)) | ((with_reducible apply l_bslice); assumption; rfl; rfl; (first | (simp [fillL, splice, zeros, Value.cells, Act.eval]; rfl) | rfl); clear hS; intro b w hS) | ((with_reducible apply l_storeF); assumption; rfl; rfl; (repeat (first | exact Upd.head | apply Upd.tail)); rfl; clear hS; intro w hS) | ((with_reducible apply l_store); assumption; rfl; rfl; (repeat (first | exact Upd.head | apply Upd.tail)); rfl; clear hS; intro w hS; simp only [splice] at hS; try rw [splice_nil] at hS))
  rw [rounds_succ]
  go_wp2_with (first | ((with_reducible apply l_want); rfl) | (go_at_call 129; go_must (refine (Hp2.out _).mono ?_); rintro en w1 ⟨rfl, hf1⟩; replace hS := hS.keep hf1) | (go_at_call 121; go_must (refine (must_f' _ _).mono ?_); rintro en w1 ⟨rfl, rfl⟩) | ((with_reducible apply l_alloc); assumption; rfl; clear hS; intro b w hS) | ((with_reducible apply l_box); assumption; rfl; clear hS; intro b w hS) | ((with_reducible apply l_load); assumption; rfl; (repeat (first | exact Has.head | apply Has.tail)); (first | rfl | (simp [takeV]; done))) | ((with_reducible apply l_build); rfl; (simp [fillL, splice, Value.cells, Act.eval]; rfl)) | ((with_reducible apply l_buildA); rfl; (simp [fillL, splice, Value.cells, Act.eval]; rfl)) | ((with_reducible apply l_bslice); assumption; rfl; rfl; (first | (simp [fillL, splice, zeros, Value.cells, Act.eval]; rfl) | rfl); clear hS; intro b w hS) | ((with_reducible apply l_storeF); assumption; rfl; rfl; (repeat (first | exact Upd.head | apply Upd.tail)); rfl; clear hS; intro w hS) | ((with_reducible apply l_store); assumption; rfl; rfl; (repeat (first | exact Upd.head | apply Upd.tail)); rfl; clear hS; intro w hS; simp only [splice] at hS; try rw [splice_nil] at hS))
  refine leaves_cons (f := 119) (args := #[_, _]) (by simp) (by simp [go_sem]; exact ⟨rfl, rfl⟩) ?_
  refine (caught_p [] w0 _ _ _ _ _ 127 _ 170 _ hS (enters_of Tryz.func127 (by kernel_rfl) rfl) (fun W hW => clear3_c [] w0 W _ _ _ _ _ _ _ hW (by repeat (first | exact Upd.head | apply Upd.tail)) (by repeat (first | exact Upd.head | apply Upd.tail))) (by repeat (first | exact Upd.head | apply Upd.tail))).mono ?_
  rintro e2 u' w'' ⟨rfl, rfl, hS2⟩
  exact ⟨_, results_c3 (k := 1) (k' := 1) (k2 := 1) (agg := false) (agg' := false) (agg2 := false) rfl hS2 rfl (by repeat (first | exact Has.head | apply Has.tail)) rfl rfl (by repeat (first | exact Has.head | apply Has.tail)) rfl rfl (by repeat (first | exact Has.head | apply Has.tail)) rfl, rfl, hS2.fr⟩
theorem resets_f (w0 : World) (hG : Glob w0) (id ty da x1 x2 : List UInt8) (fd r : Bool) (n1 n2 : Nat) (e1 e2 : Int)
    (hcut : ∀ W, Glob W → Calls Tryz.prog 128 #[txt da, txt [32]] W fun e w' => e = .returned (.tuple #[txt x1, txt x2, .bool fd]) ∧ Fr [] W w')
    (hres : ∀ W, Calls Tryz.prog 46 #[.agg ⟨[txt id, txt ty, txt da]⟩] W fun en w' => en = .returned (.bool r) ∧ Fr [] W w')
    (hp1 : ∀ W, Calls Tryz.prog 129 #[txt x1] W fun e w' => e = .returned (.tuple #[.int .u64 (n1 : Int), .int .i64 e1]) ∧ Fr [] W w')
    (hp2 : ∀ W, Calls Tryz.prog 129 #[txt x2] W fun e w' => e = .returned (.tuple #[.int .u64 (n2 : Int), .int .i64 e2]) ∧ Fr [] W w')
    (hfd : fd = true) (hid : id = []) (hr : r = true) (he1 : e1 = 0) (he2 : e2 = 0) :
    Calls Tryz.prog 41 #[.agg ⟨[txt id, txt ty, txt da]⟩] w0 fun en w' => en = .returned (.tuple #[.int .u64 (n1 : Int), .int .u64 (n2 : Int), .int .i64 0]) ∧ Fr [] w0 w' := by
  subst hfd
  subst hid
  subst hr
  subst he1
  subst he2
  have Hcut := Lib.hid hcut
  have Hres := Lib.hid hres
  have Hp1 := Lib.hid hp1
  have Hp2 := Lib.hid hp2
  clear hcut hres hp1 hp2
  go_enter_defers Tryz.func41, Tryz.ntmps41
  have hS := St.start [] w0
  have hmf : ∀ (fn : Fn) (first cap : Array Value) (w : World), (Instr.makeFunc fn first cap).run Tryz.prog w = .ok (.func fn first cap) w := fun _ _ _ _ => rfl
  go_wp2_with (first | ((with_reducible apply l_want); rfl) | (go_at_call 128; go_must (refine (Hcut.out _ (hG.keep hS.fr)).mono ?_); rintro en w1 ⟨rfl, hf1⟩; replace hS := hS.keep hf1) | (go_at_call 46; go_must (refine (Hres.out _).mono ?_); rintro en w1 ⟨rfl, hf1⟩; replace hS := hS.keep hf1) | (go_at_call 121; go_must (refine (must_t _ _).mono ?_); rintro en w1 ⟨⟨v, rfl⟩, rfl⟩) | ((with_reducible apply l_alloc); assumption; rfl; clear hS; intro b w hS) | ((with_reducible apply l_box); assumption; rfl; clear hS; intro b w hS) | ((with_reducible apply l_load); assumption; rfl; (repeat (first | exact Has.head | apply Has.tail)); (first | rfl | (simp [takeV]; done))) | ((with_reducible apply l_build); rfl; (simp [fillL, splice, Value.cells, Act.eval]; rfl)) | ((with_reducible apply l_buildA); rfl; (simp [fillL, splice, Value.cells, Act.eval]; rfl)) | ((with_reducible apply l_bslice); assumption; rfl; rfl; (first | (simp [fillL, splice, zeros, Value.cells, Act.eval]; rfl) | rfl); clear hS; intro b w hS) | ((with_reducible apply l_storeF); assumption; rfl; rfl; (repeat (first | exact Upd.head | apply Upd.tail)); rfl; clear hS; intro w hS) | ((with_reducible apply l_store); assumption; rfl; rfl; (repeat (first | exact Upd.head | apply Upd.tail)); rfl; clear hS; intro w hS; simp only [splice] at hS; try rw [splice_nil] at hS))
  refine wp_loop_rounds 3 ?_
  rw [rounds_succ]
  go_wp2_with (first | ((with_reducible apply l_want); rfl) | (go_at_call 129; go_must (refine (Hp1.out _).mono ?_); rintro en w1 ⟨rfl, hf1⟩; replace hS := hS.keep hf1) | (go_at_call 121; go_must (refine (must_t _ _).mono ?_); rintro en w1 ⟨⟨v, rfl⟩, rfl⟩) | ((with_reducible apply l_alloc); assumption; rfl; clear hS; intro b w hS) | ((with_reducible apply l_box); assumption; rfl; clear hS; intro b w hS) | ((with_reducible apply l_load); assumption; rfl; (repeat (first | exact Has.head | apply Has.tail)); (first | rfl | (simp [takeV]; done))) | ((with_reducible apply l_build); rfl; (simp [fillL, splice, Value.cells, Act.eval]; rfl)) | ((with_reducible apply l_buildA); rfl; (simp [fillL, splice, Value.cells, Act.eval]; rfl)) | ((with_reducible apply l_bslice); assumption; rfl; rfl; (first | (simp [fillL, splice, zeros, Value.cells, Act.eval]; rfl) | rfl); clear hS; intro b w hS) | ((with_reducible apply l_storeF); assumption; rfl; rfl; (repeat (first | exact Upd.head | apply Upd.tail)); rfl; clear hS; intro w hS) | ((with_reducible apply l_store); assumption; rfl; rfl; (repeat (first | exact Upd.head | apply Upd.tail)); rfl; clear hS; intro w hS; simp only [splice] at hS; try rw [splice_nil] at hS))
  rw [rounds_succ]
  go_wp2_with (first | ((with_reducible apply l_want); rfl) | (go_at_call 129; go_must (refine (Hp2.out _).mono ?_); rintro en w1 ⟨rfl, hf1⟩; replace hS := hS.keep hf1) | (go_at_call 121; go_must (refine (must_t _ _).mono ?_); rintro en w1 ⟨⟨v, rfl⟩, rfl⟩) | ((with_reducible apply l_alloc); assumption; rfl; clear hS; intro b w hS) | ((with_reducible apply l_box); assumption; rfl; clear hS; intro b w hS) | ((with_reducible apply l_load); assumption; rfl; (repeat (first | exact Has.head | apply Has.tail)); (first | rfl | (simp [takeV]; done))) | ((with_reducible apply l_build); rfl; (simp [fillL, splice, Value.cells, Act.eval]; rfl)) | ((with_reducible apply l_buildA); rfl; (simp [fillL, splice, Value.cells, Act.eval]; rfl)) | ((with_reducible apply l_bslice); assumption; rfl; rfl; (first | (simp [fillL, splice, zeros, Value.cells, Act.eval]; rfl) | rfl); clear hS; intro b w hS) | ((with_reducible apply l_storeF); assumption; rfl; rfl; (repeat (first | exact Upd.head | apply Upd.tail)); rfl; clear hS; intro w hS) | ((with_reducible apply l_store); assumption; rfl; rfl; (repeat (first | exact Upd.head | apply Upd.tail)); rfl; clear hS; intro w hS; simp only [splice] at hS; try rw [splice_nil] at hS))
  rw [rounds_succ]
  go_wp2_with (first | ((with_reducible apply l_want); rfl) | ((with_reducible apply l_alloc); assumption; rfl; clear hS; intro b w hS) | ((with_reducible apply l_box); assumption; rfl; clear hS; intro b w hS) | ((with_reducible apply l_load); assumption; rfl; (repeat (first | exact Has.head | apply Has.tail)); (first | rfl | (simp [takeV]; done))) | ((with_reducible apply l_build); rfl; (simp [fillL, splice, Value.cells, Act.eval]; rfl)) | ((with_reducible apply l_buildA); rfl; (simp [fillL, splice, Value.cells, Act.eval]; rfl)) | ((with_reducible apply l_bslice); assumption; rfl; rfl; (first | (simp [fillL, splice, zeros, Value.cells, Act.eval]; rfl) | rfl); clear hS; intro b w hS) | ((with_reducible apply l_storeF); assumption; rfl; rfl; (repeat (first | exact Upd.head | apply Upd.tail)); rfl; clear hS; intro w hS) | ((with_reducible apply l_store); assumption; rfl; rfl; (repeat (first | exact Upd.head | apply Upd.tail)); rfl; clear hS; intro w hS; simp only [splice] at hS; try rw [splice_nil] at hS))
  refine leaves_cons (f := 119) (args := #[_, _]) (by simp) (by simp [go_sem]; exact ⟨rfl, rfl⟩) ?_
  refine (caught_r _ _ _).mono ?_
  rintro e2 u' w'' ⟨rfl, rfl, rfl⟩
  exact ⟨_, results_c3 (k := 1) (k' := 1) (k2 := 1) (agg := false) (agg' := false) (agg2 := false) rfl hS rfl (by repeat (first | exact Has.head | apply Has.tail)) rfl rfl (by repeat (first | exact Has.head | apply Has.tail)) rfl rfl (by repeat (first | exact Has.head | apply Has.tail)) rfl, rfl, hS.fr⟩
theorem resets_c (w0 : World) (hG : Glob w0) (e : Ev) (hid : e.id.length ≤ 1099511627776) (hty : e.ty.length ≤ 1099511627776) (hda : e.da.length < 4294967281) :
    Calls Tryz.prog 41 #[e.v] w0 fun en w' => en = .returned (.tuple #[.int .u64 ((resetsP e).1 : Int), .int .u64 ((resetsP e).2.1 : Int), .int .i64 (resetsP e).2.2]) ∧ Fr [] w0 w' := by
  obtain ⟨id, ty, da⟩ := e
  have hcl := cut_lens da [32]
  have hcut := fun W (hW : Glob W) => cut_c W hW da [32] hda
  have hres := fun W => reserved_c W ⟨id, ty, da⟩
  have hp1 := fun W => parse_c W (Lib.cut da [32]).1 (by simp only at hda; omega)
  have hp2 := fun W => parse_c W (Lib.cut da [32]).2.1 (by simp only at hda; omega)
  unfold resetsP
  simp only
  obtain ⟨fd, hfd⟩ : ∃ fd, fd = (Lib.cut da [32]).2.2 := ⟨_, rfl⟩
  obtain ⟨r, hr⟩ : ∃ r, r = (ty == resetT) := ⟨_, rfl⟩
  obtain ⟨e1, he1⟩ : ∃ e1, e1 = (parseP (Lib.cut da [32]).1).2 := ⟨_, rfl⟩
  obtain ⟨e2, he2⟩ : ∃ e2, e2 = (parseP (Lib.cut da [32]).2.1).2 := ⟨_, rfl⟩
  simp only [← hfd, ← hr, ← he1, ← he2] at hcut hres hp1 hp2 ⊢
  clear hfd hr he1 he2 hcl
  cases fd with
  | false =>
    rw [if_neg (by simp)]
    exact resets_a w0 hG id ty da _ _ _ _ _ _ _ _ hcut hres hp1 hp2 rfl
  | true =>
    by_cases h1 : id = []
    · cases r with
      | false =>
        rw [if_neg (by simp)]
        exact resets_c0 w0 hG id ty da _ _ _ _ _ _ _ _ hcut hres hp1 hp2 rfl h1 rfl
      | true =>
        by_cases h2 : e1 = 0
        · by_cases h3 : e2 = 0
          · rw [if_pos ⟨rfl, h1, rfl, h2, h3⟩]
            exact resets_f w0 hG id ty da _ _ _ _ _ _ _ _ hcut hres hp1 hp2 rfl h1 rfl h2 h3
          · rw [if_neg (by simp [h3])]
            exact resets_e w0 hG id ty da _ _ _ _ _ _ _ _ hcut hres hp1 hp2 rfl h1 rfl h2 h3
        · rw [if_neg (by simp [h2])]
          exact resets_d w0 hG id ty da _ _ _ _ _ _ _ _ hcut hres hp1 hp2 rfl h1 rfl h2
    · rw [if_neg (by simp [h1])]
      exact resets_b w0 hG id ty da _ _ _ _ _ _ _ _ hcut hres hp1 hp2 rfl h1
end Go.Proofs.YtaejmginhkbbhaaGreatDoor
