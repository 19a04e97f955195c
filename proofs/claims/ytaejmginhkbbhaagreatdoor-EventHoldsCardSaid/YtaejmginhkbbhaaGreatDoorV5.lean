/- The walks through package event, fifth part: what was given up with, caught (F119); Check (F45). Conditions: as each contract says. -/
import Derived.Test.YtaejmginhkbbhaaGreatDoorV4
import Derived.Recover
set_option linter.unusedSimpArgs false
set_option linter.unusedVariables false
set_option maxRecDepth 100000
set_option maxHeartbeats 1000000
namespace Go.Proofs.YtaejmginhkbbhaaGreatDoor
open Go Go.RowKit
theorem caught_r (w0 : World) (p : Value) (clear : Value) : CallsD Tryz.prog 119 #[p, clear] .returning w0 fun e u' w' => e = .returned (.tuple #[]) ∧ u' = .returning ∧ w' = w0 := by
  refine callsD_of_wpS Tryz.func119 rfl fun c₀ cs hu => ?_
  apply wpS_seq
  apply wpS_region
  simp [wpOpsS, go_sem, recoverD, hu, Tryz.ntmps119, Exit.thenS]
  cases c₀
  refine wpS_of_wp ?_
  simp only [List.size_toArray, List.length_cons, List.length_nil, Nat.reduceAdd, Nat.reduceSub, Array.replicate_succ, Array.replicate_zero, List.push_toArray, List.append_toArray, List.nil_append, List.cons_append, List.setIfInBounds_toArray, List.set_cons_succ, List.set_cons_zero]
  go_wp2
  simp_all [bodyPostS, results, Tryz.results119]
theorem run_errno (v : Value) (w : World) : (Instr.typeAssert (.iface 29 v) 20 29 true).run Tryz.prog w = .ok (.tuple #[v, .bool true]) w := by
  have h : Tryz.prog.underlying 29 = some (.int .i64) := by kernel_rfl
  simp [Instr.typeAssert, run_underlying h]
theorem caught_p (S : List Nat) (w0 w : World) (L L2 L3 : List Chunk) (bn k : Nat) (lb : Array Value) (n : Int) (x : Value) (hS : St S w0 w L) (ecf : ∀ args w, (callFunc k args).run Tryz.prog w = .ok (.enter k args) w)
    (hcl : ∀ W, St S w0 W L → Calls Tryz.prog k lb W fun e W' => (∃ v, e = .returned v) ∧ St S w0 W' L2) (hu : Upd L2 (row bn 29 [x]) (row bn 29 [.int .i64 n]) L3) :
    CallsD Tryz.prog 119 #[.pointer (some ⟨bn, 0, none⟩), .func (.func k) #[] lb] (.panicking (gives n)) w fun e u' w' => e = .returned (.tuple #[]) ∧ u' = .panicking [{ v := .iface 29 (.int .i64 n), recovered := true }] ∧ St S w0 w' L3 := by
  have Hcl := Lib.hid hcl
  clear hcl
  refine callsD_of_wpS Tryz.func119 rfl fun c₀ cs hmd => ?_
  apply wpS_seq
  apply wpS_region
  simp [wpOpsS, go_sem, recoverD, hmd, Tryz.ntmps119, Exit.thenS]
  cases c₀
  refine wpS_of_wp ?_
  simp only [List.size_toArray, List.length_cons, List.length_nil, Nat.reduceAdd, Nat.reduceSub, Array.replicate_succ, Array.replicate_zero, List.push_toArray, List.append_toArray, List.nil_append, List.cons_append, List.setIfInBounds_toArray, List.set_cons_succ, List.set_cons_zero]
  have Hmd := Lib.hid hmd
  clear hmd
  have hta := run_errno (.int .i64 n)
  go_wp2_with (first | ((with_reducible apply l_want); rfl) | ((with_reducible apply l_alloc); assumption; rfl; clear hS; intro b w hS) | ((with_reducible apply l_box); assumption; rfl; clear hS; intro b w hS) | ((with_reducible apply l_load); assumption; rfl; (repeat (first | exact Has.head | apply Has.tail)); (first | rfl | (simp [takeV]; done))) | ((with_reducible apply l_build); rfl; (simp [fillL, splice, Value.cells, Act.eval]; rfl)) | ((with_reducible apply l_buildA); rfl; (simp [fillL, splice, Value.cells, Act.eval]; rfl)) | ((with_reducible apply l_bslice); assumption; rfl; rfl; (first | (simp [fillL, splice, zeros, Value.cells, Act.eval]; rfl) | rfl); clear hS; intro b w hS) | ((with_reducible apply l_storeF); assumption; rfl; rfl; (repeat (first | exact Upd.head | apply Upd.tail)); rfl; clear hS; intro w hS) | ((with_reducible apply l_store); assumption; rfl; rfl; (repeat (first | exact Upd.head | apply Upd.tail)); rfl; clear hS; intro w hS; simp only [splice] at hS; try rw [splice_nil] at hS))
  refine (Hcl.out _ hS).mono ?_
  rintro e w2 ⟨⟨v, rfl⟩, hS2⟩
  clear hS
  have hS := hS2
  clear hS2
  go_wp2_with (first | ((with_reducible apply l_want); rfl) | ((with_reducible apply l_store); assumption; rfl; rfl; exact hu; rfl; clear hS; intro w hS) | ((with_reducible apply l_alloc); assumption; rfl; clear hS; intro b w hS) | ((with_reducible apply l_box); assumption; rfl; clear hS; intro b w hS) | ((with_reducible apply l_load); assumption; rfl; (repeat (first | exact Has.head | apply Has.tail)); (first | rfl | (simp [takeV]; done))) | ((with_reducible apply l_build); rfl; (simp [fillL, splice, Value.cells, Act.eval]; rfl)) | ((with_reducible apply l_buildA); rfl; (simp [fillL, splice, Value.cells, Act.eval]; rfl)) | ((with_reducible apply l_bslice); assumption; rfl; rfl; (first | (simp [fillL, splice, zeros, Value.cells, Act.eval]; rfl) | rfl); clear hS; intro b w hS) | ((with_reducible apply l_storeF); assumption; rfl; rfl; (repeat (first | exact Upd.head | apply Upd.tail)); rfl; clear hS; intro w hS) | ((with_reducible apply l_store); assumption; rfl; rfl; (repeat (first | exact Upd.head | apply Upd.tail)); rfl; clear hS; intro w hS; simp only [splice] at hS; try rw [splice_nil] at hS))
  simp_all [bodyPostS, results, Tryz.results119, Act.put]
/-- Nothing is cleared. -/
theorem clear0_c (w0 : World) : Calls Tryz.prog 133 #[] w0 fun e w' => (∃ v, e = .returned v) ∧ w' = w0 := by
  go_enter Tryz.func133, Tryz.ntmps133
  go_wp2
  go_end0
  exact ⟨⟨_, rfl⟩, rfl⟩
/-- The number of an error: none, or ErrArg. -/
def okNo (b : Bool) : Int := if b = true then 0 else 2
def rightP (e : Ev) : Bool := checkP e
theorem check_c (w0 : World) (hG : Glob w0) (e : Ev) (hid : e.id.length ≤ 1099511627776) (hty : e.ty.length ≤ 1099511627776) (hda : e.da.length ≤ 1099511627776) :
    Calls Tryz.prog 45 #[e.v] w0 fun en w' => en = .returned (.int .i64 (okNo (rightP e))) ∧ Fr [] w0 w' := by
  obtain ⟨R, hR⟩ : ∃ R, R = rightP e := ⟨_, rfl⟩
  rw [← hR]
  have hch : ∀ W, Glob W → Calls Tryz.prog 134 #[e.v] W fun en w' => Fine R en ∧ Fr [] W w' := by
    intro W hW
    by_cases hb : e.id.length + e.ty.length + e.da.length ≤ 65536
    · rw [hR]; exact checked_c W hW e hb
    · refine (checked_big W e hid hty hda (by omega)).mono ?_
      rintro en w' ⟨rfl, hf⟩
      refine ⟨Fine.n ?_, hf⟩
      rw [hR]
      unfold rightP checkP
      rw [decide_eq_false hb]
      rfl
  have Hch := Lib.hid hch
  clear hch hR
  change Calls Tryz.prog 45 #[.agg ⟨[txt e.id, txt e.ty, txt e.da]⟩] w0 _
  go_enter_defers Tryz.func45, Tryz.ntmps45
  have hS := St.start [] w0
  go_wp2_with (first | ((with_reducible apply l_want); rfl) | ((with_reducible apply l_alloc); assumption; rfl; clear hS; intro bn w hS) | ((with_reducible apply l_alloc); assumption; rfl; clear hS; intro b w hS) | ((with_reducible apply l_box); assumption; rfl; clear hS; intro b w hS) | ((with_reducible apply l_load); assumption; rfl; (repeat (first | exact Has.head | apply Has.tail)); (first | rfl | (simp [takeV]; done))) | ((with_reducible apply l_build); rfl; (simp [fillL, splice, Value.cells, Act.eval]; rfl)) | ((with_reducible apply l_buildA); rfl; (simp [fillL, splice, Value.cells, Act.eval]; rfl)) | ((with_reducible apply l_bslice); assumption; rfl; rfl; (first | (simp [fillL, splice, zeros, Value.cells, Act.eval]; rfl) | rfl); clear hS; intro b w hS) | ((with_reducible apply l_storeF); assumption; rfl; rfl; (repeat (first | exact Upd.head | apply Upd.tail)); rfl; clear hS; intro w hS) | ((with_reducible apply l_store); assumption; rfl; rfl; (repeat (first | exact Upd.head | apply Upd.tail)); rfl; clear hS; intro w hS; simp only [splice] at hS; try rw [splice_nil] at hS))
  refine (Hch.out w (hG.keep hS.fr)).mono ?_
  rintro en w1 ⟨hF, hf1⟩
  replace hS := hS.keep hf1
  cases R with
  | true =>
    obtain ⟨v, rfl⟩ := hF
    go_wp2_with (first | ((with_reducible apply l_want); rfl) | ((with_reducible apply l_alloc); assumption; rfl; clear hS; intro b w hS) | ((with_reducible apply l_box); assumption; rfl; clear hS; intro b w hS) | ((with_reducible apply l_load); assumption; rfl; (repeat (first | exact Has.head | apply Has.tail)); (first | rfl | (simp [takeV]; done))) | ((with_reducible apply l_build); rfl; (simp [fillL, splice, Value.cells, Act.eval]; rfl)) | ((with_reducible apply l_buildA); rfl; (simp [fillL, splice, Value.cells, Act.eval]; rfl)) | ((with_reducible apply l_bslice); assumption; rfl; rfl; (first | (simp [fillL, splice, zeros, Value.cells, Act.eval]; rfl) | rfl); clear hS; intro b w hS) | ((with_reducible apply l_storeF); assumption; rfl; rfl; (repeat (first | exact Upd.head | apply Upd.tail)); rfl; clear hS; intro w hS) | ((with_reducible apply l_store); assumption; rfl; rfl; (repeat (first | exact Upd.head | apply Upd.tail)); rfl; clear hS; intro w hS; simp only [splice] at hS; try rw [splice_nil] at hS))
    refine leaves_cons (f := 119) (args := #[.pointer (some ⟨bn, 0, none⟩), .func (.func 133) #[] #[]]) (by simp) (by simp [go_sem]) ?_
    refine (caught_r _ _ _).mono ?_
    rintro e2 u' w'' ⟨rfl, rfl, rfl⟩
    exact ⟨_, results_c1 (k := 1) (agg := false) rfl hS rfl (by repeat (first | exact Has.head | apply Has.tail)) rfl, rfl, hS.fr⟩
  | false =>
    obtain rfl := hF
    go_wp2
    refine leaves_cons (f := 119) (args := #[.pointer (some ⟨bn, 0, none⟩), .func (.func 133) #[] #[]]) (by simp) (by simp [go_sem]) ?_
    refine (caught_p [] w0 w1 _ _ _ bn 133 #[] 2 _ hS (enters_of Tryz.func133 (by kernel_rfl) rfl) (fun W hW => (clear0_c W).mono (fun e w' h => ⟨h.1, by rw [h.2]; exact hW⟩)) (by exact Upd.head)).mono ?_
    rintro e2 u' w'' ⟨rfl, rfl, hS2⟩
    exact ⟨_, results_c1 (k := 1) (agg := false) rfl hS2 rfl (by repeat (first | exact Has.head | apply Has.tail)) rfl, rfl, hS2.fr⟩
end Go.Proofs.YtaejmginhkbbhaaGreatDoor
