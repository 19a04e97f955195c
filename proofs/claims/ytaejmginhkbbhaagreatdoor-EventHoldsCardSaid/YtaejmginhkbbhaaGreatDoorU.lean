/- The walks through package utf, first part: what a point's first bytes say (F329, F331, F330, F303). Conditions: as each contract says. -/
import Derived.Test.YtaejmginhkbbhaaGreatDoorJ
import Derived.Test.YtaejmginhkbbhaaGreatDoorPu
import Derived.Deep.QuietTactic
import Derived.BigQuiet
import Derived.Lib.Hide
set_option linter.unusedSimpArgs false
set_option linter.unusedVariables false
set_option maxRecDepth 100000
set_option maxHeartbeats 1000000
namespace Go.Proofs.YtaejmginhkbbhaaGreatDoor
open Go Go.RowKit

def ldV (i : Nat) : List Value := [.int .u8 (ld i).1, .int .u8 (ld i).2.1, .int .i64 (ld i).2.2.1, .int .u8 (ld i).2.2.2.1, .int .u8 (ld i).2.2.2.2]
def ldCs : List Value := ldV 0 ++ ldV 1 ++ ldV 2 ++ ldV 3 ++ ldV 4 ++ ldV 5 ++ ldV 6 ++ ldV 7 ++ ldV 8

theorem leads_c (w0 : World) : Calls Tryz.prog 329 #[] w0 fun e w' => e = .returned (.agg ⟨ldCs⟩) ∧ Fr [] w0 w' := by
  go_enter Tryz.func329, Tryz.ntmps329
  have hS := St.start [] w0
  go_wp2_with (first | ((with_reducible apply l_want); rfl) | ((with_reducible apply l_alloc); assumption; rfl; clear hS; intro b w hS) | ((with_reducible apply l_box); assumption; rfl; clear hS; intro b w hS) | ((with_reducible apply l_load); assumption; rfl; (repeat (first | exact Has.head | apply Has.tail)); (first | rfl | (simp [takeV]; done))) | ((with_reducible apply l_build); rfl; (simp [fillL, splice, Value.cells, Act.eval]; rfl)) | ((with_reducible apply l_buildA); rfl; (simp [fillL, splice, Value.cells, Act.eval]; rfl)) | ((with_reducible apply l_bslice); assumption; rfl; rfl; (simp [fillL, splice, zeros, Value.cells, Act.eval]; rfl); clear hS; intro b w hS) | ((with_reducible apply l_storeF); assumption; rfl; rfl; (repeat (first | exact Upd.head | apply Upd.tail)); rfl; clear hS; intro w hS) | ((with_reducible apply l_store); assumption; rfl; rfl; (repeat (first | exact Upd.head | apply Upd.tail)); rfl; clear hS; intro w hS; simp only [splice] at hS; try rw [splice_nil] at hS))
  refine bodyPost_ret (results_c1 (k := 45) (agg := true) rfl hS rfl (by repeat (first | exact Has.head | apply Has.tail)) rfl) rfl ⟨rfl, hS.fr⟩

theorem ldCs_drop (i : Nat) (h : i < 9) : ∃ r, ldCs.drop (i * 5) = ldV i ++ r := by
  have : ∀ j : Fin 9, ldCs.drop (j.val * 5) = ldV j ++ (ldCs.drop (j.val * 5 + 5)) := by
    intro j
    match j with
    | 0 | 1 | 2 | 3 | 4 | 5 | 6 | 7 | 8 => rfl
  exact ⟨_, this ⟨i, h⟩⟩
theorem ldCs_take (i : Nat) (h : i < 9) : takeV true 5 (ldCs.drop (i * 5)) = some (.agg ⟨[.int .u8 (ld i).1, .int .u8 (ld i).2.1, .int .i64 (ld i).2.2.1, .int .u8 (ld i).2.2.2.1, .int .u8 (ld i).2.2.2.2]⟩) := by
  obtain ⟨r, hr⟩ := ldCs_drop i h
  rw [hr]
  rfl

/-- Is a byte in a lead? (The closure.) -/
theorem first1_c (w0 : World) (a : Nat) (A o n c : Nat) (x i : Nat) (ha : Rd w0 a 0 [.slice (some ⟨A, o, none⟩) n c]) (hn : 0 < n) (hA : Rd w0 A o [.int .u8 (x : Int)]) :
    Calls Tryz.prog 331 #[.agg ⟨ldV i⟩, .pointer (some ⟨a, 0, none⟩)] w0 fun e w' => e = .returned (.bool (inLead x (ld i))) ∧ Fr [] w0 w' := by
  have ha1 : w0.cell? ⟨a, 0, none⟩ = some (.slice (some ⟨A, o, none⟩) n c) := ha 0 _ rfl
  have hA1 : w0.cell? ⟨A, o, none⟩ = some (.int .u8 (x : Int)) := hA 0 _ rfl
  have ha2 := World.block_lt_of_cell? w0 _ ha1
  have hA2 := World.block_lt_of_cell? w0 _ hA1
  simp only at ha2 hA2
  clear ha hA
  unfold ldV inLead
  generalize ld i = L
  obtain ⟨l, m, many, lo, hi⟩ := L
  simp only
  by_cases h1 : l ≤ x
  · have h1' : decide ((l : Int) ≤ (x : Int)) = true := by simpa using h1
    go_enter Tryz.func331, Tryz.ntmps331
    go_wp2_with fail
    go_quiet (fail)
    go_wp2
    go_ret
    refine ⟨?_, Fr.of_below (Below.trans (b := w0.alloc _) ((Below.refl _ w0).alloc (Nat.le_refl _) _) ⟨rfl, rfl, rfl, by simp, fun _ _ => rfl⟩)⟩
    simp [h1]
  · have h1' : decide ((l : Int) ≤ (x : Int)) = false := by simpa using h1
    go_enter Tryz.func331, Tryz.ntmps331
    go_wp2_with fail
    go_quiet (fail)
    go_wp2
    go_ret
    refine ⟨?_, Fr.of_below (Below.trans (b := w0.alloc _) ((Below.refl _ w0).alloc (Nat.le_refl _) _) ⟨rfl, rfl, rfl, by simp, fun _ _ => rfl⟩)⟩
    simp [h1]

def idxV (o : Option Nat) : Int := match o with | some i => (i : Int) | none => -1

/-- Which lead a byte is in. -/
theorem idx_c (b : Nat) (a A o n c x : Nat) (w0 : World) (hb : Rd w0 b 0 ldCs) (ha : Rd w0 a 0 [.slice (some ⟨A, o, none⟩) n c]) (hn : 0 < n) (hA : Rd w0 A o [.int .u8 (x : Int)]) :
    Calls Tryz.prog 330 #[.slice (some ⟨b, 0, none⟩) 9 9, .func (.func 331) #[] #[.pointer (some ⟨a, 0, none⟩)]] w0 fun e w' => e = .returned (.int .i64 (idxV (leadIdx x))) ∧ Fr [] w0 w' := by
  go_enter Tryz.func330, Tryz.ntmps330
  go_wp2
  go_loopw [4, 8] (fun r i wr => ∃ k : Nat, k ≤ 9 ∧ i = .int .i64 k ∧ r = .int .i64 0 ∧ Fr [] w0 wr ∧ leadFrom x (9 - k) k = leadIdx x) (fun _ i _ => 9 - (intOf i).toNat)
  case atStart => exact ⟨0, by omega, rfl, rfl, Fr.refl _ _, rfl⟩
  case round =>
    obtain ⟨k, hk, rfl, rfl, hB, hI⟩ := hrel
    have HI := Lib.hid hI
    clear hI
    by_cases hlt : k < 9
    · have hr : Rd wr b (k * 5) (ldCs.drop (k * 5)) := by have := (hb.fr hB (by simp)).drop (k * 5); rwa [Nat.zero_add] at this
      have hstep : leadFrom x (9 - k) k = if inLead x (ld k) = true then some k else leadFrom x (9 - (k + 1)) (k + 1) := by
        rw [show 9 - k = (9 - (k + 1)) + 1 from by omega]; rfl
      have Hs := Lib.hid hstep
      clear hstep
      go_wp2_with (first | ((with_reducible apply l_read); rfl; exact hr; exact ldCs_take k hlt))
      refine (first1_c _ a A o n c x k (ha.fr hB (by simp)) hn (hA.fr hB (by simp))).mono ?_
      rintro e w1 ⟨rfl, hf1⟩
      cases hin : inLead x (ld k) with
      | true =>
        have Hin := Lib.hid hin
        clear hin
        go_wp2
        go_ret
        refine ⟨?_, hB.trans hf1⟩
        rw [← HI.out, Hs.out, if_pos Hin.out]; rfl
      | false =>
        have Hin := Lib.hid hin
        clear hin
        go_wp2
        go_roundw
        case rel => exact ⟨k + 1, by omega, by go_num, rfl, hB.trans hf1, by rw [← HI.out, Hs.out, if_neg (by rw [Hin.out]; simp)]⟩
        case measure => simp [intOf]; omega
    · have hk9 : k = 9 := by omega
      subst hk9
      go_wp2
      go_ret
      refine ⟨?_, hB⟩
      rw [← HI.out]; rfl
end Go.Proofs.YtaejmginhkbbhaaGreatDoor
