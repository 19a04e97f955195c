/- The walks through package utf, fourth part: points' bytes, together (F256). Conditions: as each contract says. -/
import Derived.Test.YtaejmginhkbbhaaGreatDoorU3
import Derived.Deep.LoopGhost
set_option linter.unusedSimpArgs false
set_option linter.unusedVariables false
set_option maxRecDepth 100000
set_option maxHeartbeats 1000000
namespace Go.Proofs.YtaejmginhkbbhaaGreatDoor
open Go Go.RowKit
/-- Numbers as cells. -/
def iv (l : List Nat) : List Value := l.map fun p : Nat => .int .i64 (p : Int)
theorem iv_length (l : List Nat) : (iv l).length = l.length := by simp [iv]
theorem iv_one (l : List Nat) : ∀ u ∈ iv l, u.oneCell' = true := by
  intro u hu
  obtain ⟨c, _, rfl⟩ := List.mem_map.1 hu
  rfl
theorem iv_append (a b : List Nat) : iv (a ++ b) = iv a ++ iv b := by simp [iv]
theorem ptBytes_length (p : Nat) : (ptBytes p).length ≤ 4 := by
  unfold ptBytes
  repeat' split
  all_goals simp
theorem flat_length (ps : List Nat) : (ps.flatMap ptBytes).length ≤ 4 * ps.length := by
  induction ps with
  | nil => simp
  | cons p ps ih =>
    have := ptBytes_length p
    simp only [List.flatMap_cons, List.length_append, List.length_cons]
    omega
theorem ownNil (W : World) (e : TypeId) (size : Nat) : (own e size (.slice none 0 0) 0 []).ok W := ⟨by simp, .inl ⟨rfl, rfl⟩⟩

theorem joined_c (w0 : World) (v : Value) (ps : List Nat) (hp : ∀ p ∈ ps, validPt p) (hv : RdS w0 1 v ps.length (iv ps)) (hlen : ps.length ≤ 35184372088832) :
    Calls Tryz.prog 256 #[.func (.func 257) #[] #[], v] w0 fun e w' => e = .returned (txt (ps.flatMap ptBytes)) ∧ Fr [] w0 w' := by
  obtain ⟨-, A, c, rfl, hc, hr⟩ := hv
  have hr' : ∀ k, k < ps.length → ∃ (b o x : Nat), A = some ⟨b, o, none⟩ ∧ validPt x ∧ (ps.take (k + 1)).flatMap ptBytes = (ps.take k).flatMap ptBytes ++ ptBytes x ∧ ∀ W, Fr [] w0 W → Rd W b (o + k) [.int .i64 (x : Int)] := by
    intro k hk
    obtain ⟨b, o, h1, h2⟩ := hr (by intro e; simp [iv] at e; subst e; simp at hk)
    refine ⟨b, o, ps[k], h1, hp _ (List.getElem_mem hk), ?_, fun W hW => ?_⟩
    · rw [List.take_succ_eq_append_getElem hk, List.flatMap_append]
      simp
    · have h3 := (h2.drop k).take 1
      rw [show ((iv ps).drop k).take 1 = [.int .i64 ((ps[k] : Nat) : Int)] from by
        rw [List.drop_eq_getElem_cons (by simpa [iv] using hk)]
        simp [iv]] at h3
      exact h3.fr hW (by simp)
  have Hr := Lib.hid hr'
  clear hr hr' hp hc
  go_enter Tryz.func256, Tryz.ntmps256
  have hS := St.start [] w0
  replace hS := hS.add (c' := own 5 1 (.slice none 0 0) 0 []) (Fr.refl _ _) (ownNil _ _ _) (by simp [own, Value.ownBlock])
  go_wp2_with (first | ((with_reducible apply l_want); rfl) | ((with_reducible apply l_alloc); assumption; rfl; clear hS; intro b w hS) | ((with_reducible apply l_box); assumption; rfl; clear hS; intro b w hS) | ((with_reducible apply l_load); assumption; rfl; (repeat (first | exact Has.head | apply Has.tail)); (first | rfl | (simp [takeV]; done))) | ((with_reducible apply l_build); rfl; (simp [fillL, splice, Value.cells, Act.eval]; rfl)) | ((with_reducible apply l_buildA); rfl; (simp [fillL, splice, Value.cells, Act.eval]; rfl)) | ((with_reducible apply l_bslice); assumption; rfl; rfl; (simp [fillL, splice, zeros, Value.cells, Act.eval]; rfl); clear hS; intro b w hS) | ((with_reducible apply l_storeF); assumption; rfl; rfl; (repeat (first | exact Upd.head | apply Upd.tail)); rfl; clear hS; intro w hS) | ((with_reducible apply l_store); assumption; rfl; rfl; (repeat (first | exact Upd.head | apply Upd.tail)); rfl; clear hS; intro w hS; simp only [splice] at hS; try rw [splice_nil] at hS))
  go_loopg [5, 10] ps.length (fun g out i wr => ∃ k : Nat, k + g = ps.length ∧ i = .int .i64 k ∧ St [] w0 wr [own 5 1 out ((ps.take k).flatMap ptBytes).length (bv ((ps.take k).flatMap ptBytes))])
  case atStart => exact ⟨0, by omega, rfl, hS⟩
  case round =>
    obtain ⟨k, hk, rfl, hS⟩ := hrel
    by_cases hlt : k < ps.length
    · obtain ⟨b, o, x, rfl, hvp, hcat, hrd⟩ := Hr.out k hlt
      have hsm := flat_length (ps.take k)
      have hpl := ptBytes_length x
      have htk : (ps.take k).length ≤ k := by simp; omega
      have Hc := Lib.hid hcat
      have Hrd := Lib.hid hrd
      clear hcat hrd
      go_wp2_with (first | ((with_reducible apply l_want); rfl) | ((with_reducible apply l_read); rfl; exact Hrd.out _ hS.fr; rfl) | (go_at_call 257; go_must (refine (point_c _ _ hvp).mono ?_); rintro e w1 ⟨pv, rfl, hpv, hf1⟩; replace hS := hS.keep hf1) | ((with_reducible apply l_append); assumption; rfl; rfl; (intro v'; (repeat (first | exact Upd.head | apply Upd.tail))); rfl; assumption; exact bv_one _; omega; omega; clear hS; intro v' w hS hnil) | ((with_reducible apply l_alloc); assumption; rfl; clear hS; intro b w hS) | ((with_reducible apply l_box); assumption; rfl; clear hS; intro b w hS) | ((with_reducible apply l_load); assumption; rfl; (repeat (first | exact Has.head | apply Has.tail)); (first | rfl | (simp [takeV]; done))) | ((with_reducible apply l_build); rfl; (simp [fillL, splice, Value.cells, Act.eval]; rfl)) | ((with_reducible apply l_buildA); rfl; (simp [fillL, splice, Value.cells, Act.eval]; rfl)) | ((with_reducible apply l_bslice); assumption; rfl; rfl; (simp [fillL, splice, zeros, Value.cells, Act.eval]; rfl); clear hS; intro b w hS) | ((with_reducible apply l_storeF); assumption; rfl; rfl; (repeat (first | exact Upd.head | apply Upd.tail)); rfl; clear hS; intro w hS) | ((with_reducible apply l_store); assumption; rfl; rfl; (repeat (first | exact Upd.head | apply Upd.tail)); rfl; clear hS; intro w hS; simp only [splice] at hS; try rw [splice_nil] at hS))
      go_roundg (gk - 1)
      case measure => omega
      case rel =>
        refine ⟨k + 1, by omega, by go_num, ?_⟩
        rw [Hc.out, List.length_append, bv_append]
        exact hS
    · have hke : k = ps.length := by omega
      have hn : ¬ ((k : Int) < (ps.length : Int)) := by omega
      have hall : (ps.take k) = ps := by rw [hke, List.take_length]
      rw [hall] at hS
      clear hall hke
      have hrd := RdS.of_own (hS.get (by repeat (first | exact Has.head | apply Has.tail)))
      have hconv := run_b2s (P := Tryz.prog) (s := 52) (d := 9) hrd
      go_wp2_with (first | ((with_reducible apply l_want); rfl) | ((with_reducible apply l_alloc); assumption; rfl; clear hS; intro b w hS) | ((with_reducible apply l_box); assumption; rfl; clear hS; intro b w hS) | ((with_reducible apply l_load); assumption; rfl; (repeat (first | exact Has.head | apply Has.tail)); (first | rfl | (simp [takeV]; done))) | ((with_reducible apply l_build); rfl; (simp [fillL, splice, Value.cells, Act.eval]; rfl)) | ((with_reducible apply l_buildA); rfl; (simp [fillL, splice, Value.cells, Act.eval]; rfl)) | ((with_reducible apply l_bslice); assumption; rfl; rfl; (simp [fillL, splice, zeros, Value.cells, Act.eval]; rfl); clear hS; intro b w hS) | ((with_reducible apply l_storeF); assumption; rfl; rfl; (repeat (first | exact Upd.head | apply Upd.tail)); rfl; clear hS; intro w hS) | ((with_reducible apply l_store); assumption; rfl; rfl; (repeat (first | exact Upd.head | apply Upd.tail)); rfl; clear hS; intro w hS; simp only [splice] at hS; try rw [splice_nil] at hS))
      go_ret
      exact ⟨rfl, hS.fr⟩
end Go.Proofs.YtaejmginhkbbhaaGreatDoor
