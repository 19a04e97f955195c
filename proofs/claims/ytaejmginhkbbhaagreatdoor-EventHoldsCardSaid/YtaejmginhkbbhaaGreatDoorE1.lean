/- The walk through law 07's EventEncodes (F36, F6). Conditions: as each contract says. -/
import Derived.Test.YtaejmginhkbbhaaGreatDoorS4
import Derived.Test.YtaejmginhkbbhaaGreatDoorX5
set_option linter.unusedSimpArgs false
set_option linter.unusedVariables false
set_option maxRecDepth 100000
set_option maxHeartbeats 1000000
namespace Go.Proofs.YtaejmginhkbbhaaGreatDoor
open Go Go.RowKit
attribute [local irreducible] Calls
def fewP (e : Ev) : Bool := decide (e.id.length ≤ 300) && decide (e.ty.length ≤ 300) && decide (e.da.length ≤ 300)
theorem few_0 (w0 : World) (id ty da : List UInt8) (a b c : Bool) (ha : decide ((id.length : Int) ≤ 300) = a) (hb : decide ((ty.length : Int) ≤ 300) = b) (hc : decide ((da.length : Int) ≤ 300) = c) :
    Calls Tryz.prog 36 #[.agg ⟨[txt id, txt ty, txt da]⟩] w0 fun en w' => en = .returned (.bool (a && b && c)) ∧ Fr [] w0 w' := by
  cases a with
  | false =>
    go_enter Tryz.func36, Tryz.ntmps36
    have hS := St.start [] w0
    go_wp2_with (first | ((with_reducible apply l_want); rfl) | ((with_reducible apply l_alloc); assumption; rfl; clear hS; intro b w hS) | ((with_reducible apply l_box); assumption; rfl; clear hS; intro b w hS) | ((with_reducible apply l_load); assumption; rfl; (repeat (first | exact Has.head | apply Has.tail)); (first | rfl | (simp [takeV]; done))) | ((with_reducible apply l_build); rfl; (simp [fillL, splice, Value.cells, Act.eval]; rfl)) | ((with_reducible apply l_buildA); rfl; (simp [fillL, splice, Value.cells, Act.eval]; rfl)) | ((with_reducible apply l_bslice); assumption; rfl; rfl; (first | (simp [fillL, splice, zeros, Value.cells, Act.eval]; rfl) | rfl); clear hS; intro b w hS) | ((with_reducible apply l_storeF); assumption; rfl; rfl; (repeat (first | exact Upd.head | apply Upd.tail)); rfl; clear hS; intro w hS) | ((with_reducible apply l_store); assumption; rfl; rfl; (repeat (first | exact Upd.head | apply Upd.tail)); rfl; clear hS; intro w hS; simp only [splice] at hS; try rw [splice_nil] at hS))
    go_ret
    exact ⟨rfl, hS.fr⟩
  | true =>
    cases b with
    | false =>
      go_enter Tryz.func36, Tryz.ntmps36
      have hS := St.start [] w0
      go_wp2_with (first | ((with_reducible apply l_want); rfl) | ((with_reducible apply l_alloc); assumption; rfl; clear hS; intro b w hS) | ((with_reducible apply l_box); assumption; rfl; clear hS; intro b w hS) | ((with_reducible apply l_load); assumption; rfl; (repeat (first | exact Has.head | apply Has.tail)); (first | rfl | (simp [takeV]; done))) | ((with_reducible apply l_build); rfl; (simp [fillL, splice, Value.cells, Act.eval]; rfl)) | ((with_reducible apply l_buildA); rfl; (simp [fillL, splice, Value.cells, Act.eval]; rfl)) | ((with_reducible apply l_bslice); assumption; rfl; rfl; (first | (simp [fillL, splice, zeros, Value.cells, Act.eval]; rfl) | rfl); clear hS; intro b w hS) | ((with_reducible apply l_storeF); assumption; rfl; rfl; (repeat (first | exact Upd.head | apply Upd.tail)); rfl; clear hS; intro w hS) | ((with_reducible apply l_store); assumption; rfl; rfl; (repeat (first | exact Upd.head | apply Upd.tail)); rfl; clear hS; intro w hS; simp only [splice] at hS; try rw [splice_nil] at hS))
      go_ret
      exact ⟨rfl, hS.fr⟩
    | true =>
      cases c with
      | false =>
        go_enter Tryz.func36, Tryz.ntmps36
        have hS := St.start [] w0
        go_wp2_with (first | ((with_reducible apply l_want); rfl) | ((with_reducible apply l_alloc); assumption; rfl; clear hS; intro b w hS) | ((with_reducible apply l_box); assumption; rfl; clear hS; intro b w hS) | ((with_reducible apply l_load); assumption; rfl; (repeat (first | exact Has.head | apply Has.tail)); (first | rfl | (simp [takeV]; done))) | ((with_reducible apply l_build); rfl; (simp [fillL, splice, Value.cells, Act.eval]; rfl)) | ((with_reducible apply l_buildA); rfl; (simp [fillL, splice, Value.cells, Act.eval]; rfl)) | ((with_reducible apply l_bslice); assumption; rfl; rfl; (first | (simp [fillL, splice, zeros, Value.cells, Act.eval]; rfl) | rfl); clear hS; intro b w hS) | ((with_reducible apply l_storeF); assumption; rfl; rfl; (repeat (first | exact Upd.head | apply Upd.tail)); rfl; clear hS; intro w hS) | ((with_reducible apply l_store); assumption; rfl; rfl; (repeat (first | exact Upd.head | apply Upd.tail)); rfl; clear hS; intro w hS; simp only [splice] at hS; try rw [splice_nil] at hS))
        go_ret
        exact ⟨rfl, hS.fr⟩
      | true =>
        go_enter Tryz.func36, Tryz.ntmps36
        have hS := St.start [] w0
        go_wp2_with (first | ((with_reducible apply l_want); rfl) | ((with_reducible apply l_alloc); assumption; rfl; clear hS; intro b w hS) | ((with_reducible apply l_box); assumption; rfl; clear hS; intro b w hS) | ((with_reducible apply l_load); assumption; rfl; (repeat (first | exact Has.head | apply Has.tail)); (first | rfl | (simp [takeV]; done))) | ((with_reducible apply l_build); rfl; (simp [fillL, splice, Value.cells, Act.eval]; rfl)) | ((with_reducible apply l_buildA); rfl; (simp [fillL, splice, Value.cells, Act.eval]; rfl)) | ((with_reducible apply l_bslice); assumption; rfl; rfl; (first | (simp [fillL, splice, zeros, Value.cells, Act.eval]; rfl) | rfl); clear hS; intro b w hS) | ((with_reducible apply l_storeF); assumption; rfl; rfl; (repeat (first | exact Upd.head | apply Upd.tail)); rfl; clear hS; intro w hS) | ((with_reducible apply l_store); assumption; rfl; rfl; (repeat (first | exact Upd.head | apply Upd.tail)); rfl; clear hS; intro w hS; simp only [splice] at hS; try rw [splice_nil] at hS))
        go_ret
        exact ⟨rfl, hS.fr⟩
theorem few_c (w0 : World) (e : Ev) : Calls Tryz.prog 36 #[e.v] w0 fun en w' => en = .returned (.bool (fewP e)) ∧ Fr [] w0 w' := by
  have h := few_0 w0 e.id e.ty e.da _ _ _ rfl rfl rfl
  have e1 : ∀ n : Nat, decide ((n : Int) ≤ 300) = decide (n ≤ 300) := fun n => by
    by_cases hn : n ≤ 300
    · rw [decide_eq_true hn, decide_eq_true (by omega)]
    · rw [decide_eq_false hn, decide_eq_false (by omega)]
  rw [e1, e1, e1] at h
  exact h
theorem fewP_len {e : Ev} (h : fewP e = true) : e.id.length ≤ 300 ∧ e.ty.length ≤ 300 ∧ e.da.length ≤ 300 := by
  unfold fewP at h
  simp only [Bool.and_eq_true, decide_eq_true_eq] at h
  exact ⟨h.1.1, h.1.2, h.2⟩
theorem encodes_f (w0 : World) (hG : GlobT w0) (e : Ev) (hf : fewP e = false) : Calls Tryz.prog 6 #[e.v] w0 fun en w' => en = .returned (.bool true) ∧ Fr [] w0 w' := by
  have hfw := fun W => few_c W e
  rw [hf] at hfw
  have Hfw := Lib.hid hfw
  clear hfw hf
  change Calls Tryz.prog 6 #[.agg ⟨[txt e.id, txt e.ty, txt e.da]⟩] w0 _
  go_enter Tryz.func6, Tryz.ntmps6
  have hS := St.start [] w0
  go_wp2_with (first | ((with_reducible apply l_want); rfl) | (go_at_call 36; go_must (refine (Hfw.out _).mono ?_); rintro en w1 ⟨rfl, hf1⟩; replace hS := hS.keep hf1) | (go_at_call 37; go_must (refine (works_c _ (hG.keep hS.fr)).mono ?_); rintro en w1 ⟨rfl, hf1⟩; replace hS := hS.keep hf1) | ((with_reducible apply l_alloc); assumption; rfl; clear hS; intro b w hS) | ((with_reducible apply l_box); assumption; rfl; clear hS; intro b w hS) | ((with_reducible apply l_load); assumption; rfl; (repeat (first | exact Has.head | apply Has.tail)); (first | rfl | (simp [takeV]; done))) | ((with_reducible apply l_build); rfl; (simp [fillL, splice, Value.cells, Act.eval]; rfl)) | ((with_reducible apply l_buildA); rfl; (simp [fillL, splice, Value.cells, Act.eval]; rfl)) | ((with_reducible apply l_bslice); assumption; rfl; rfl; (first | (simp [fillL, splice, zeros, Value.cells, Act.eval]; rfl) | rfl); clear hS; intro b w hS) | ((with_reducible apply l_storeF); assumption; rfl; rfl; (repeat (first | exact Upd.head | apply Upd.tail)); rfl; clear hS; intro w hS) | ((with_reducible apply l_store); assumption; rfl; rfl; (repeat (first | exact Upd.head | apply Upd.tail)); rfl; clear hS; intro w hS; simp only [splice] at hS; try rw [splice_nil] at hS))
  go_ret
  exact ⟨rfl, hS.fr⟩
theorem encodes_yt (w0 : World) (hG : GlobT w0) (e : Ev) (hf : fewP e = true) (hq : rightQ e = true) (hr : (e.ty == [115, 116, 114, 101, 97, 109, 45, 114, 101, 115, 101, 116]) = true) : Calls Tryz.prog 6 #[e.v] w0 fun en w' => en = .returned (.bool true) ∧ Fr [] w0 w' := by
  have hsm : e.id.length + e.ty.length + e.da.length ≤ 65536 := by have := fewP_len hf; omega
  have hfw := fun W => few_c W e
  rw [hf] at hfw
  have hri := fun W => right_c W e hsm
  rw [hq] at hri
  have hch : checkP e = true := by rw [checkP_eq, hq]
  have hck := fun W (hW : GlobT W) => check_c W hW.base e (by omega) (by omega) (by omega)
  have hok : okNo (rightP e) = 0 := by unfold rightP; rw [hch]; rfl
  rw [hok] at hck
  have hre := fun W => reserved_c W e
  rw [show (e.ty == resetT) = true from hr] at hre
  have hen := fun W (hW : GlobT W) => encode_t W hW.base e hch
  have hsz := fun W (hW : GlobT W) => size_y W hW.base e hsm hch (by have := (linesP_len e hsm).1; omega) (encP_len e hsm)
  have hby := fun W => rbytes_c W e hq
  obtain ⟨X, hX⟩ : ∃ X, X = encP e := ⟨_, rfl⟩
  rw [← hX] at hen hsz hby
  have Hby := Lib.hid hby
  clear hby hX
  have Hfw := Lib.hid hfw
  have Hri := Lib.hid hri
  have Hck := Lib.hid hck
  have Hre := Lib.hid hre
  have Hen := Lib.hid hen
  have Hsz := Lib.hid hsz
  clear hfw hri hck hre hen hsz hch hok hq hf
  change Calls Tryz.prog 6 #[.agg ⟨[txt e.id, txt e.ty, txt e.da]⟩] w0 _
  go_enter Tryz.func6, Tryz.ntmps6
  have hS := St.start [] w0
  go_wp2_with (first | ((with_reducible apply l_want); rfl) | (go_at_call 36; go_must (refine (Hfw.out _).mono ?_); rintro en w1 ⟨rfl, hf1⟩; replace hS := hS.keep hf1) | (go_at_call 47; go_must (refine (Hen.out _ (hG.keep hS.fr)).mono ?_); rintro en w1 ⟨v, rfl, hT⟩; replace hS := hS.join hT; simp only [List.cons_append, List.nil_append] at hS; obtain ⟨A, cp, rfl, hcp⟩ := (hT.get (c := rdS 1 v X.length (bv X)) (by exact Has.head)).shape; clear hT) | (go_at_call 48; go_must (refine (Hsz.out _ (hG.keep hS.fr)).mono ?_); rintro en w1 ⟨rfl, hf1⟩; replace hS := hS.keep hf1) | (go_at_call 45; go_must (refine (Hck.out _ (hG.keep hS.fr)).mono ?_); rintro en w1 ⟨rfl, hf1⟩; replace hS := hS.keep hf1) | ((with_reducible apply l_alloc); assumption; rfl; clear hS; intro b w hS) | ((with_reducible apply l_box); assumption; rfl; clear hS; intro b w hS) | ((with_reducible apply l_load); assumption; rfl; (repeat (first | exact Has.head | apply Has.tail)); (first | rfl | (simp [takeV]; done))) | ((with_reducible apply l_build); rfl; (simp [fillL, splice, Value.cells, Act.eval]; rfl)) | ((with_reducible apply l_buildA); rfl; (simp [fillL, splice, Value.cells, Act.eval]; rfl)) | ((with_reducible apply l_bslice); assumption; rfl; rfl; (first | (simp [fillL, splice, zeros, Value.cells, Act.eval]; rfl) | rfl); clear hS; intro b w hS) | ((with_reducible apply l_storeF); assumption; rfl; rfl; (repeat (first | exact Upd.head | apply Upd.tail)); rfl; clear hS; intro w hS) | ((with_reducible apply l_store); assumption; rfl; rfl; (repeat (first | exact Upd.head | apply Upd.tail)); rfl; clear hS; intro w hS; simp only [splice] at hS; try rw [splice_nil] at hS))
  refine mix_start mixed (by kernel_rfl) _ (Stable.st _ _ _) hS.drew ?_
  replace hS := hS.drew
  apply mix_q 0 rfl (by kernel_rfl) rfl rfl
  · intro w hS; go_wp2_with (first | ((with_reducible apply l_want); rfl) | ((with_reducible apply l_load); assumption; rfl; (repeat (first | exact Has.head | apply Has.tail)); (first | rfl | (simp [takeV]; done)))); exact ⟨rfl, by first | exact Fr.refl _ _ | assumption⟩
  · rfl
  apply mix_q 1 rfl (by kernel_rfl) rfl rfl
  · intro w hS; go_wp2_with (first | ((with_reducible apply l_want); rfl) | (go_at_call 46; go_must (refine (Hre.out _).mono ?_); rintro en w1 ⟨rfl, hf1⟩)); exact ⟨rfl, by first | exact Fr.refl _ _ | assumption⟩
  · rfl
  apply mix_f 2 rfl (by kernel_rfl) rfl
  · intro w; go_wp2_with (first | ((with_reducible apply l_want); rfl)); exact ⟨rfl, Fr.refl _ _⟩
  · rfl
  apply mix_q 3 rfl (by kernel_rfl) rfl rfl
  · intro w hS; go_wp2_with (first | ((with_reducible apply l_want); rfl) | ((with_reducible apply l_load); assumption; rfl; (repeat (first | exact Has.head | apply Has.tail)); (first | rfl | (simp [takeV]; done)))); exact ⟨rfl, by first | exact Fr.refl _ _ | assumption⟩
  · rfl
  apply mix_q 4 rfl (by kernel_rfl) rfl rfl
  · intro w hS; go_wp2_with (first | ((with_reducible apply l_want); rfl)); exact ⟨rfl, by first | exact Fr.refl _ _ | assumption⟩
  · rfl
  apply mix_q 5 rfl (by kernel_rfl) rfl rfl
  · intro w hS; go_wp2_with (first | ((with_reducible apply l_want); rfl)); exact ⟨rfl, by first | exact Fr.refl _ _ | assumption⟩
  · rfl
  refine mixE (by kernel_rfl) ?_
  intro w hf _; replace hS := hS.keep hf; clear hf
  go_wp2_with (first | ((with_reducible apply l_want); rfl) | (go_at_call 27; go_must (refine (Hri.out _).mono ?_); rintro en w1 ⟨rfl, hf1⟩; replace hS := hS.keep hf1) | ((with_reducible apply l_alloc); assumption; rfl; clear hS; intro b w hS) | ((with_reducible apply l_box); assumption; rfl; clear hS; intro b w hS) | ((with_reducible apply l_load); assumption; rfl; (repeat (first | exact Has.head | apply Has.tail)); (first | rfl | (simp [takeV]; done))) | ((with_reducible apply l_build); rfl; (simp [fillL, splice, Value.cells, Act.eval]; rfl)) | ((with_reducible apply l_buildA); rfl; (simp [fillL, splice, Value.cells, Act.eval]; rfl)) | ((with_reducible apply l_bslice); assumption; rfl; rfl; (first | (simp [fillL, splice, zeros, Value.cells, Act.eval]; rfl) | rfl); clear hS; intro b w hS) | ((with_reducible apply l_storeF); assumption; rfl; rfl; (repeat (first | exact Upd.head | apply Upd.tail)); rfl; clear hS; intro w hS) | ((with_reducible apply l_store); assumption; rfl; rfl; (repeat (first | exact Upd.head | apply Upd.tail)); rfl; clear hS; intro w hS; simp only [splice] at hS; try rw [splice_nil] at hS))
  refine mix_start mixed (by kernel_rfl) _ (Stable.st _ _ _) hS.drew ?_
  replace hS := hS.drew
  apply mix_f 0 rfl (by kernel_rfl) rfl
  · intro w; go_wp2_with (first | ((with_reducible apply l_want); rfl)); exact ⟨rfl, Fr.refl _ _⟩
  · rfl
  apply mix_q 1 rfl (by kernel_rfl) rfl rfl
  · intro w hS; go_wp2_with (first | ((with_reducible apply l_want); rfl) | ((with_reducible apply l_b2s (l := X)); rfl; refine hS.get (c := rdS 1 _ X.length (bv X)) ?_; (first | exact Has.head | exact Has.head.tail | exact Has.head.tail.tail | exact Has.head.tail.tail.tail | exact Has.head.tail.tail.tail.tail | exact Has.head.tail.tail.tail.tail.tail | exact Has.head.tail.tail.tail.tail.tail.tail | exact Has.head.tail.tail.tail.tail.tail.tail.tail | exact Has.head.tail.tail.tail.tail.tail.tail.tail.tail | exact Has.head.tail.tail.tail.tail.tail.tail.tail.tail.tail | exact Has.head.tail.tail.tail.tail.tail.tail.tail.tail.tail.tail | exact Has.head.tail.tail.tail.tail.tail.tail.tail.tail.tail.tail.tail))); exact ⟨rfl, by first | exact Fr.refl _ _ | assumption⟩
  · rfl
  apply mix_q 2 rfl (by kernel_rfl) rfl rfl
  · intro w hS; go_wp2_with (first | ((with_reducible apply l_want); rfl) | ((with_reducible apply l_load); assumption; rfl; (repeat (first | exact Has.head | apply Has.tail)); (first | rfl | (simp [takeV]; done)))); exact ⟨rfl, by first | exact Fr.refl _ _ | assumption⟩
  · rfl
  apply mix_q 3 rfl (by kernel_rfl) rfl rfl
  · intro w hS; go_wp2_with (first | ((with_reducible apply l_want); rfl) | (go_at_call 34; go_must (refine (Hby.out _).mono ?_); rintro en w1 ⟨rfl, hf1⟩)); exact ⟨rfl, by first | exact Fr.refl _ _ | assumption⟩
  · rfl
  apply mix_q 4 rfl (by kernel_rfl) rfl rfl
  · intro w hS; go_wp2_with (first | ((with_reducible apply l_want); rfl)); exact ⟨rfl, by first | exact Fr.refl _ _ | assumption⟩
  · rfl
  apply mix_f 5 rfl (by kernel_rfl) rfl
  · intro w; go_wp2_with (first | ((with_reducible apply l_want); rfl)); exact ⟨rfl, Fr.refl _ _⟩
  · rfl
  apply mix_f 6 rfl (by kernel_rfl) rfl
  · intro w; go_wp2_with (first | ((with_reducible apply l_want); rfl)); exact ⟨rfl, Fr.refl _ _⟩
  · rfl
  apply mix_f 7 rfl (by kernel_rfl) rfl
  · intro w; go_wp2_with (first | ((with_reducible apply l_want); rfl)); exact ⟨rfl, Fr.refl _ _⟩
  · rfl
  apply mix_q 8 rfl (by kernel_rfl) rfl rfl
  · intro w hS; go_wp2_with (first | ((with_reducible apply l_want); rfl)); exact ⟨rfl, by first | exact Fr.refl _ _ | assumption⟩
  · rfl
  apply mix_q 9 rfl (by kernel_rfl) rfl rfl
  · intro w hS; go_wp2_with (first | ((with_reducible apply l_want); rfl)); exact ⟨rfl, by first | exact Fr.refl _ _ | assumption⟩
  · rfl
  apply mix_f 10 rfl (by kernel_rfl) rfl
  · intro w; go_wp2_with (first | ((with_reducible apply l_want); rfl)); exact ⟨rfl, Fr.refl _ _⟩
  · rfl
  apply mix_f 11 rfl (by kernel_rfl) rfl
  · intro w; go_wp2_with (first | ((with_reducible apply l_want); rfl)); exact ⟨rfl, Fr.refl _ _⟩
  · rfl
  apply mix_f 12 rfl (by kernel_rfl) rfl
  · intro w; go_wp2_with (first | ((with_reducible apply l_want); rfl)); exact ⟨rfl, Fr.refl _ _⟩
  · rfl
  apply mix_q 13 rfl (by kernel_rfl) rfl rfl
  · intro w hS; go_wp2_with (first | ((with_reducible apply l_want); rfl) | (go_at_call 43; go_must (refine (num_c _ _).mono ?_); rintro en w1 ⟨rfl, rfl⟩)); exact ⟨rfl, by first | exact Fr.refl _ _ | assumption⟩
  · rfl
  apply mix_f 14 rfl (by kernel_rfl) rfl
  · intro w; go_wp2_with (first | ((with_reducible apply l_want); rfl)); exact ⟨rfl, Fr.refl _ _⟩
  · rfl
  apply mix_q 15 rfl (by kernel_rfl) rfl rfl
  · intro w hS; go_wp2_with (first | ((with_reducible apply l_want); rfl) | (go_at_call 43; go_must (refine (num_c _ _).mono ?_); rintro en w1 ⟨rfl, rfl⟩)); exact ⟨rfl, by first | exact Fr.refl _ _ | assumption⟩
  · rfl
  apply mix_q 16 rfl (by kernel_rfl) rfl rfl
  · intro w hS; go_wp2_with (first | ((with_reducible apply l_want); rfl)); exact ⟨rfl, by first | exact Fr.refl _ _ | assumption⟩
  · rfl
  apply mix_f 17 rfl (by kernel_rfl) rfl
  · intro w; go_wp2_with (first | ((with_reducible apply l_want); rfl)); exact ⟨rfl, Fr.refl _ _⟩
  · rfl
  apply mix_q 18 rfl (by kernel_rfl) rfl rfl
  · intro w hS; go_wp2_with (first | ((with_reducible apply l_want); rfl) | (go_at_call 43; go_must (refine (num_c _ _).mono ?_); rintro en w1 ⟨rfl, rfl⟩)); exact ⟨rfl, by first | exact Fr.refl _ _ | assumption⟩
  · rfl
  apply mix_q 19 rfl (by kernel_rfl) rfl rfl
  · intro w hS; go_wp2_with (first | ((with_reducible apply l_want); rfl)); exact ⟨rfl, by first | exact Fr.refl _ _ | assumption⟩
  · rfl
  apply mix_q 20 rfl (by kernel_rfl) rfl rfl
  · intro w hS; go_wp2_with (first | ((with_reducible apply l_want); rfl)); exact ⟨rfl, by first | exact Fr.refl _ _ | assumption⟩
  · rfl
  apply mix_f 21 rfl (by kernel_rfl) rfl
  · intro w; go_wp2_with (first | ((with_reducible apply l_want); rfl)); exact ⟨rfl, Fr.refl _ _⟩
  · rfl
  apply mix_f 22 rfl (by kernel_rfl) rfl
  · intro w; go_wp2_with (first | ((with_reducible apply l_want); rfl)); exact ⟨rfl, Fr.refl _ _⟩
  · rfl
  apply mix_q 23 rfl (by kernel_rfl) rfl rfl
  · intro w hS; go_wp2_with (first | ((with_reducible apply l_want); rfl) | (go_at_call 37; go_must (refine (works_c _ (hG.keep hS.fr)).mono ?_); rintro en w1 ⟨rfl, hf1⟩)); exact ⟨rfl, by first | exact Fr.refl _ _ | assumption⟩
  · rfl
  apply mix_f 24 rfl (by kernel_rfl) rfl
  · intro w; go_wp2_with (first | ((with_reducible apply l_want); rfl)); exact ⟨rfl, Fr.refl _ _⟩
  · rfl
  apply mix_f 25 rfl (by kernel_rfl) rfl
  · intro w; go_wp2_with (first | ((with_reducible apply l_want); rfl)); exact ⟨rfl, Fr.refl _ _⟩
  · rfl
  refine mixE (by kernel_rfl) ?_
  intro w hf _; replace hS := hS.keep hf; clear hf
  go_wp2_with (first | ((with_reducible apply l_want); rfl) | ((with_reducible apply l_alloc); assumption; rfl; clear hS; intro b w hS) | ((with_reducible apply l_box); assumption; rfl; clear hS; intro b w hS) | ((with_reducible apply l_load); assumption; rfl; (repeat (first | exact Has.head | apply Has.tail)); (first | rfl | (simp [takeV]; done))) | ((with_reducible apply l_build); rfl; (simp [fillL, splice, Value.cells, Act.eval]; rfl)) | ((with_reducible apply l_buildA); rfl; (simp [fillL, splice, Value.cells, Act.eval]; rfl)) | ((with_reducible apply l_bslice); assumption; rfl; rfl; (first | (simp [fillL, splice, zeros, Value.cells, Act.eval]; rfl) | rfl); clear hS; intro b w hS) | ((with_reducible apply l_storeF); assumption; rfl; rfl; (repeat (first | exact Upd.head | apply Upd.tail)); rfl; clear hS; intro w hS) | ((with_reducible apply l_store); assumption; rfl; rfl; (repeat (first | exact Upd.head | apply Upd.tail)); rfl; clear hS; intro w hS; simp only [splice] at hS; try rw [splice_nil] at hS))
  go_ret
  exact ⟨rfl, hS.fr⟩
theorem encodes_yf (w0 : World) (hG : GlobT w0) (e : Ev) (hf : fewP e = true) (hq : rightQ e = true) (hr : (e.ty == [115, 116, 114, 101, 97, 109, 45, 114, 101, 115, 101, 116]) = false) : Calls Tryz.prog 6 #[e.v] w0 fun en w' => en = .returned (.bool true) ∧ Fr [] w0 w' := by
  have hsm : e.id.length + e.ty.length + e.da.length ≤ 65536 := by have := fewP_len hf; omega
  have hfw := fun W => few_c W e
  rw [hf] at hfw
  have hri := fun W => right_c W e hsm
  rw [hq] at hri
  have hch : checkP e = true := by rw [checkP_eq, hq]
  have hck := fun W (hW : GlobT W) => check_c W hW.base e (by omega) (by omega) (by omega)
  have hok : okNo (rightP e) = 0 := by unfold rightP; rw [hch]; rfl
  rw [hok] at hck
  have hre := fun W => reserved_c W e
  rw [show (e.ty == resetT) = false from hr] at hre
  have hen := fun W (hW : GlobT W) => encode_t W hW.base e hch
  have hsz := fun W (hW : GlobT W) => size_y W hW.base e hsm hch (by have := (linesP_len e hsm).1; omega) (encP_len e hsm)
  have hby := fun W => rbytes_c W e hq
  obtain ⟨X, hX⟩ : ∃ X, X = encP e := ⟨_, rfl⟩
  rw [← hX] at hen hsz hby
  have Hby := Lib.hid hby
  clear hby hX
  have Hfw := Lib.hid hfw
  have Hri := Lib.hid hri
  have Hck := Lib.hid hck
  have Hre := Lib.hid hre
  have Hen := Lib.hid hen
  have Hsz := Lib.hid hsz
  clear hfw hri hck hre hen hsz hch hok hq hf
  change Calls Tryz.prog 6 #[.agg ⟨[txt e.id, txt e.ty, txt e.da]⟩] w0 _
  go_enter Tryz.func6, Tryz.ntmps6
  have hS := St.start [] w0
  go_wp2_with (first | ((with_reducible apply l_want); rfl) | (go_at_call 36; go_must (refine (Hfw.out _).mono ?_); rintro en w1 ⟨rfl, hf1⟩; replace hS := hS.keep hf1) | (go_at_call 47; go_must (refine (Hen.out _ (hG.keep hS.fr)).mono ?_); rintro en w1 ⟨v, rfl, hT⟩; replace hS := hS.join hT; simp only [List.cons_append, List.nil_append] at hS; obtain ⟨A, cp, rfl, hcp⟩ := (hT.get (c := rdS 1 v X.length (bv X)) (by exact Has.head)).shape; clear hT) | (go_at_call 48; go_must (refine (Hsz.out _ (hG.keep hS.fr)).mono ?_); rintro en w1 ⟨rfl, hf1⟩; replace hS := hS.keep hf1) | (go_at_call 45; go_must (refine (Hck.out _ (hG.keep hS.fr)).mono ?_); rintro en w1 ⟨rfl, hf1⟩; replace hS := hS.keep hf1) | ((with_reducible apply l_alloc); assumption; rfl; clear hS; intro b w hS) | ((with_reducible apply l_box); assumption; rfl; clear hS; intro b w hS) | ((with_reducible apply l_load); assumption; rfl; (repeat (first | exact Has.head | apply Has.tail)); (first | rfl | (simp [takeV]; done))) | ((with_reducible apply l_build); rfl; (simp [fillL, splice, Value.cells, Act.eval]; rfl)) | ((with_reducible apply l_buildA); rfl; (simp [fillL, splice, Value.cells, Act.eval]; rfl)) | ((with_reducible apply l_bslice); assumption; rfl; rfl; (first | (simp [fillL, splice, zeros, Value.cells, Act.eval]; rfl) | rfl); clear hS; intro b w hS) | ((with_reducible apply l_storeF); assumption; rfl; rfl; (repeat (first | exact Upd.head | apply Upd.tail)); rfl; clear hS; intro w hS) | ((with_reducible apply l_store); assumption; rfl; rfl; (repeat (first | exact Upd.head | apply Upd.tail)); rfl; clear hS; intro w hS; simp only [splice] at hS; try rw [splice_nil] at hS))
  refine mix_start mixed (by kernel_rfl) _ (Stable.st _ _ _) hS.drew ?_
  replace hS := hS.drew
  apply mix_q 0 rfl (by kernel_rfl) rfl rfl
  · intro w hS; go_wp2_with (first | ((with_reducible apply l_want); rfl) | ((with_reducible apply l_load); assumption; rfl; (repeat (first | exact Has.head | apply Has.tail)); (first | rfl | (simp [takeV]; done)))); exact ⟨rfl, by first | exact Fr.refl _ _ | assumption⟩
  · rfl
  apply mix_q 1 rfl (by kernel_rfl) rfl rfl
  · intro w hS; go_wp2_with (first | ((with_reducible apply l_want); rfl) | (go_at_call 46; go_must (refine (Hre.out _).mono ?_); rintro en w1 ⟨rfl, hf1⟩)); exact ⟨rfl, by first | exact Fr.refl _ _ | assumption⟩
  · rfl
  apply mix_f 2 rfl (by kernel_rfl) rfl
  · intro w; go_wp2_with (first | ((with_reducible apply l_want); rfl)); exact ⟨rfl, Fr.refl _ _⟩
  · rfl
  apply mix_q 3 rfl (by kernel_rfl) rfl rfl
  · intro w hS; go_wp2_with (first | ((with_reducible apply l_want); rfl) | ((with_reducible apply l_load); assumption; rfl; (repeat (first | exact Has.head | apply Has.tail)); (first | rfl | (simp [takeV]; done)))); exact ⟨rfl, by first | exact Fr.refl _ _ | assumption⟩
  · rfl
  apply mix_q 4 rfl (by kernel_rfl) rfl rfl
  · intro w hS; go_wp2_with (first | ((with_reducible apply l_want); rfl)); exact ⟨rfl, by first | exact Fr.refl _ _ | assumption⟩
  · rfl
  apply mix_q 5 rfl (by kernel_rfl) rfl rfl
  · intro w hS; go_wp2_with (first | ((with_reducible apply l_want); rfl)); exact ⟨rfl, by first | exact Fr.refl _ _ | assumption⟩
  · rfl
  refine mixE (by kernel_rfl) ?_
  intro w hf _; replace hS := hS.keep hf; clear hf
  go_wp2_with (first | ((with_reducible apply l_want); rfl) | (go_at_call 27; go_must (refine (Hri.out _).mono ?_); rintro en w1 ⟨rfl, hf1⟩; replace hS := hS.keep hf1) | ((with_reducible apply l_alloc); assumption; rfl; clear hS; intro b w hS) | ((with_reducible apply l_box); assumption; rfl; clear hS; intro b w hS) | ((with_reducible apply l_load); assumption; rfl; (repeat (first | exact Has.head | apply Has.tail)); (first | rfl | (simp [takeV]; done))) | ((with_reducible apply l_build); rfl; (simp [fillL, splice, Value.cells, Act.eval]; rfl)) | ((with_reducible apply l_buildA); rfl; (simp [fillL, splice, Value.cells, Act.eval]; rfl)) | ((with_reducible apply l_bslice); assumption; rfl; rfl; (first | (simp [fillL, splice, zeros, Value.cells, Act.eval]; rfl) | rfl); clear hS; intro b w hS) | ((with_reducible apply l_storeF); assumption; rfl; rfl; (repeat (first | exact Upd.head | apply Upd.tail)); rfl; clear hS; intro w hS) | ((with_reducible apply l_store); assumption; rfl; rfl; (repeat (first | exact Upd.head | apply Upd.tail)); rfl; clear hS; intro w hS; simp only [splice] at hS; try rw [splice_nil] at hS))
  refine mix_start mixed (by kernel_rfl) _ (Stable.st _ _ _) hS.drew ?_
  replace hS := hS.drew
  apply mix_f 0 rfl (by kernel_rfl) rfl
  · intro w; go_wp2_with (first | ((with_reducible apply l_want); rfl)); exact ⟨rfl, Fr.refl _ _⟩
  · rfl
  apply mix_q 1 rfl (by kernel_rfl) rfl rfl
  · intro w hS; go_wp2_with (first | ((with_reducible apply l_want); rfl) | ((with_reducible apply l_b2s (l := X)); rfl; refine hS.get (c := rdS 1 _ X.length (bv X)) ?_; (first | exact Has.head | exact Has.head.tail | exact Has.head.tail.tail | exact Has.head.tail.tail.tail | exact Has.head.tail.tail.tail.tail | exact Has.head.tail.tail.tail.tail.tail | exact Has.head.tail.tail.tail.tail.tail.tail | exact Has.head.tail.tail.tail.tail.tail.tail.tail | exact Has.head.tail.tail.tail.tail.tail.tail.tail.tail | exact Has.head.tail.tail.tail.tail.tail.tail.tail.tail.tail | exact Has.head.tail.tail.tail.tail.tail.tail.tail.tail.tail.tail | exact Has.head.tail.tail.tail.tail.tail.tail.tail.tail.tail.tail.tail))); exact ⟨rfl, by first | exact Fr.refl _ _ | assumption⟩
  · rfl
  apply mix_q 2 rfl (by kernel_rfl) rfl rfl
  · intro w hS; go_wp2_with (first | ((with_reducible apply l_want); rfl) | ((with_reducible apply l_load); assumption; rfl; (repeat (first | exact Has.head | apply Has.tail)); (first | rfl | (simp [takeV]; done)))); exact ⟨rfl, by first | exact Fr.refl _ _ | assumption⟩
  · rfl
  apply mix_q 3 rfl (by kernel_rfl) rfl rfl
  · intro w hS; go_wp2_with (first | ((with_reducible apply l_want); rfl) | (go_at_call 34; go_must (refine (Hby.out _).mono ?_); rintro en w1 ⟨rfl, hf1⟩)); exact ⟨rfl, by first | exact Fr.refl _ _ | assumption⟩
  · rfl
  apply mix_q 4 rfl (by kernel_rfl) rfl rfl
  · intro w hS; go_wp2_with (first | ((with_reducible apply l_want); rfl)); exact ⟨rfl, by first | exact Fr.refl _ _ | assumption⟩
  · rfl
  apply mix_f 5 rfl (by kernel_rfl) rfl
  · intro w; go_wp2_with (first | ((with_reducible apply l_want); rfl)); exact ⟨rfl, Fr.refl _ _⟩
  · rfl
  apply mix_f 6 rfl (by kernel_rfl) rfl
  · intro w; go_wp2_with (first | ((with_reducible apply l_want); rfl)); exact ⟨rfl, Fr.refl _ _⟩
  · rfl
  apply mix_f 7 rfl (by kernel_rfl) rfl
  · intro w; go_wp2_with (first | ((with_reducible apply l_want); rfl)); exact ⟨rfl, Fr.refl _ _⟩
  · rfl
  apply mix_q 8 rfl (by kernel_rfl) rfl rfl
  · intro w hS; go_wp2_with (first | ((with_reducible apply l_want); rfl)); exact ⟨rfl, by first | exact Fr.refl _ _ | assumption⟩
  · rfl
  apply mix_q 9 rfl (by kernel_rfl) rfl rfl
  · intro w hS; go_wp2_with (first | ((with_reducible apply l_want); rfl)); exact ⟨rfl, by first | exact Fr.refl _ _ | assumption⟩
  · rfl
  apply mix_f 10 rfl (by kernel_rfl) rfl
  · intro w; go_wp2_with (first | ((with_reducible apply l_want); rfl)); exact ⟨rfl, Fr.refl _ _⟩
  · rfl
  apply mix_f 11 rfl (by kernel_rfl) rfl
  · intro w; go_wp2_with (first | ((with_reducible apply l_want); rfl)); exact ⟨rfl, Fr.refl _ _⟩
  · rfl
  apply mix_f 12 rfl (by kernel_rfl) rfl
  · intro w; go_wp2_with (first | ((with_reducible apply l_want); rfl)); exact ⟨rfl, Fr.refl _ _⟩
  · rfl
  apply mix_q 13 rfl (by kernel_rfl) rfl rfl
  · intro w hS; go_wp2_with (first | ((with_reducible apply l_want); rfl) | (go_at_call 43; go_must (refine (num_c _ _).mono ?_); rintro en w1 ⟨rfl, rfl⟩)); exact ⟨rfl, by first | exact Fr.refl _ _ | assumption⟩
  · rfl
  apply mix_f 14 rfl (by kernel_rfl) rfl
  · intro w; go_wp2_with (first | ((with_reducible apply l_want); rfl)); exact ⟨rfl, Fr.refl _ _⟩
  · rfl
  apply mix_q 15 rfl (by kernel_rfl) rfl rfl
  · intro w hS; go_wp2_with (first | ((with_reducible apply l_want); rfl) | (go_at_call 43; go_must (refine (num_c _ _).mono ?_); rintro en w1 ⟨rfl, rfl⟩)); exact ⟨rfl, by first | exact Fr.refl _ _ | assumption⟩
  · rfl
  apply mix_q 16 rfl (by kernel_rfl) rfl rfl
  · intro w hS; go_wp2_with (first | ((with_reducible apply l_want); rfl)); exact ⟨rfl, by first | exact Fr.refl _ _ | assumption⟩
  · rfl
  apply mix_f 17 rfl (by kernel_rfl) rfl
  · intro w; go_wp2_with (first | ((with_reducible apply l_want); rfl)); exact ⟨rfl, Fr.refl _ _⟩
  · rfl
  apply mix_q 18 rfl (by kernel_rfl) rfl rfl
  · intro w hS; go_wp2_with (first | ((with_reducible apply l_want); rfl) | (go_at_call 43; go_must (refine (num_c _ _).mono ?_); rintro en w1 ⟨rfl, rfl⟩)); exact ⟨rfl, by first | exact Fr.refl _ _ | assumption⟩
  · rfl
  apply mix_q 19 rfl (by kernel_rfl) rfl rfl
  · intro w hS; go_wp2_with (first | ((with_reducible apply l_want); rfl)); exact ⟨rfl, by first | exact Fr.refl _ _ | assumption⟩
  · rfl
  apply mix_q 20 rfl (by kernel_rfl) rfl rfl
  · intro w hS; go_wp2_with (first | ((with_reducible apply l_want); rfl)); exact ⟨rfl, by first | exact Fr.refl _ _ | assumption⟩
  · rfl
  apply mix_f 21 rfl (by kernel_rfl) rfl
  · intro w; go_wp2_with (first | ((with_reducible apply l_want); rfl)); exact ⟨rfl, Fr.refl _ _⟩
  · rfl
  apply mix_f 22 rfl (by kernel_rfl) rfl
  · intro w; go_wp2_with (first | ((with_reducible apply l_want); rfl)); exact ⟨rfl, Fr.refl _ _⟩
  · rfl
  apply mix_q 23 rfl (by kernel_rfl) rfl rfl
  · intro w hS; go_wp2_with (first | ((with_reducible apply l_want); rfl) | (go_at_call 37; go_must (refine (works_c _ (hG.keep hS.fr)).mono ?_); rintro en w1 ⟨rfl, hf1⟩)); exact ⟨rfl, by first | exact Fr.refl _ _ | assumption⟩
  · rfl
  apply mix_f 24 rfl (by kernel_rfl) rfl
  · intro w; go_wp2_with (first | ((with_reducible apply l_want); rfl)); exact ⟨rfl, Fr.refl _ _⟩
  · rfl
  apply mix_f 25 rfl (by kernel_rfl) rfl
  · intro w; go_wp2_with (first | ((with_reducible apply l_want); rfl)); exact ⟨rfl, Fr.refl _ _⟩
  · rfl
  refine mixE (by kernel_rfl) ?_
  intro w hf _; replace hS := hS.keep hf; clear hf
  go_wp2_with (first | ((with_reducible apply l_want); rfl) | ((with_reducible apply l_alloc); assumption; rfl; clear hS; intro b w hS) | ((with_reducible apply l_box); assumption; rfl; clear hS; intro b w hS) | ((with_reducible apply l_load); assumption; rfl; (repeat (first | exact Has.head | apply Has.tail)); (first | rfl | (simp [takeV]; done))) | ((with_reducible apply l_build); rfl; (simp [fillL, splice, Value.cells, Act.eval]; rfl)) | ((with_reducible apply l_buildA); rfl; (simp [fillL, splice, Value.cells, Act.eval]; rfl)) | ((with_reducible apply l_bslice); assumption; rfl; rfl; (first | (simp [fillL, splice, zeros, Value.cells, Act.eval]; rfl) | rfl); clear hS; intro b w hS) | ((with_reducible apply l_storeF); assumption; rfl; rfl; (repeat (first | exact Upd.head | apply Upd.tail)); rfl; clear hS; intro w hS) | ((with_reducible apply l_store); assumption; rfl; rfl; (repeat (first | exact Upd.head | apply Upd.tail)); rfl; clear hS; intro w hS; simp only [splice] at hS; try rw [splice_nil] at hS))
  go_ret
  exact ⟨rfl, hS.fr⟩
theorem encodes_nt (w0 : World) (hG : GlobT w0) (e : Ev) (hf : fewP e = true) (hq : rightQ e = false) (hr : (e.ty == [115, 116, 114, 101, 97, 109, 45, 114, 101, 115, 101, 116]) = true) : Calls Tryz.prog 6 #[e.v] w0 fun en w' => en = .returned (.bool true) ∧ Fr [] w0 w' := by
  have hsm : e.id.length + e.ty.length + e.da.length ≤ 65536 := by have := fewP_len hf; omega
  have hfw := fun W => few_c W e
  rw [hf] at hfw
  have hri := fun W => right_c W e hsm
  rw [hq] at hri
  have hch : checkP e = false := by rw [checkP_eq, hq]
  have hck := fun W (hW : GlobT W) => check_c W hW.base e (by omega) (by omega) (by omega)
  have hok : okNo (rightP e) = 2 := by unfold rightP; rw [hch]; rfl
  rw [hok] at hck
  have hre := fun W => reserved_c W e
  rw [show (e.ty == resetT) = true from hr] at hre
  have hen := fun W (hW : GlobT W) => encode_n W hW.base e (by omega) (by omega) (by omega) hch
  have hsz := fun W (hW : GlobT W) => size_n W hW.base e (by omega) (by omega) (by omega) hch
  have Hfw := Lib.hid hfw
  have Hri := Lib.hid hri
  have Hck := Lib.hid hck
  have Hre := Lib.hid hre
  have Hen := Lib.hid hen
  have Hsz := Lib.hid hsz
  clear hfw hri hck hre hen hsz hch hok hq hf
  change Calls Tryz.prog 6 #[.agg ⟨[txt e.id, txt e.ty, txt e.da]⟩] w0 _
  go_enter Tryz.func6, Tryz.ntmps6
  have hS := St.start [] w0
  go_wp2_with (first | ((with_reducible apply l_want); rfl) | (go_at_call 36; go_must (refine (Hfw.out _).mono ?_); rintro en w1 ⟨rfl, hf1⟩; replace hS := hS.keep hf1) | (go_at_call 47; go_must (refine (Hen.out _ (hG.keep hS.fr)).mono ?_); rintro en w1 ⟨rfl, hf1⟩; replace hS := hS.keep hf1) | (go_at_call 48; go_must (refine (Hsz.out _ (hG.keep hS.fr)).mono ?_); rintro en w1 ⟨rfl, hf1⟩; replace hS := hS.keep hf1) | (go_at_call 45; go_must (refine (Hck.out _ (hG.keep hS.fr)).mono ?_); rintro en w1 ⟨rfl, hf1⟩; replace hS := hS.keep hf1) | ((with_reducible apply l_alloc); assumption; rfl; clear hS; intro b w hS) | ((with_reducible apply l_box); assumption; rfl; clear hS; intro b w hS) | ((with_reducible apply l_load); assumption; rfl; (repeat (first | exact Has.head | apply Has.tail)); (first | rfl | (simp [takeV]; done))) | ((with_reducible apply l_build); rfl; (simp [fillL, splice, Value.cells, Act.eval]; rfl)) | ((with_reducible apply l_buildA); rfl; (simp [fillL, splice, Value.cells, Act.eval]; rfl)) | ((with_reducible apply l_bslice); assumption; rfl; rfl; (first | (simp [fillL, splice, zeros, Value.cells, Act.eval]; rfl) | rfl); clear hS; intro b w hS) | ((with_reducible apply l_storeF); assumption; rfl; rfl; (repeat (first | exact Upd.head | apply Upd.tail)); rfl; clear hS; intro w hS) | ((with_reducible apply l_store); assumption; rfl; rfl; (repeat (first | exact Upd.head | apply Upd.tail)); rfl; clear hS; intro w hS; simp only [splice] at hS; try rw [splice_nil] at hS))
  refine mix_start mixed (by kernel_rfl) _ (Stable.st _ _ _) hS.drew ?_
  replace hS := hS.drew
  apply mix_q 0 rfl (by kernel_rfl) rfl rfl
  · intro w hS; go_wp2_with (first | ((with_reducible apply l_want); rfl) | ((with_reducible apply l_load); assumption; rfl; (repeat (first | exact Has.head | apply Has.tail)); (first | rfl | (simp [takeV]; done)))); exact ⟨rfl, by first | exact Fr.refl _ _ | assumption⟩
  · rfl
  apply mix_q 1 rfl (by kernel_rfl) rfl rfl
  · intro w hS; go_wp2_with (first | ((with_reducible apply l_want); rfl) | (go_at_call 46; go_must (refine (Hre.out _).mono ?_); rintro en w1 ⟨rfl, hf1⟩)); exact ⟨rfl, by first | exact Fr.refl _ _ | assumption⟩
  · rfl
  apply mix_f 2 rfl (by kernel_rfl) rfl
  · intro w; go_wp2_with (first | ((with_reducible apply l_want); rfl)); exact ⟨rfl, Fr.refl _ _⟩
  · rfl
  apply mix_q 3 rfl (by kernel_rfl) rfl rfl
  · intro w hS; go_wp2_with (first | ((with_reducible apply l_want); rfl) | ((with_reducible apply l_load); assumption; rfl; (repeat (first | exact Has.head | apply Has.tail)); (first | rfl | (simp [takeV]; done)))); exact ⟨rfl, by first | exact Fr.refl _ _ | assumption⟩
  · rfl
  apply mix_q 4 rfl (by kernel_rfl) rfl rfl
  · intro w hS; go_wp2_with (first | ((with_reducible apply l_want); rfl)); exact ⟨rfl, by first | exact Fr.refl _ _ | assumption⟩
  · rfl
  apply mix_q 5 rfl (by kernel_rfl) rfl rfl
  · intro w hS; go_wp2_with (first | ((with_reducible apply l_want); rfl)); exact ⟨rfl, by first | exact Fr.refl _ _ | assumption⟩
  · rfl
  refine mixE (by kernel_rfl) ?_
  intro w hf _; replace hS := hS.keep hf; clear hf
  go_wp2_with (first | ((with_reducible apply l_want); rfl) | (go_at_call 27; go_must (refine (Hri.out _).mono ?_); rintro en w1 ⟨rfl, hf1⟩; replace hS := hS.keep hf1) | (go_at_call 43; go_must (refine (num_c _ _).mono ?_); rintro en w1 ⟨rfl, rfl⟩) | (go_at_call 37; go_must (refine (works_c _ (hG.keep hS.fr)).mono ?_); rintro en w1 ⟨rfl, hf1⟩; replace hS := hS.keep hf1) | ((with_reducible apply l_alloc); assumption; rfl; clear hS; intro b w hS) | ((with_reducible apply l_box); assumption; rfl; clear hS; intro b w hS) | ((with_reducible apply l_load); assumption; rfl; (repeat (first | exact Has.head | apply Has.tail)); (first | rfl | (simp [takeV]; done))) | ((with_reducible apply l_build); rfl; (simp [fillL, splice, Value.cells, Act.eval]; rfl)) | ((with_reducible apply l_buildA); rfl; (simp [fillL, splice, Value.cells, Act.eval]; rfl)) | ((with_reducible apply l_bslice); assumption; rfl; rfl; (first | (simp [fillL, splice, zeros, Value.cells, Act.eval]; rfl) | rfl); clear hS; intro b w hS) | ((with_reducible apply l_storeF); assumption; rfl; rfl; (repeat (first | exact Upd.head | apply Upd.tail)); rfl; clear hS; intro w hS) | ((with_reducible apply l_store); assumption; rfl; rfl; (repeat (first | exact Upd.head | apply Upd.tail)); rfl; clear hS; intro w hS; simp only [splice] at hS; try rw [splice_nil] at hS))
  go_ret
  exact ⟨rfl, hS.fr⟩
theorem encodes_nf (w0 : World) (hG : GlobT w0) (e : Ev) (hf : fewP e = true) (hq : rightQ e = false) (hr : (e.ty == [115, 116, 114, 101, 97, 109, 45, 114, 101, 115, 101, 116]) = false) : Calls Tryz.prog 6 #[e.v] w0 fun en w' => en = .returned (.bool true) ∧ Fr [] w0 w' := by
  have hsm : e.id.length + e.ty.length + e.da.length ≤ 65536 := by have := fewP_len hf; omega
  have hfw := fun W => few_c W e
  rw [hf] at hfw
  have hri := fun W => right_c W e hsm
  rw [hq] at hri
  have hch : checkP e = false := by rw [checkP_eq, hq]
  have hck := fun W (hW : GlobT W) => check_c W hW.base e (by omega) (by omega) (by omega)
  have hok : okNo (rightP e) = 2 := by unfold rightP; rw [hch]; rfl
  rw [hok] at hck
  have hre := fun W => reserved_c W e
  rw [show (e.ty == resetT) = false from hr] at hre
  have hen := fun W (hW : GlobT W) => encode_n W hW.base e (by omega) (by omega) (by omega) hch
  have hsz := fun W (hW : GlobT W) => size_n W hW.base e (by omega) (by omega) (by omega) hch
  have Hfw := Lib.hid hfw
  have Hri := Lib.hid hri
  have Hck := Lib.hid hck
  have Hre := Lib.hid hre
  have Hen := Lib.hid hen
  have Hsz := Lib.hid hsz
  clear hfw hri hck hre hen hsz hch hok hq hf
  change Calls Tryz.prog 6 #[.agg ⟨[txt e.id, txt e.ty, txt e.da]⟩] w0 _
  go_enter Tryz.func6, Tryz.ntmps6
  have hS := St.start [] w0
  go_wp2_with (first | ((with_reducible apply l_want); rfl) | (go_at_call 36; go_must (refine (Hfw.out _).mono ?_); rintro en w1 ⟨rfl, hf1⟩; replace hS := hS.keep hf1) | (go_at_call 47; go_must (refine (Hen.out _ (hG.keep hS.fr)).mono ?_); rintro en w1 ⟨rfl, hf1⟩; replace hS := hS.keep hf1) | (go_at_call 48; go_must (refine (Hsz.out _ (hG.keep hS.fr)).mono ?_); rintro en w1 ⟨rfl, hf1⟩; replace hS := hS.keep hf1) | (go_at_call 45; go_must (refine (Hck.out _ (hG.keep hS.fr)).mono ?_); rintro en w1 ⟨rfl, hf1⟩; replace hS := hS.keep hf1) | ((with_reducible apply l_alloc); assumption; rfl; clear hS; intro b w hS) | ((with_reducible apply l_box); assumption; rfl; clear hS; intro b w hS) | ((with_reducible apply l_load); assumption; rfl; (repeat (first | exact Has.head | apply Has.tail)); (first | rfl | (simp [takeV]; done))) | ((with_reducible apply l_build); rfl; (simp [fillL, splice, Value.cells, Act.eval]; rfl)) | ((with_reducible apply l_buildA); rfl; (simp [fillL, splice, Value.cells, Act.eval]; rfl)) | ((with_reducible apply l_bslice); assumption; rfl; rfl; (first | (simp [fillL, splice, zeros, Value.cells, Act.eval]; rfl) | rfl); clear hS; intro b w hS) | ((with_reducible apply l_storeF); assumption; rfl; rfl; (repeat (first | exact Upd.head | apply Upd.tail)); rfl; clear hS; intro w hS) | ((with_reducible apply l_store); assumption; rfl; rfl; (repeat (first | exact Upd.head | apply Upd.tail)); rfl; clear hS; intro w hS; simp only [splice] at hS; try rw [splice_nil] at hS))
  refine mix_start mixed (by kernel_rfl) _ (Stable.st _ _ _) hS.drew ?_
  replace hS := hS.drew
  apply mix_q 0 rfl (by kernel_rfl) rfl rfl
  · intro w hS; go_wp2_with (first | ((with_reducible apply l_want); rfl) | ((with_reducible apply l_load); assumption; rfl; (repeat (first | exact Has.head | apply Has.tail)); (first | rfl | (simp [takeV]; done)))); exact ⟨rfl, by first | exact Fr.refl _ _ | assumption⟩
  · rfl
  apply mix_q 1 rfl (by kernel_rfl) rfl rfl
  · intro w hS; go_wp2_with (first | ((with_reducible apply l_want); rfl) | (go_at_call 46; go_must (refine (Hre.out _).mono ?_); rintro en w1 ⟨rfl, hf1⟩)); exact ⟨rfl, by first | exact Fr.refl _ _ | assumption⟩
  · rfl
  apply mix_f 2 rfl (by kernel_rfl) rfl
  · intro w; go_wp2_with (first | ((with_reducible apply l_want); rfl)); exact ⟨rfl, Fr.refl _ _⟩
  · rfl
  apply mix_q 3 rfl (by kernel_rfl) rfl rfl
  · intro w hS; go_wp2_with (first | ((with_reducible apply l_want); rfl) | ((with_reducible apply l_load); assumption; rfl; (repeat (first | exact Has.head | apply Has.tail)); (first | rfl | (simp [takeV]; done)))); exact ⟨rfl, by first | exact Fr.refl _ _ | assumption⟩
  · rfl
  apply mix_q 4 rfl (by kernel_rfl) rfl rfl
  · intro w hS; go_wp2_with (first | ((with_reducible apply l_want); rfl)); exact ⟨rfl, by first | exact Fr.refl _ _ | assumption⟩
  · rfl
  apply mix_q 5 rfl (by kernel_rfl) rfl rfl
  · intro w hS; go_wp2_with (first | ((with_reducible apply l_want); rfl)); exact ⟨rfl, by first | exact Fr.refl _ _ | assumption⟩
  · rfl
  refine mixE (by kernel_rfl) ?_
  intro w hf _; replace hS := hS.keep hf; clear hf
  go_wp2_with (first | ((with_reducible apply l_want); rfl) | (go_at_call 27; go_must (refine (Hri.out _).mono ?_); rintro en w1 ⟨rfl, hf1⟩; replace hS := hS.keep hf1) | (go_at_call 43; go_must (refine (num_c _ _).mono ?_); rintro en w1 ⟨rfl, rfl⟩) | (go_at_call 37; go_must (refine (works_c _ (hG.keep hS.fr)).mono ?_); rintro en w1 ⟨rfl, hf1⟩; replace hS := hS.keep hf1) | ((with_reducible apply l_alloc); assumption; rfl; clear hS; intro b w hS) | ((with_reducible apply l_box); assumption; rfl; clear hS; intro b w hS) | ((with_reducible apply l_load); assumption; rfl; (repeat (first | exact Has.head | apply Has.tail)); (first | rfl | (simp [takeV]; done))) | ((with_reducible apply l_build); rfl; (simp [fillL, splice, Value.cells, Act.eval]; rfl)) | ((with_reducible apply l_buildA); rfl; (simp [fillL, splice, Value.cells, Act.eval]; rfl)) | ((with_reducible apply l_bslice); assumption; rfl; rfl; (first | (simp [fillL, splice, zeros, Value.cells, Act.eval]; rfl) | rfl); clear hS; intro b w hS) | ((with_reducible apply l_storeF); assumption; rfl; rfl; (repeat (first | exact Upd.head | apply Upd.tail)); rfl; clear hS; intro w hS) | ((with_reducible apply l_store); assumption; rfl; rfl; (repeat (first | exact Upd.head | apply Upd.tail)); rfl; clear hS; intro w hS; simp only [splice] at hS; try rw [splice_nil] at hS))
  go_ret
  exact ⟨rfl, hS.fr⟩
/-- EventEncodes tells true. -/
theorem encodes_c (w0 : World) (hG : GlobT w0) (e : Ev) : Calls Tryz.prog 6 #[e.v] w0 fun en w' => en = .returned (.bool true) ∧ Fr [] w0 w' := by
  cases hf : fewP e with
  | false => exact encodes_f w0 hG e hf
  | true =>
    cases hq : rightQ e with
    | true =>
      cases hr : (e.ty == [115, 116, 114, 101, 97, 109, 45, 114, 101, 115, 101, 116]) with
      | true => exact encodes_yt w0 hG e hf hq hr
      | false => exact encodes_yf w0 hG e hf hq hr
    | false =>
      cases hr : (e.ty == [115, 116, 114, 101, 97, 109, 45, 114, 101, 115, 101, 116]) with
      | true => exact encodes_nt w0 hG e hf hq hr
      | false => exact encodes_nf w0 hG e hf hq hr
end Go.Proofs.YtaejmginhkbbhaaGreatDoor
