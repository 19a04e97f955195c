/- The walks through package event, second part: giving up (F121, F122). Conditions: as each contract says. -/
import Derived.Test.YtaejmginhkbbhaaGreatDoorV1
set_option linter.unusedSimpArgs false
set_option linter.unusedVariables false
set_option maxRecDepth 100000
set_option maxHeartbeats 1000000
namespace Go.Proofs.YtaejmginhkbbhaaGreatDoor
open Go Go.RowKit
theorem must_t (w0 : World) (e : Int) : Calls Tryz.prog 121 #[.bool true, .int .i64 e] w0 fun en w' => (∃ v, en = .returned v) ∧ w' = w0 := by
  go_enter Tryz.func121, Tryz.ntmps121
  go_wp2_with (first | ((with_reducible apply l_want); rfl) | ((with_reducible apply l_alloc); assumption; rfl; clear hS; intro b w hS) | ((with_reducible apply l_box); assumption; rfl; clear hS; intro b w hS) | ((with_reducible apply l_load); assumption; rfl; (repeat (first | exact Has.head | apply Has.tail)); (first | rfl | (simp [takeV]; done))) | ((with_reducible apply l_build); rfl; (simp [fillL, splice, Value.cells, Act.eval]; rfl)) | ((with_reducible apply l_buildA); rfl; (simp [fillL, splice, Value.cells, Act.eval]; rfl)) | ((with_reducible apply l_bslice); assumption; rfl; rfl; (simp [fillL, splice, zeros, Value.cells, Act.eval]; rfl); clear hS; intro b w hS) | ((with_reducible apply l_storeF); assumption; rfl; rfl; (repeat (first | exact Upd.head | apply Upd.tail)); rfl; clear hS; intro w hS) | ((with_reducible apply l_store); assumption; rfl; rfl; (repeat (first | exact Upd.head | apply Upd.tail)); rfl; clear hS; intro w hS; simp only [splice] at hS; try rw [splice_nil] at hS))
  go_end0
  exact ⟨⟨_, rfl⟩, rfl⟩
theorem must_f (w0 : World) (e : Int) : Calls Tryz.prog 121 #[.bool false, .int .i64 e] w0 fun en w' => en = .panicked [{ v := .iface 29 (.int .i64 e), recovered := false }] ∧ w' = w0 := by
  go_enter Tryz.func121, Tryz.ntmps121
  go_wp2_with (first | ((with_reducible apply l_want); rfl) | ((with_reducible apply l_alloc); assumption; rfl; clear hS; intro b w hS) | ((with_reducible apply l_box); assumption; rfl; clear hS; intro b w hS) | ((with_reducible apply l_load); assumption; rfl; (repeat (first | exact Has.head | apply Has.tail)); (first | rfl | (simp [takeV]; done))) | ((with_reducible apply l_build); rfl; (simp [fillL, splice, Value.cells, Act.eval]; rfl)) | ((with_reducible apply l_buildA); rfl; (simp [fillL, splice, Value.cells, Act.eval]; rfl)) | ((with_reducible apply l_bslice); assumption; rfl; rfl; (simp [fillL, splice, zeros, Value.cells, Act.eval]; rfl); clear hS; intro b w hS) | ((with_reducible apply l_storeF); assumption; rfl; rfl; (repeat (first | exact Upd.head | apply Upd.tail)); rfl; clear hS; intro w hS) | ((with_reducible apply l_store); assumption; rfl; rfl; (repeat (first | exact Upd.head | apply Upd.tail)); rfl; clear hS; intro w hS; simp only [splice] at hS; try rw [splice_nil] at hS))
  exact ⟨rfl, rfl, rfl⟩
/-- What giving up with an error number hands up. -/
abbrev gives (e : Int) : List PanicEntry := [{ v := .iface 29 (.int .i64 e), recovered := false }]
theorem must_f' (w0 : World) (e : Int) : Calls Tryz.prog 121 #[.bool false, .int .i64 e] w0 fun en w' => en = .panicked (gives e) ∧ w' = w0 := must_f w0 e
/-- May a text be? -/
def textP (sg l : List UInt8) : Bool := !hasP l sg && sound l
theorem text_c (w0 : World) (l sg : List UInt8) (hsg : ∀ c ∈ sg, c.toNat < 128) (hl : l.length ≤ 1099511627776) :
    Calls Tryz.prog 122 #[txt l, txt sg] w0 fun en w' => (if textP sg l = true then ∃ v, en = .returned v else en = .panicked (gives 2)) ∧ Fr [] w0 w' := by
  have hh : textP sg l = (!hasP l sg && sound l) := rfl
  rw [hh]
  cases h1 : hasP l sg with
  | true =>
    have H1 := Lib.hid h1
    clear h1
    go_enter Tryz.func122, Tryz.ntmps122
    have hS := St.start [] w0
    go_wp2_with (first | ((with_reducible apply l_want); rfl) | (go_at_call 191; go_must (refine (hasAny_c _ l sg hsg (by omega)).mono ?_); rw [H1.out]; rintro e w1 ⟨rfl, hf1⟩; replace hS := hS.keep hf1) | (go_at_call 121; go_must (refine (must_f' _ _).mono ?_); rintro e w1 ⟨rfl, rfl⟩) | ((with_reducible apply l_alloc); assumption; rfl; clear hS; intro b w hS) | ((with_reducible apply l_box); assumption; rfl; clear hS; intro b w hS) | ((with_reducible apply l_load); assumption; rfl; (repeat (first | exact Has.head | apply Has.tail)); (first | rfl | (simp [takeV]; done))) | ((with_reducible apply l_build); rfl; (simp [fillL, splice, Value.cells, Act.eval]; rfl)) | ((with_reducible apply l_buildA); rfl; (simp [fillL, splice, Value.cells, Act.eval]; rfl)) | ((with_reducible apply l_bslice); assumption; rfl; rfl; (simp [fillL, splice, zeros, Value.cells, Act.eval]; rfl); clear hS; intro b w hS) | ((with_reducible apply l_storeF); assumption; rfl; rfl; (repeat (first | exact Upd.head | apply Upd.tail)); rfl; clear hS; intro w hS) | ((with_reducible apply l_store); assumption; rfl; rfl; (repeat (first | exact Upd.head | apply Upd.tail)); rfl; clear hS; intro w hS; simp only [splice] at hS; try rw [splice_nil] at hS))
    exact ⟨rfl, rfl, hS.fr⟩
  | false =>
    have H1 := Lib.hid h1
    clear h1
    cases h2 : sound l with
    | true =>
      have H2 := Lib.hid h2
      clear h2
      go_enter Tryz.func122, Tryz.ntmps122
      have hS := St.start [] w0
      go_wp2_with (first | ((with_reducible apply l_want); rfl) | (go_at_call 191; go_must (refine (hasAny_c _ l sg hsg (by omega)).mono ?_); rw [H1.out]; rintro e w1 ⟨rfl, hf1⟩; replace hS := hS.keep hf1) | (go_at_call 192; go_must (refine (sound_c _ l hl).mono ?_); rw [H2.out]; rintro e w1 ⟨rfl, hf1⟩; replace hS := hS.keep hf1) | (go_at_call 121; go_must (refine (must_t _ _).mono ?_); rintro e w1 ⟨⟨v, rfl⟩, rfl⟩) | ((with_reducible apply l_alloc); assumption; rfl; clear hS; intro b w hS) | ((with_reducible apply l_box); assumption; rfl; clear hS; intro b w hS) | ((with_reducible apply l_load); assumption; rfl; (repeat (first | exact Has.head | apply Has.tail)); (first | rfl | (simp [takeV]; done))) | ((with_reducible apply l_build); rfl; (simp [fillL, splice, Value.cells, Act.eval]; rfl)) | ((with_reducible apply l_buildA); rfl; (simp [fillL, splice, Value.cells, Act.eval]; rfl)) | ((with_reducible apply l_bslice); assumption; rfl; rfl; (simp [fillL, splice, zeros, Value.cells, Act.eval]; rfl); clear hS; intro b w hS) | ((with_reducible apply l_storeF); assumption; rfl; rfl; (repeat (first | exact Upd.head | apply Upd.tail)); rfl; clear hS; intro w hS) | ((with_reducible apply l_store); assumption; rfl; rfl; (repeat (first | exact Upd.head | apply Upd.tail)); rfl; clear hS; intro w hS; simp only [splice] at hS; try rw [splice_nil] at hS))
      go_end0
      exact ⟨⟨_, rfl⟩, hS.fr⟩
    | false =>
      have H2 := Lib.hid h2
      clear h2
      go_enter Tryz.func122, Tryz.ntmps122
      have hS := St.start [] w0
      go_wp2_with (first | ((with_reducible apply l_want); rfl) | (go_at_call 191; go_must (refine (hasAny_c _ l sg hsg (by omega)).mono ?_); rw [H1.out]; rintro e w1 ⟨rfl, hf1⟩; replace hS := hS.keep hf1) | (go_at_call 192; go_must (refine (sound_c _ l hl).mono ?_); rw [H2.out]; rintro e w1 ⟨rfl, hf1⟩; replace hS := hS.keep hf1) | (go_at_call 121; go_must (refine (must_f' _ _).mono ?_); rintro e w1 ⟨rfl, rfl⟩) | ((with_reducible apply l_alloc); assumption; rfl; clear hS; intro b w hS) | ((with_reducible apply l_box); assumption; rfl; clear hS; intro b w hS) | ((with_reducible apply l_load); assumption; rfl; (repeat (first | exact Has.head | apply Has.tail)); (first | rfl | (simp [takeV]; done))) | ((with_reducible apply l_build); rfl; (simp [fillL, splice, Value.cells, Act.eval]; rfl)) | ((with_reducible apply l_buildA); rfl; (simp [fillL, splice, Value.cells, Act.eval]; rfl)) | ((with_reducible apply l_bslice); assumption; rfl; rfl; (simp [fillL, splice, zeros, Value.cells, Act.eval]; rfl); clear hS; intro b w hS) | ((with_reducible apply l_storeF); assumption; rfl; rfl; (repeat (first | exact Upd.head | apply Upd.tail)); rfl; clear hS; intro w hS) | ((with_reducible apply l_store); assumption; rfl; rfl; (repeat (first | exact Upd.head | apply Upd.tail)); rfl; clear hS; intro w hS; simp only [splice] at hS; try rw [splice_nil] at hS))
      exact ⟨rfl, rfl, hS.fr⟩
end Go.Proofs.YtaejmginhkbbhaaGreatDoor
