/- The walks through package field, first part: what a line says (F171, F170, F87). Conditions: as each contract says. -/
import Derived.Test.YtaejmginhkbbhaaGreatDoorV5
import Derived.Test.YtaejmginhkbbhaaGreatDoorO
set_option linter.unusedSimpArgs false
set_option linter.unusedVariables false
set_option maxRecDepth 100000
set_option maxHeartbeats 1000000
namespace Go.Proofs.YtaejmginhkbbhaaGreatDoor
open Go Go.RowKit
instance : Mp Tryz.prog 275 9 149 .string := ⟨by kernel_rfl, by kernel_rfl⟩
instance : Zr Tryz.prog 149 (.int .i64 0) := ⟨by kernel_rfl⟩
noncomputable def kindsF : Value → Option Value := upd (upd (upd (upd (fun _ => none) (txt [100, 97, 116, 97]) (some (.int .i64 3))) (txt [101, 118, 101, 110, 116]) (some (.int .i64 4))) (txt [105, 100]) (some (.int .i64 5))) (txt [114, 101, 116, 114, 121]) (some (.int .i64 6))
/-- What a field's name makes it. -/
def kindP (l : List UInt8) : Nat := if l = [100, 97, 116, 97] then 3 else if l = [101, 118, 101, 110, 116] then 4 else if l = [105, 100] then 5 else if l = [114, 101, 116, 114, 121] then 6 else 7
theorem txt_inj {a b : List UInt8} : txt a = txt b ↔ a = b := by
  constructor
  · intro h
    have h1 : a.toArray = b.toArray := by
      have := congrArg (fun v => match v with | .string s => s.data | _ => #[]) h
      exact this
    simpa using h1
  · rintro rfl; rfl
theorem kindsF_eq (l : List UInt8) : (kindsF (txt l) = none ∧ kindP l = 7) ∨ kindsF (txt l) = some (.int .i64 ((kindP l : Nat) : Int)) := by
  unfold kindsF kindP upd
  simp only [txt_inj]
  by_cases h1 : l = [100, 97, 116, 97]
  · subst h1; right; simp
  · by_cases h2 : l = [101, 118, 101, 110, 116]
    · subst h2; right; simp
    · by_cases h3 : l = [105, 100]
      · subst h3; right; simp
      · by_cases h4 : l = [114, 101, 116, 114, 121]
        · subst h4; right; simp
        · left; simp [h1, h2, h3, h4]
theorem kinds_c (w0 : World) : Calls Tryz.prog 171 #[] w0 fun e w' => ∃ b, e = .returned (.map (some b)) ∧ St [] w0 w' [mapc b .string kindsF] := by
  go_enter Tryz.func171, Tryz.ntmps171
  have hS := St.start [] w0
  go_wp2_with (first | ((with_reducible apply l_want); rfl) | ((with_reducible apply l_makeMap); assumption; clear hS; intro b w hS) | ((with_reducible apply l_insert); assumption; rfl; rfl; rfl; (repeat (first | exact Upd.head | apply Upd.tail)); trivial; clear hS; intro w hS) | ((with_reducible apply l_alloc); assumption; rfl; clear hS; intro b w hS) | ((with_reducible apply l_box); assumption; rfl; clear hS; intro b w hS) | ((with_reducible apply l_load); assumption; rfl; (repeat (first | exact Has.head | apply Has.tail)); (first | rfl | (simp [takeV]; done))) | ((with_reducible apply l_build); rfl; (simp [fillL, splice, Value.cells, Act.eval]; rfl)) | ((with_reducible apply l_buildA); rfl; (simp [fillL, splice, Value.cells, Act.eval]; rfl)) | ((with_reducible apply l_bslice); assumption; rfl; rfl; (first | (simp [fillL, splice, zeros, Value.cells, Act.eval]; rfl) | rfl); clear hS; intro b w hS) | ((with_reducible apply l_storeF); assumption; rfl; rfl; (repeat (first | exact Upd.head | apply Upd.tail)); rfl; clear hS; intro w hS) | ((with_reducible apply l_store); assumption; rfl; rfl; (repeat (first | exact Upd.head | apply Upd.tail)); rfl; clear hS; intro w hS; simp only [splice] at hS; try rw [splice_nil] at hS))
  go_ret
  exact ⟨_, rfl, hS⟩
theorem known_c (w0 : World) (b : Nat) (l : List UInt8) (h : (mapc b .string kindsF).ok w0) : Calls Tryz.prog 170 #[.map (some b), txt l, .int .i64 7] w0 fun e w' => e = .returned (.int .i64 ((kindP l : Nat) : Int)) ∧ w' = w0 := by
  have hl : ∀ W, W = w0 → (mapc b .string kindsF).ok W := fun W e => e ▸ h
  have Hl := Lib.hid hl
  clear h hl
  rcases kindsF_eq l with ⟨h1, h2⟩ | h1
  · rw [h2]
    have H1 := Lib.hid h1
    clear h1 h2
    go_enter Tryz.func170, Tryz.ntmps170
    go_wp2_with (first | ((with_reducible apply l_want); rfl) | ((with_reducible apply l_lookup); rfl; rfl; trivial; exact Hl.out _ rfl; exact H1.out) | ((with_reducible apply l_alloc); assumption; rfl; clear hS; intro b w hS) | ((with_reducible apply l_box); assumption; rfl; clear hS; intro b w hS) | ((with_reducible apply l_load); assumption; rfl; (repeat (first | exact Has.head | apply Has.tail)); (first | rfl | (simp [takeV]; done))) | ((with_reducible apply l_build); rfl; (simp [fillL, splice, Value.cells, Act.eval]; rfl)) | ((with_reducible apply l_buildA); rfl; (simp [fillL, splice, Value.cells, Act.eval]; rfl)) | ((with_reducible apply l_bslice); assumption; rfl; rfl; (first | (simp [fillL, splice, zeros, Value.cells, Act.eval]; rfl) | rfl); clear hS; intro b w hS) | ((with_reducible apply l_storeF); assumption; rfl; rfl; (repeat (first | exact Upd.head | apply Upd.tail)); rfl; clear hS; intro w hS) | ((with_reducible apply l_store); assumption; rfl; rfl; (repeat (first | exact Upd.head | apply Upd.tail)); rfl; clear hS; intro w hS; simp only [splice] at hS; try rw [splice_nil] at hS))
    go_ret
    exact ⟨rfl, rfl⟩
  · have H1 := Lib.hid h1
    clear h1
    go_enter Tryz.func170, Tryz.ntmps170
    go_wp2_with (first | ((with_reducible apply l_want); rfl) | ((with_reducible apply l_lookup); rfl; rfl; trivial; exact Hl.out _ rfl; exact H1.out) | ((with_reducible apply l_alloc); assumption; rfl; clear hS; intro b w hS) | ((with_reducible apply l_box); assumption; rfl; clear hS; intro b w hS) | ((with_reducible apply l_load); assumption; rfl; (repeat (first | exact Has.head | apply Has.tail)); (first | rfl | (simp [takeV]; done))) | ((with_reducible apply l_build); rfl; (simp [fillL, splice, Value.cells, Act.eval]; rfl)) | ((with_reducible apply l_buildA); rfl; (simp [fillL, splice, Value.cells, Act.eval]; rfl)) | ((with_reducible apply l_bslice); assumption; rfl; rfl; (first | (simp [fillL, splice, zeros, Value.cells, Act.eval]; rfl) | rfl); clear hS; intro b w hS) | ((with_reducible apply l_storeF); assumption; rfl; rfl; (repeat (first | exact Upd.head | apply Upd.tail)); rfl; clear hS; intro w hS) | ((with_reducible apply l_store); assumption; rfl; rfl; (repeat (first | exact Upd.head | apply Upd.tail)); rfl; clear hS; intro w hS; simp only [splice] at hS; try rw [splice_nil] at hS))
    go_ret
    exact ⟨rfl, rfl⟩
end Go.Proofs.YtaejmginhkbbhaaGreatDoor
