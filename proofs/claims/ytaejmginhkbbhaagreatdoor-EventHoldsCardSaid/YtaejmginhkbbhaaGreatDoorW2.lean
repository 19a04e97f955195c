/- The walks through package event, eighth part: lines' bytes (F123). Conditions: as each contract says. -/
import Derived.Test.YtaejmginhkbbhaaGreatDoorW1
set_option linter.unusedSimpArgs false
set_option linter.unusedVariables false
set_option maxRecDepth 100000
set_option maxHeartbeats 1000000
namespace Go.Proofs.YtaejmginhkbbhaaGreatDoor
open Go Go.RowKit
/-- Lines' bytes, and an empty line's. -/
def bytesOf (ls : List (List UInt8)) : List UInt8 := Lib.join (ls ++ [[], []]) [10]
theorem join_c (w0 : World) (v : Value) (ls : List (List UInt8)) (sep : List UInt8) (hne : ls ≠ []) (hr : RdS w0 1 v ls.length (sv ls)) (hN : ls.length ≤ 1000000) (hlen : (Lib.join ls sep).length ≤ 140737488355328) :
    Calls Tryz.prog 193 #[v, txt sep] w0 fun e w' => e = .returned (txt (Lib.join ls sep)) ∧ Fr [] w0 w' := by
  obtain ⟨-, A, c, rfl, hc, hrd⟩ := hr
  obtain ⟨bk, o, rfl, hrd2⟩ := hrd (by cases ls with | nil => exact absurd rfl hne | cons x l => simp [sv])
  have hmap : (ls.map (fun l => ByteArray.mk l.toArray)).map (·.data.toList) = ls := by simp [List.map_map, Function.comp_def]
  have h := Tryz.strings_Join bk o c (ls.map (fun l => ByteArray.mk l.toArray)) ⟨sep.toArray⟩ w0 ?_ ?_ (by simp; omega) (by simpa using hc) (by rw [hmap]; simpa using hlen)
  · rw [hmap] at h
    simp only [List.length_map] at h
    refine h.mono ?_
    rintro e w' ⟨rfl, hb⟩
    exact ⟨rfl, Fr.of_below hb⟩
  · intro j x hj
    have : (sv ls)[j]? = some (.string x) := by
      simp only [List.getElem?_map, Option.map_eq_some_iff] at hj
      obtain ⟨l, hl, rfl⟩ := hj
      simp [sv, hl]
    exact hrd2 j _ this
  · cases ls with
    | nil => exact absurd rfl hne
    | cons x l =>
      exact World.block_lt_of_cell? w0 ⟨bk, o, none⟩ (hrd2 0 (txt x) (by simp [sv]))
theorem joined_y (w0 : World) (k : Nat) (first lb : Array Value) (ls : List (List UInt8)) (ecf : ∀ args w, (callFunc k args).run Tryz.prog w = .ok (.enter k args) w)
    (hcall : Calls Tryz.prog k (first ++ lb) w0 fun e w' => ∃ v, e = .returned v ∧ St [] w0 w' [own 9 1 v ls.length (sv ls)]) (hN : ls.length ≤ 900000) (hlen : (bytesOf ls).length ≤ 140737488355328) :
    Calls Tryz.prog 123 #[.func (.func k) first lb] w0 fun e w' => ∃ v, e = .returned v ∧ St [] w0 w' [rdS 1 v (bytesOf ls).length (bv (bytesOf ls))] := by
  have Hc := Lib.hid hcall
  clear hcall
  go_enter Tryz.func123, Tryz.ntmps123
  have hS := St.start [] w0
  go_wp2_with (first | ((with_reducible apply l_want); rfl) | ((with_reducible apply l_alloc); assumption; rfl; clear hS; intro b w hS) | ((with_reducible apply l_box); assumption; rfl; clear hS; intro b w hS) | ((with_reducible apply l_load); assumption; rfl; (repeat (first | exact Has.head | apply Has.tail)); (first | rfl | (simp [takeV]; done))) | ((with_reducible apply l_build); rfl; (simp [fillL, splice, Value.cells, Act.eval]; rfl)) | ((with_reducible apply l_buildA); rfl; (simp [fillL, splice, Value.cells, Act.eval]; rfl)) | ((with_reducible apply l_bslice); assumption; rfl; rfl; (first | (simp [fillL, splice, zeros, Value.cells, Act.eval]; rfl) | rfl); clear hS; intro b w hS) | ((with_reducible apply l_storeF); assumption; rfl; rfl; (repeat (first | exact Upd.head | apply Upd.tail)); rfl; clear hS; intro w hS) | ((with_reducible apply l_store); assumption; rfl; rfl; (repeat (first | exact Upd.head | apply Upd.tail)); rfl; clear hS; intro w hS; simp only [splice] at hS; try rw [splice_nil] at hS))
  refine Hc.out.mono ?_
  rintro e w1 ⟨v, rfl, hT⟩
  replace hS := hS.join hT
  simp only [List.append_nil] at hS
  obtain ⟨A, cp, rfl, hcp⟩ := (RdS.of_own (hS.get (c := own 9 1 v ls.length (sv ls)) (by exact Has.head))).shape
  clear hT
  have hj := fun W v (h : RdS W 1 v (ls ++ [[], []]).length (sv (ls ++ [[], []]))) => join_c W v (ls ++ [[], []]) [10] (by simp) h (by simp; omega) hlen
  have Hj := Lib.hid hj
  clear hj
  go_wp2_with (first | ((with_reducible apply l_want); rfl) | ((with_reducible apply l_append); assumption; rfl; rfl; (intro v'; (repeat (first | exact Upd.head | apply Upd.tail))); rfl; exact RdS.of_row (hS.get (by exact Has.head)) 2 2 rfl (Nat.le_refl _); simp [Value.oneCell']; omega; omega; clear hS; intro v' w hS hnil) | (go_at_call 193; go_must (refine (Hj.out _ _ (by have h := RdS.of_own (hS.get (c := own 9 1 _ (ls.length + 2) (sv ls ++ [txt [], txt []])) (by exact Has.head.tail)); rw [List.length_append, sv_append]; exact h)).mono ?_); rintro e w5 ⟨rfl, hf5⟩; replace hS := hS.keep hf5) | ((with_reducible apply l_s2b); assumption; rfl; clear hS; intro v w hS) | ((with_reducible apply l_alloc); assumption; rfl; clear hS; intro b w hS) | ((with_reducible apply l_box); assumption; rfl; clear hS; intro b w hS) | ((with_reducible apply l_load); assumption; rfl; (repeat (first | exact Has.head | apply Has.tail)); (first | rfl | (simp [takeV]; done))) | ((with_reducible apply l_build); rfl; (simp [fillL, splice, Value.cells, Act.eval]; rfl)) | ((with_reducible apply l_buildA); rfl; (simp [fillL, splice, Value.cells, Act.eval]; rfl)) | ((with_reducible apply l_bslice); assumption; rfl; rfl; (first | (simp [fillL, splice, zeros, Value.cells, Act.eval]; rfl) | rfl); clear hS; intro b w hS) | ((with_reducible apply l_storeF); assumption; rfl; rfl; (repeat (first | exact Upd.head | apply Upd.tail)); rfl; clear hS; intro w hS) | ((with_reducible apply l_store); assumption; rfl; rfl; (repeat (first | exact Upd.head | apply Upd.tail)); rfl; clear hS; intro w hS; simp only [splice] at hS; try rw [splice_nil] at hS))
  go_ret
  exact ⟨_, rfl, hS.sub (by (repeat (first | exact List.Sublist.slnil | exact List.Sublist.refl _ | apply List.Sublist.cons_cons | apply List.Sublist.cons)))⟩
end Go.Proofs.YtaejmginhkbbhaaGreatDoor
