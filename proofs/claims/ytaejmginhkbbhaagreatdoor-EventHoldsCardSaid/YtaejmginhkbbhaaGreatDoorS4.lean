/- The walks through the document's own layers 6 and 7, first part: has a text one of some bytes (F110), may an event be (F27), the line of a field (F167). Conditions: as each contract says. The walks through the document's own layer 7, second part: what stands between bytes of a kind (F130). Conditions: as each contract says. The walks through the document's own layer 7, third part: an event's lines (F85), its bytes (F34), a comment (F39). Conditions: as each contract says. The walks through the document's own layer 7, fourth part: an event's lines in one word (F85), its bytes (F34), a comment (F39). Conditions: as each contract says. -/
import Derived.Test.YtaejmginhkbbhaaGreatDoorR5
import Derived.Test.YtaejmginhkbbhaaGreatDoorY1
set_option linter.unusedSimpArgs false
set_option linter.unusedVariables false
set_option maxRecDepth 100000
set_option maxHeartbeats 1000000
namespace Go.Proofs.YtaejmginhkbbhaaGreatDoor
open Go Go.RowKit
attribute [local irreducible] Calls
theorem getElem_mk (l : List UInt8) (i : Nat) (x : UInt8) (hx : l[i]? = some x) : ∀ h, (ByteArray.mk l.toArray)[i]'h = x := by
  intro h
  have h2 := (List.getElem?_eq_some_iff.1 hx).2
  rw [← h2]
  rfl
theorem hasP_drop (s sg : List UInt8) (i : Nat) (x : UInt8) (hx : s[i]? = some x) : hasP (s.drop i) sg = (sg.contains x || hasP (s.drop (i + 1)) sg) := by
  obtain ⟨hlt, rfl⟩ := List.getElem?_eq_some_iff.1 hx
  rw [List.drop_eq_getElem_cons hlt]
  rfl
theorem has_c (w0 : World) (s sg : List UInt8) (hl : s.length ≤ 1099511627776) (hg : sg.length ≤ 1099511627776) :
    Calls Tryz.prog 110 #[txt s, txt sg] w0 fun e w' => e = .returned (.bool (hasP s sg)) ∧ Fr [] w0 w' := by
  obtain ⟨R, hR⟩ : ∃ R, R = hasP s sg := ⟨_, rfl⟩
  rw [← hR]
  have HR := Lib.hid hR
  clear hR
  go_enter Tryz.func110, Tryz.ntmps110
  have hS := St.start [] w0
  go_wp2_with (first | ((with_reducible apply l_want); rfl) | ((with_reducible apply l_alloc); assumption; rfl; clear hS; intro b w hS) | ((with_reducible apply l_box); assumption; rfl; clear hS; intro b w hS) | ((with_reducible apply l_load); assumption; rfl; (repeat (first | exact Has.head | apply Has.tail)); (first | rfl | (simp [takeV]; done))) | ((with_reducible apply l_build); rfl; (simp [fillL, splice, Value.cells, Act.eval]; rfl)) | ((with_reducible apply l_buildA); rfl; (simp [fillL, splice, Value.cells, Act.eval]; rfl)) | ((with_reducible apply l_bslice); assumption; rfl; rfl; (first | (simp [fillL, splice, zeros, Value.cells, Act.eval]; rfl) | rfl); clear hS; intro b w hS) | ((with_reducible apply l_storeF); assumption; rfl; rfl; (repeat (first | exact Upd.head | apply Upd.tail)); rfl; clear hS; intro w hS) | ((with_reducible apply l_store); assumption; rfl; rfl; (repeat (first | exact Upd.head | apply Upd.tail)); rfl; clear hS; intro w hS; simp only [splice] at hS; try rw [splice_nil] at hS))
  go_loopg [5] s.length (fun g t5 wr => ∃ i : Nat, i + g = s.length ∧ t5 = .int .i64 (i : Int) ∧ Hid (R = hasP (s.drop i) sg) ∧ St [] w0 wr [])
  case atStart => exact ⟨0, by omega, rfl, HR, hS⟩
  case round =>
    obtain ⟨i, hig, rfl, HT, hS⟩ := hrel
    by_cases hi : i < s.length
    · obtain ⟨x, hx⟩ : ∃ x, s[i]? = some x := ⟨_, List.getElem?_eq_getElem hi⟩
      have hgx := getElem_mk s i x hx
      rw [hasP_drop s sg i x hx] at HT
      clear hx
      go_wp2_with (first | ((with_reducible apply l_want); rfl) | ((with_reducible apply l_alloc); assumption; rfl; clear hS; intro b w hS) | ((with_reducible apply l_box); assumption; rfl; clear hS; intro b w hS) | ((with_reducible apply l_load); assumption; rfl; (repeat (first | exact Has.head | apply Has.tail)); (first | rfl | (simp [takeV]; done))) | ((with_reducible apply l_build); rfl; (simp [fillL, splice, Value.cells, Act.eval]; rfl)) | ((with_reducible apply l_buildA); rfl; (simp [fillL, splice, Value.cells, Act.eval]; rfl)) | ((with_reducible apply l_bslice); assumption; rfl; rfl; (first | (simp [fillL, splice, zeros, Value.cells, Act.eval]; rfl) | rfl); clear hS; intro b w hS) | ((with_reducible apply l_storeF); assumption; rfl; rfl; (repeat (first | exact Upd.head | apply Upd.tail)); rfl; clear hS; intro w hS) | ((with_reducible apply l_store); assumption; rfl; rfl; (repeat (first | exact Upd.head | apply Upd.tail)); rfl; clear hS; intro w hS; simp only [splice] at hS; try rw [splice_nil] at hS))
      go_loopg [6] sg.length (fun g t6 wr => ∃ j : Nat, j + g = sg.length ∧ t6 = .int .i64 (j : Int) ∧ Hid (R = ((sg.drop j).contains x || hasP (s.drop (i + 1)) sg)) ∧ St [] w0 wr [])
      case atStart => exact ⟨0, by omega, rfl, HT, hS⟩
      case round =>
        obtain ⟨j, hjg, rfl, HU, hS⟩ := hrel
        by_cases hj : j < sg.length
        · obtain ⟨d, hd⟩ : ∃ d, sg[j]? = some d := ⟨_, List.getElem?_eq_getElem hj⟩
          have hgd := getElem_mk sg j d hd
          have hdr : sg.drop j = d :: sg.drop (j + 1) := by
            rw [List.drop_eq_getElem_cons hj, (List.getElem?_eq_some_iff.1 hd).2]
          rw [hdr] at HU
          clear hd hdr HT
          by_cases hxd : x = d
          · subst hxd
            have HN : Hid (R = true) := Lib.hid (by rw [HU.out]; simp)
            clear HU
            go_wp2_with (first | ((with_reducible apply l_want); rfl) | ((with_reducible apply l_alloc); assumption; rfl; clear hS; intro b w hS) | ((with_reducible apply l_box); assumption; rfl; clear hS; intro b w hS) | ((with_reducible apply l_load); assumption; rfl; (repeat (first | exact Has.head | apply Has.tail)); (first | rfl | (simp [takeV]; done))) | ((with_reducible apply l_build); rfl; (simp [fillL, splice, Value.cells, Act.eval]; rfl)) | ((with_reducible apply l_buildA); rfl; (simp [fillL, splice, Value.cells, Act.eval]; rfl)) | ((with_reducible apply l_bslice); assumption; rfl; rfl; (first | (simp [fillL, splice, zeros, Value.cells, Act.eval]; rfl) | rfl); clear hS; intro b w hS) | ((with_reducible apply l_storeF); assumption; rfl; rfl; (repeat (first | exact Upd.head | apply Upd.tail)); rfl; clear hS; intro w hS) | ((with_reducible apply l_store); assumption; rfl; rfl; (repeat (first | exact Upd.head | apply Upd.tail)); rfl; clear hS; intro w hS; simp only [splice] at hS; try rw [splice_nil] at hS))
            refine mix_start mixed (by kernel_rfl) _ (Stable.st _ _ _) hS.drew ?_
            replace hS := hS.drew
            apply mix_f 0 rfl (by kernel_rfl) rfl
            · intro w; go_wp2_with (first | ((with_reducible apply l_want); rfl)); exact ⟨rfl, Fr.refl _ _⟩
            · rfl
            apply mix_f 1 rfl (by kernel_rfl) rfl
            · intro w; go_wp2_with (first | ((with_reducible apply l_want); rfl)); exact ⟨rfl, Fr.refl _ _⟩
            · rfl
            apply mix_q 2 rfl (by kernel_rfl) rfl rfl
            · intro w hS; go_wp2_with (first | ((with_reducible apply l_want); rfl)); exact ⟨rfl, by first | exact Fr.refl _ _ | assumption⟩
            · rfl
            apply mix_f 3 rfl (by kernel_rfl) rfl
            · intro w; go_wp2_with (first | ((with_reducible apply l_want); rfl)); exact ⟨rfl, Fr.refl _ _⟩
            · rfl
            apply mix_f 4 rfl (by kernel_rfl) rfl
            · intro w; go_wp2_with (first | ((with_reducible apply l_want); rfl)); exact ⟨rfl, Fr.refl _ _⟩
            · rfl
            apply mix_q 5 rfl (by kernel_rfl) rfl rfl
            · intro w hS; go_wp2_with (first | ((with_reducible apply l_want); rfl)); exact ⟨rfl, by first | exact Fr.refl _ _ | assumption⟩
            · rfl
            apply mix_q 6 rfl (by kernel_rfl) rfl rfl
            · intro w hS; go_wp2_with (first | ((with_reducible apply l_want); rfl)); exact ⟨rfl, by first | exact Fr.refl _ _ | assumption⟩
            · rfl
            refine mixE (by kernel_rfl) ?_
            intro w hf _; replace hS := hS.keep hf; clear hf
            go_wp2_with (first | ((with_reducible apply l_want); rfl) | ((with_reducible apply l_alloc); assumption; rfl; clear hS; intro b w hS) | ((with_reducible apply l_box); assumption; rfl; clear hS; intro b w hS) | ((with_reducible apply l_load); assumption; rfl; (repeat (first | exact Has.head | apply Has.tail)); (first | rfl | (simp [takeV]; done))) | ((with_reducible apply l_build); rfl; (simp [fillL, splice, Value.cells, Act.eval]; rfl)) | ((with_reducible apply l_buildA); rfl; (simp [fillL, splice, Value.cells, Act.eval]; rfl)) | ((with_reducible apply l_bslice); assumption; rfl; rfl; (first | (simp [fillL, splice, zeros, Value.cells, Act.eval]; rfl) | rfl); clear hS; intro b w hS) | ((with_reducible apply l_storeF); assumption; rfl; rfl; (repeat (first | exact Upd.head | apply Upd.tail)); rfl; clear hS; intro w hS) | ((with_reducible apply l_store); assumption; rfl; rfl; (repeat (first | exact Upd.head | apply Upd.tail)); rfl; clear hS; intro w hS; simp only [splice] at hS; try rw [splice_nil] at hS))
            go_ret
            exact ⟨by rw [HN.out]; rfl, hS.fr⟩
          · have hne : ((x.toNat : Int) == (d.toNat : Int)) = false := by
              simp only [beq_eq_false_iff_ne, ne_eq]
              intro h
              exact hxd (UInt8.toNat_inj.1 (by omega))
            have HN : Hid (R = ((sg.drop (j + 1)).contains x || hasP (s.drop (i + 1)) sg)) := Lib.hid (by rw [HU.out]; simp [hxd])
            clear HU hxd
            go_wp2_with (first | ((with_reducible apply l_want); rfl) | ((with_reducible apply l_alloc); assumption; rfl; clear hS; intro b w hS) | ((with_reducible apply l_box); assumption; rfl; clear hS; intro b w hS) | ((with_reducible apply l_load); assumption; rfl; (repeat (first | exact Has.head | apply Has.tail)); (first | rfl | (simp [takeV]; done))) | ((with_reducible apply l_build); rfl; (simp [fillL, splice, Value.cells, Act.eval]; rfl)) | ((with_reducible apply l_buildA); rfl; (simp [fillL, splice, Value.cells, Act.eval]; rfl)) | ((with_reducible apply l_bslice); assumption; rfl; rfl; (first | (simp [fillL, splice, zeros, Value.cells, Act.eval]; rfl) | rfl); clear hS; intro b w hS) | ((with_reducible apply l_storeF); assumption; rfl; rfl; (repeat (first | exact Upd.head | apply Upd.tail)); rfl; clear hS; intro w hS) | ((with_reducible apply l_store); assumption; rfl; rfl; (repeat (first | exact Upd.head | apply Upd.tail)); rfl; clear hS; intro w hS; simp only [splice] at hS; try rw [splice_nil] at hS))
            refine mix_start mixed (by kernel_rfl) _ (Stable.st _ _ _) hS.drew ?_
            replace hS := hS.drew
            apply mix_f 0 rfl (by kernel_rfl) rfl
            · intro w; go_wp2_with (first | ((with_reducible apply l_want); rfl)); exact ⟨rfl, Fr.refl _ _⟩
            · rfl
            apply mix_f 1 rfl (by kernel_rfl) rfl
            · intro w; go_wp2_with (first | ((with_reducible apply l_want); rfl)); exact ⟨rfl, Fr.refl _ _⟩
            · rfl
            apply mix_q 2 rfl (by kernel_rfl) rfl rfl
            · intro w hS; go_wp2_with (first | ((with_reducible apply l_want); rfl)); exact ⟨rfl, by first | exact Fr.refl _ _ | assumption⟩
            · rfl
            apply mix_f 3 rfl (by kernel_rfl) rfl
            · intro w; go_wp2_with (first | ((with_reducible apply l_want); rfl)); exact ⟨rfl, Fr.refl _ _⟩
            · rfl
            apply mix_f 4 rfl (by kernel_rfl) rfl
            · intro w; go_wp2_with (first | ((with_reducible apply l_want); rfl)); exact ⟨rfl, Fr.refl _ _⟩
            · rfl
            apply mix_q 5 rfl (by kernel_rfl) rfl rfl
            · intro w hS; go_wp2_with (first | ((with_reducible apply l_want); rfl)); exact ⟨rfl, by first | exact Fr.refl _ _ | assumption⟩
            · rfl
            apply mix_q 6 rfl (by kernel_rfl) rfl rfl
            · intro w hS; go_wp2_with (first | ((with_reducible apply l_want); rfl)); exact ⟨rfl, by first | exact Fr.refl _ _ | assumption⟩
            · rfl
            refine mixE (by kernel_rfl) ?_
            intro w hf _; replace hS := hS.keep hf; clear hf
            go_wp2_with (first | ((with_reducible apply l_want); rfl) | ((with_reducible apply l_alloc); assumption; rfl; clear hS; intro b w hS) | ((with_reducible apply l_box); assumption; rfl; clear hS; intro b w hS) | ((with_reducible apply l_load); assumption; rfl; (repeat (first | exact Has.head | apply Has.tail)); (first | rfl | (simp [takeV]; done))) | ((with_reducible apply l_build); rfl; (simp [fillL, splice, Value.cells, Act.eval]; rfl)) | ((with_reducible apply l_buildA); rfl; (simp [fillL, splice, Value.cells, Act.eval]; rfl)) | ((with_reducible apply l_bslice); assumption; rfl; rfl; (first | (simp [fillL, splice, zeros, Value.cells, Act.eval]; rfl) | rfl); clear hS; intro b w hS) | ((with_reducible apply l_storeF); assumption; rfl; rfl; (repeat (first | exact Upd.head | apply Upd.tail)); rfl; clear hS; intro w hS) | ((with_reducible apply l_store); assumption; rfl; rfl; (repeat (first | exact Upd.head | apply Upd.tail)); rfl; clear hS; intro w hS; simp only [splice] at hS; try rw [splice_nil] at hS))
            go_roundg (sg.length - (j + 1))
            case measure => omega
            case rel => exact ⟨j + 1, by omega, by go_num, HN, hS⟩
        · have HN : Hid (R = hasP (s.drop (i + 1)) sg) := Lib.hid (by rw [HU.out, List.drop_eq_nil_of_le (by omega)]; simp)
          have hje : j = sg.length := by omega
          have hnn : decide ((j : Int) < (sg.length : Int)) = false := by simp; omega
          clear HU HT hje
          go_wp2_with (first | ((with_reducible apply l_want); rfl) | ((with_reducible apply l_alloc); assumption; rfl; clear hS; intro b w hS) | ((with_reducible apply l_box); assumption; rfl; clear hS; intro b w hS) | ((with_reducible apply l_load); assumption; rfl; (repeat (first | exact Has.head | apply Has.tail)); (first | rfl | (simp [takeV]; done))) | ((with_reducible apply l_build); rfl; (simp [fillL, splice, Value.cells, Act.eval]; rfl)) | ((with_reducible apply l_buildA); rfl; (simp [fillL, splice, Value.cells, Act.eval]; rfl)) | ((with_reducible apply l_bslice); assumption; rfl; rfl; (first | (simp [fillL, splice, zeros, Value.cells, Act.eval]; rfl) | rfl); clear hS; intro b w hS) | ((with_reducible apply l_storeF); assumption; rfl; rfl; (repeat (first | exact Upd.head | apply Upd.tail)); rfl; clear hS; intro w hS) | ((with_reducible apply l_store); assumption; rfl; rfl; (repeat (first | exact Upd.head | apply Upd.tail)); rfl; clear hS; intro w hS; simp only [splice] at hS; try rw [splice_nil] at hS))
          go_roundg (s.length - (i + 1))
          case measure => omega
          case rel => exact ⟨i + 1, by omega, by go_num, HN, hS⟩
    · have HN : Hid (R = false) := Lib.hid (by rw [HT.out, List.drop_eq_nil_of_le (by omega)]; rfl)
      have hnn : decide ((i : Int) < (s.length : Int)) = false := by simp; omega
      clear HT
      go_wp2_with (first | ((with_reducible apply l_want); rfl) | ((with_reducible apply l_alloc); assumption; rfl; clear hS; intro b w hS) | ((with_reducible apply l_box); assumption; rfl; clear hS; intro b w hS) | ((with_reducible apply l_load); assumption; rfl; (repeat (first | exact Has.head | apply Has.tail)); (first | rfl | (simp [takeV]; done))) | ((with_reducible apply l_build); rfl; (simp [fillL, splice, Value.cells, Act.eval]; rfl)) | ((with_reducible apply l_buildA); rfl; (simp [fillL, splice, Value.cells, Act.eval]; rfl)) | ((with_reducible apply l_bslice); assumption; rfl; rfl; (first | (simp [fillL, splice, zeros, Value.cells, Act.eval]; rfl) | rfl); clear hS; intro b w hS) | ((with_reducible apply l_storeF); assumption; rfl; rfl; (repeat (first | exact Upd.head | apply Upd.tail)); rfl; clear hS; intro w hS) | ((with_reducible apply l_store); assumption; rfl; rfl; (repeat (first | exact Upd.head | apply Upd.tail)); rfl; clear hS; intro w hS; simp only [splice] at hS; try rw [splice_nil] at hS))
      go_ret
      exact ⟨by rw [HN.out]; rfl, hS.fr⟩
/-- The document's line of a field. -/
theorem rline_c (w0 : World) (k : Nat) (nm vl : List UInt8) (hn : nm.length ≤ 1099511627776) (hv : vl.length ≤ 1099511627776) :
    Calls Tryz.prog 167 #[.agg ⟨[.int .i64 (k : Int), txt nm, txt vl]⟩] w0 fun e w' => e = .returned (txt (lineP ⟨k, nm, vl⟩)) ∧ Fr [] w0 w' := by
  obtain ⟨R, hR⟩ : ∃ R, R = lineP ⟨k, nm, vl⟩ := ⟨_, rfl⟩
  rw [← hR]
  unfold lineP at hR
  by_cases h2 : k = 2
  · subst h2
    have HR : Hid (R = 58 :: vl) := Lib.hid hR
    clear hR
    go_enter Tryz.func167, Tryz.ntmps167
    have hS := St.start [] w0
    go_wp2_with (first | ((with_reducible apply l_want); rfl) | ((with_reducible apply l_cat (l := [58]) (m := vl)); rfl; rfl; (simp; omega)) | ((with_reducible apply l_alloc); assumption; rfl; clear hS; intro b w hS) | ((with_reducible apply l_box); assumption; rfl; clear hS; intro b w hS) | ((with_reducible apply l_load); assumption; rfl; (repeat (first | exact Has.head | apply Has.tail)); (first | rfl | (simp [takeV]; done))) | ((with_reducible apply l_build); rfl; (simp [fillL, splice, Value.cells, Act.eval]; rfl)) | ((with_reducible apply l_buildA); rfl; (simp [fillL, splice, Value.cells, Act.eval]; rfl)) | ((with_reducible apply l_bslice); assumption; rfl; rfl; (first | (simp [fillL, splice, zeros, Value.cells, Act.eval]; rfl) | rfl); clear hS; intro b w hS) | ((with_reducible apply l_storeF); assumption; rfl; rfl; (repeat (first | exact Upd.head | apply Upd.tail)); rfl; clear hS; intro w hS) | ((with_reducible apply l_store); assumption; rfl; rfl; (repeat (first | exact Upd.head | apply Upd.tail)); rfl; clear hS; intro w hS; simp only [splice] at hS; try rw [splice_nil] at hS))
    go_ret
    exact ⟨by rw [HR.out]; rfl, hS.fr⟩
  · have hk : ((k : Int) == 2) = false := by simp; omega
    simp only [h2, if_false] at hR
    cases vl with
    | nil =>
      have HR : Hid (R = nm) := Lib.hid hR
      clear hR h2
      go_enter Tryz.func167, Tryz.ntmps167
      have hS := St.start [] w0
      go_wp2_with (first | ((with_reducible apply l_want); rfl) | ((with_reducible apply l_alloc); assumption; rfl; clear hS; intro b w hS) | ((with_reducible apply l_box); assumption; rfl; clear hS; intro b w hS) | ((with_reducible apply l_load); assumption; rfl; (repeat (first | exact Has.head | apply Has.tail)); (first | rfl | (simp [takeV]; done))) | ((with_reducible apply l_build); rfl; (simp [fillL, splice, Value.cells, Act.eval]; rfl)) | ((with_reducible apply l_buildA); rfl; (simp [fillL, splice, Value.cells, Act.eval]; rfl)) | ((with_reducible apply l_bslice); assumption; rfl; rfl; (first | (simp [fillL, splice, zeros, Value.cells, Act.eval]; rfl) | rfl); clear hS; intro b w hS) | ((with_reducible apply l_storeF); assumption; rfl; rfl; (repeat (first | exact Upd.head | apply Upd.tail)); rfl; clear hS; intro w hS) | ((with_reducible apply l_store); assumption; rfl; rfl; (repeat (first | exact Upd.head | apply Upd.tail)); rfl; clear hS; intro w hS; simp only [splice] at hS; try rw [splice_nil] at hS))
      go_ret
      exact ⟨by rw [HR.out]; rfl, hS.fr⟩
    | cons c r =>
      have HR : Hid (R = nm ++ 58 :: 32 :: c :: r) := Lib.hid (by rw [hR]; simp)
      clear hR h2
      go_enter Tryz.func167, Tryz.ntmps167
      have hS := St.start [] w0
      go_wp2_with (first | ((with_reducible apply l_want); rfl) | ((with_reducible apply l_cat (l := nm) (m := [58, 32])); rfl; rfl; (simp; omega)) | ((with_reducible apply l_cat (l := nm ++ [58, 32]) (m := c :: r)); rfl; rfl; (simp at hv ⊢; omega)) | ((with_reducible apply l_alloc); assumption; rfl; clear hS; intro b w hS) | ((with_reducible apply l_box); assumption; rfl; clear hS; intro b w hS) | ((with_reducible apply l_load); assumption; rfl; (repeat (first | exact Has.head | apply Has.tail)); (first | rfl | (simp [takeV]; done))) | ((with_reducible apply l_build); rfl; (simp [fillL, splice, Value.cells, Act.eval]; rfl)) | ((with_reducible apply l_buildA); rfl; (simp [fillL, splice, Value.cells, Act.eval]; rfl)) | ((with_reducible apply l_bslice); assumption; rfl; rfl; (first | (simp [fillL, splice, zeros, Value.cells, Act.eval]; rfl) | rfl); clear hS; intro b w hS) | ((with_reducible apply l_storeF); assumption; rfl; rfl; (repeat (first | exact Upd.head | apply Upd.tail)); rfl; clear hS; intro w hS) | ((with_reducible apply l_store); assumption; rfl; rfl; (repeat (first | exact Upd.head | apply Upd.tail)); rfl; clear hS; intro w hS; simp only [splice] at hS; try rw [splice_nil] at hS))
      go_ret
      refine ⟨?_, hS.fr⟩
      rw [HR.out, show nm ++ 58 :: 32 :: c :: r = (nm ++ [58, 32]) ++ c :: r by simp]
      rfl
theorem right_s0 (w0 : World) (id ty da : List UInt8) (g : id.length + ty.length + da.length ≤ 65536)
    (ha1 : ∀ W, Calls Tryz.prog 110 #[txt id, txt [0, 13, 10]] W fun e w' => e = .returned (.bool true) ∧ Fr [] W w') :
    Calls Tryz.prog 27 #[.agg ⟨[txt id, txt ty, txt da]⟩] w0 fun e w' => e = .returned (.bool false) ∧ Fr [] w0 w' := by
  have fa : decide ((65536 : Int) < (id.length : Int)) = false := by simp; omega
  have fb : decide ((65536 : Int) < (ty.length : Int)) = false := by simp; omega
  have fc : decide ((65536 : Int) < (da.length : Int)) = false := by simp; omega
  have fs : decide ((65536 : Int) < (id.length : Int) + (ty.length : Int) + (da.length : Int)) = false := by simp; omega
  have Ha1 := Lib.hid ha1
  clear ha1
  go_enter Tryz.func27, Tryz.ntmps27
  have hS := St.start [] w0
  go_wp2_with (first | ((with_reducible apply l_want); rfl) | (go_at_call 110; refine (Ha1.out _).mono ?_; rintro en w1 ⟨rfl, hf1⟩; replace hS := hS.keep hf1) | ((with_reducible apply l_alloc); assumption; rfl; clear hS; intro b w hS) | ((with_reducible apply l_box); assumption; rfl; clear hS; intro b w hS) | ((with_reducible apply l_load); assumption; rfl; (repeat (first | exact Has.head | apply Has.tail)); (first | rfl | (simp [takeV]; done))) | ((with_reducible apply l_build); rfl; (simp [fillL, splice, Value.cells, Act.eval]; rfl)) | ((with_reducible apply l_buildA); rfl; (simp [fillL, splice, Value.cells, Act.eval]; rfl)) | ((with_reducible apply l_bslice); assumption; rfl; rfl; (first | (simp [fillL, splice, zeros, Value.cells, Act.eval]; rfl) | rfl); clear hS; intro b w hS) | ((with_reducible apply l_storeF); assumption; rfl; rfl; (repeat (first | exact Upd.head | apply Upd.tail)); rfl; clear hS; intro w hS) | ((with_reducible apply l_store); assumption; rfl; rfl; (repeat (first | exact Upd.head | apply Upd.tail)); rfl; clear hS; intro w hS; simp only [splice] at hS; try rw [splice_nil] at hS))
  go_ret
  exact ⟨rfl, hS.fr⟩
theorem right_s1 (w0 : World) (id ty da : List UInt8) (g : id.length + ty.length + da.length ≤ 65536)
    (ha1 : ∀ W, Calls Tryz.prog 110 #[txt id, txt [0, 13, 10]] W fun e w' => e = .returned (.bool false) ∧ Fr [] W w')
    (ha2 : ∀ W, Calls Tryz.prog 110 #[txt ty, txt [13, 10]] W fun e w' => e = .returned (.bool true) ∧ Fr [] W w') :
    Calls Tryz.prog 27 #[.agg ⟨[txt id, txt ty, txt da]⟩] w0 fun e w' => e = .returned (.bool false) ∧ Fr [] w0 w' := by
  have fa : decide ((65536 : Int) < (id.length : Int)) = false := by simp; omega
  have fb : decide ((65536 : Int) < (ty.length : Int)) = false := by simp; omega
  have fc : decide ((65536 : Int) < (da.length : Int)) = false := by simp; omega
  have fs : decide ((65536 : Int) < (id.length : Int) + (ty.length : Int) + (da.length : Int)) = false := by simp; omega
  have Ha1 := Lib.hid ha1
  have Ha2 := Lib.hid ha2
  clear ha1 ha2
  go_enter Tryz.func27, Tryz.ntmps27
  have hS := St.start [] w0
  go_wp2_with (first | ((with_reducible apply l_want); rfl) | (go_at_call 110; refine (Ha1.out _).mono ?_; rintro en w1 ⟨rfl, hf1⟩; replace hS := hS.keep hf1) | (go_at_call 110; refine (Ha2.out _).mono ?_; rintro en w1 ⟨rfl, hf1⟩; replace hS := hS.keep hf1) | ((with_reducible apply l_alloc); assumption; rfl; clear hS; intro b w hS) | ((with_reducible apply l_box); assumption; rfl; clear hS; intro b w hS) | ((with_reducible apply l_load); assumption; rfl; (repeat (first | exact Has.head | apply Has.tail)); (first | rfl | (simp [takeV]; done))) | ((with_reducible apply l_build); rfl; (simp [fillL, splice, Value.cells, Act.eval]; rfl)) | ((with_reducible apply l_buildA); rfl; (simp [fillL, splice, Value.cells, Act.eval]; rfl)) | ((with_reducible apply l_bslice); assumption; rfl; rfl; (first | (simp [fillL, splice, zeros, Value.cells, Act.eval]; rfl) | rfl); clear hS; intro b w hS) | ((with_reducible apply l_storeF); assumption; rfl; rfl; (repeat (first | exact Upd.head | apply Upd.tail)); rfl; clear hS; intro w hS) | ((with_reducible apply l_store); assumption; rfl; rfl; (repeat (first | exact Upd.head | apply Upd.tail)); rfl; clear hS; intro w hS; simp only [splice] at hS; try rw [splice_nil] at hS))
  go_ret
  exact ⟨rfl, hS.fr⟩
theorem right_s2 (w0 : World) (id ty da : List UInt8) (g : id.length + ty.length + da.length ≤ 65536)
    (ha1 : ∀ W, Calls Tryz.prog 110 #[txt id, txt [0, 13, 10]] W fun e w' => e = .returned (.bool false) ∧ Fr [] W w')
    (ha2 : ∀ W, Calls Tryz.prog 110 #[txt ty, txt [13, 10]] W fun e w' => e = .returned (.bool false) ∧ Fr [] W w')
    (ha3 : ∀ W, Calls Tryz.prog 110 #[txt da, txt [13]] W fun e w' => e = .returned (.bool true) ∧ Fr [] W w') :
    Calls Tryz.prog 27 #[.agg ⟨[txt id, txt ty, txt da]⟩] w0 fun e w' => e = .returned (.bool false) ∧ Fr [] w0 w' := by
  have fa : decide ((65536 : Int) < (id.length : Int)) = false := by simp; omega
  have fb : decide ((65536 : Int) < (ty.length : Int)) = false := by simp; omega
  have fc : decide ((65536 : Int) < (da.length : Int)) = false := by simp; omega
  have fs : decide ((65536 : Int) < (id.length : Int) + (ty.length : Int) + (da.length : Int)) = false := by simp; omega
  have Ha1 := Lib.hid ha1
  have Ha2 := Lib.hid ha2
  have Ha3 := Lib.hid ha3
  clear ha1 ha2 ha3
  go_enter Tryz.func27, Tryz.ntmps27
  have hS := St.start [] w0
  go_wp2_with (first | ((with_reducible apply l_want); rfl) | (go_at_call 110; refine (Ha1.out _).mono ?_; rintro en w1 ⟨rfl, hf1⟩; replace hS := hS.keep hf1) | (go_at_call 110; refine (Ha2.out _).mono ?_; rintro en w1 ⟨rfl, hf1⟩; replace hS := hS.keep hf1) | (go_at_call 110; refine (Ha3.out _).mono ?_; rintro en w1 ⟨rfl, hf1⟩; replace hS := hS.keep hf1) | ((with_reducible apply l_alloc); assumption; rfl; clear hS; intro b w hS) | ((with_reducible apply l_box); assumption; rfl; clear hS; intro b w hS) | ((with_reducible apply l_load); assumption; rfl; (repeat (first | exact Has.head | apply Has.tail)); (first | rfl | (simp [takeV]; done))) | ((with_reducible apply l_build); rfl; (simp [fillL, splice, Value.cells, Act.eval]; rfl)) | ((with_reducible apply l_buildA); rfl; (simp [fillL, splice, Value.cells, Act.eval]; rfl)) | ((with_reducible apply l_bslice); assumption; rfl; rfl; (first | (simp [fillL, splice, zeros, Value.cells, Act.eval]; rfl) | rfl); clear hS; intro b w hS) | ((with_reducible apply l_storeF); assumption; rfl; rfl; (repeat (first | exact Upd.head | apply Upd.tail)); rfl; clear hS; intro w hS) | ((with_reducible apply l_store); assumption; rfl; rfl; (repeat (first | exact Upd.head | apply Upd.tail)); rfl; clear hS; intro w hS; simp only [splice] at hS; try rw [splice_nil] at hS))
  go_ret
  exact ⟨rfl, hS.fr⟩
theorem right_s3 (w0 : World) (id ty da : List UInt8) (g : id.length + ty.length + da.length ≤ 65536)
    (ha1 : ∀ W, Calls Tryz.prog 110 #[txt id, txt [0, 13, 10]] W fun e w' => e = .returned (.bool false) ∧ Fr [] W w')
    (ha2 : ∀ W, Calls Tryz.prog 110 #[txt ty, txt [13, 10]] W fun e w' => e = .returned (.bool false) ∧ Fr [] W w')
    (ha3 : ∀ W, Calls Tryz.prog 110 #[txt da, txt [13]] W fun e w' => e = .returned (.bool false) ∧ Fr [] W w')
    (hs1 : ∀ W, Calls Tryz.prog 111 #[txt id] W fun e w' => e = .returned (.bool false) ∧ Fr [] W w') :
    Calls Tryz.prog 27 #[.agg ⟨[txt id, txt ty, txt da]⟩] w0 fun e w' => e = .returned (.bool false) ∧ Fr [] w0 w' := by
  have fa : decide ((65536 : Int) < (id.length : Int)) = false := by simp; omega
  have fb : decide ((65536 : Int) < (ty.length : Int)) = false := by simp; omega
  have fc : decide ((65536 : Int) < (da.length : Int)) = false := by simp; omega
  have fs : decide ((65536 : Int) < (id.length : Int) + (ty.length : Int) + (da.length : Int)) = false := by simp; omega
  have Ha1 := Lib.hid ha1
  have Ha2 := Lib.hid ha2
  have Ha3 := Lib.hid ha3
  have Hs1 := Lib.hid hs1
  clear ha1 ha2 ha3 hs1
  go_enter Tryz.func27, Tryz.ntmps27
  have hS := St.start [] w0
  go_wp2_with (first | ((with_reducible apply l_want); rfl) | (go_at_call 110; refine (Ha1.out _).mono ?_; rintro en w1 ⟨rfl, hf1⟩; replace hS := hS.keep hf1) | (go_at_call 110; refine (Ha2.out _).mono ?_; rintro en w1 ⟨rfl, hf1⟩; replace hS := hS.keep hf1) | (go_at_call 110; refine (Ha3.out _).mono ?_; rintro en w1 ⟨rfl, hf1⟩; replace hS := hS.keep hf1) | (go_at_call 111; refine (Hs1.out _).mono ?_; rintro en w1 ⟨rfl, hf1⟩; replace hS := hS.keep hf1) | ((with_reducible apply l_alloc); assumption; rfl; clear hS; intro b w hS) | ((with_reducible apply l_box); assumption; rfl; clear hS; intro b w hS) | ((with_reducible apply l_load); assumption; rfl; (repeat (first | exact Has.head | apply Has.tail)); (first | rfl | (simp [takeV]; done))) | ((with_reducible apply l_build); rfl; (simp [fillL, splice, Value.cells, Act.eval]; rfl)) | ((with_reducible apply l_buildA); rfl; (simp [fillL, splice, Value.cells, Act.eval]; rfl)) | ((with_reducible apply l_bslice); assumption; rfl; rfl; (first | (simp [fillL, splice, zeros, Value.cells, Act.eval]; rfl) | rfl); clear hS; intro b w hS) | ((with_reducible apply l_storeF); assumption; rfl; rfl; (repeat (first | exact Upd.head | apply Upd.tail)); rfl; clear hS; intro w hS) | ((with_reducible apply l_store); assumption; rfl; rfl; (repeat (first | exact Upd.head | apply Upd.tail)); rfl; clear hS; intro w hS; simp only [splice] at hS; try rw [splice_nil] at hS))
  go_ret
  exact ⟨rfl, hS.fr⟩
theorem right_s4 (w0 : World) (id ty da : List UInt8) (g : id.length + ty.length + da.length ≤ 65536)
    (ha1 : ∀ W, Calls Tryz.prog 110 #[txt id, txt [0, 13, 10]] W fun e w' => e = .returned (.bool false) ∧ Fr [] W w')
    (ha2 : ∀ W, Calls Tryz.prog 110 #[txt ty, txt [13, 10]] W fun e w' => e = .returned (.bool false) ∧ Fr [] W w')
    (ha3 : ∀ W, Calls Tryz.prog 110 #[txt da, txt [13]] W fun e w' => e = .returned (.bool false) ∧ Fr [] W w')
    (hs1 : ∀ W, Calls Tryz.prog 111 #[txt id] W fun e w' => e = .returned (.bool true) ∧ Fr [] W w')
    (hs2 : ∀ W, Calls Tryz.prog 111 #[txt ty] W fun e w' => e = .returned (.bool false) ∧ Fr [] W w') :
    Calls Tryz.prog 27 #[.agg ⟨[txt id, txt ty, txt da]⟩] w0 fun e w' => e = .returned (.bool false) ∧ Fr [] w0 w' := by
  have fa : decide ((65536 : Int) < (id.length : Int)) = false := by simp; omega
  have fb : decide ((65536 : Int) < (ty.length : Int)) = false := by simp; omega
  have fc : decide ((65536 : Int) < (da.length : Int)) = false := by simp; omega
  have fs : decide ((65536 : Int) < (id.length : Int) + (ty.length : Int) + (da.length : Int)) = false := by simp; omega
  have Ha1 := Lib.hid ha1
  have Ha2 := Lib.hid ha2
  have Ha3 := Lib.hid ha3
  have Hs1 := Lib.hid hs1
  have Hs2 := Lib.hid hs2
  clear ha1 ha2 ha3 hs1 hs2
  go_enter Tryz.func27, Tryz.ntmps27
  have hS := St.start [] w0
  go_wp2_with (first | ((with_reducible apply l_want); rfl) | (go_at_call 110; refine (Ha1.out _).mono ?_; rintro en w1 ⟨rfl, hf1⟩; replace hS := hS.keep hf1) | (go_at_call 110; refine (Ha2.out _).mono ?_; rintro en w1 ⟨rfl, hf1⟩; replace hS := hS.keep hf1) | (go_at_call 110; refine (Ha3.out _).mono ?_; rintro en w1 ⟨rfl, hf1⟩; replace hS := hS.keep hf1) | (go_at_call 111; refine (Hs1.out _).mono ?_; rintro en w1 ⟨rfl, hf1⟩; replace hS := hS.keep hf1) | (go_at_call 111; refine (Hs2.out _).mono ?_; rintro en w1 ⟨rfl, hf1⟩; replace hS := hS.keep hf1) | ((with_reducible apply l_alloc); assumption; rfl; clear hS; intro b w hS) | ((with_reducible apply l_box); assumption; rfl; clear hS; intro b w hS) | ((with_reducible apply l_load); assumption; rfl; (repeat (first | exact Has.head | apply Has.tail)); (first | rfl | (simp [takeV]; done))) | ((with_reducible apply l_build); rfl; (simp [fillL, splice, Value.cells, Act.eval]; rfl)) | ((with_reducible apply l_buildA); rfl; (simp [fillL, splice, Value.cells, Act.eval]; rfl)) | ((with_reducible apply l_bslice); assumption; rfl; rfl; (first | (simp [fillL, splice, zeros, Value.cells, Act.eval]; rfl) | rfl); clear hS; intro b w hS) | ((with_reducible apply l_storeF); assumption; rfl; rfl; (repeat (first | exact Upd.head | apply Upd.tail)); rfl; clear hS; intro w hS) | ((with_reducible apply l_store); assumption; rfl; rfl; (repeat (first | exact Upd.head | apply Upd.tail)); rfl; clear hS; intro w hS; simp only [splice] at hS; try rw [splice_nil] at hS))
  go_ret
  exact ⟨rfl, hS.fr⟩
theorem right_s5 (w0 : World) (id ty da : List UInt8) (g : id.length + ty.length + da.length ≤ 65536)
    (ha1 : ∀ W, Calls Tryz.prog 110 #[txt id, txt [0, 13, 10]] W fun e w' => e = .returned (.bool false) ∧ Fr [] W w')
    (ha2 : ∀ W, Calls Tryz.prog 110 #[txt ty, txt [13, 10]] W fun e w' => e = .returned (.bool false) ∧ Fr [] W w')
    (ha3 : ∀ W, Calls Tryz.prog 110 #[txt da, txt [13]] W fun e w' => e = .returned (.bool false) ∧ Fr [] W w')
    (hs1 : ∀ W, Calls Tryz.prog 111 #[txt id] W fun e w' => e = .returned (.bool true) ∧ Fr [] W w')
    (hs2 : ∀ W, Calls Tryz.prog 111 #[txt ty] W fun e w' => e = .returned (.bool true) ∧ Fr [] W w')
    (hs3 : ∀ W, Calls Tryz.prog 111 #[txt da] W fun e w' => e = .returned (.bool false) ∧ Fr [] W w') :
    Calls Tryz.prog 27 #[.agg ⟨[txt id, txt ty, txt da]⟩] w0 fun e w' => e = .returned (.bool false) ∧ Fr [] w0 w' := by
  have fa : decide ((65536 : Int) < (id.length : Int)) = false := by simp; omega
  have fb : decide ((65536 : Int) < (ty.length : Int)) = false := by simp; omega
  have fc : decide ((65536 : Int) < (da.length : Int)) = false := by simp; omega
  have fs : decide ((65536 : Int) < (id.length : Int) + (ty.length : Int) + (da.length : Int)) = false := by simp; omega
  have Ha1 := Lib.hid ha1
  have Ha2 := Lib.hid ha2
  have Ha3 := Lib.hid ha3
  have Hs1 := Lib.hid hs1
  have Hs2 := Lib.hid hs2
  have Hs3 := Lib.hid hs3
  clear ha1 ha2 ha3 hs1 hs2 hs3
  go_enter Tryz.func27, Tryz.ntmps27
  have hS := St.start [] w0
  go_wp2_with (first | ((with_reducible apply l_want); rfl) | (go_at_call 110; refine (Ha1.out _).mono ?_; rintro en w1 ⟨rfl, hf1⟩; replace hS := hS.keep hf1) | (go_at_call 110; refine (Ha2.out _).mono ?_; rintro en w1 ⟨rfl, hf1⟩; replace hS := hS.keep hf1) | (go_at_call 110; refine (Ha3.out _).mono ?_; rintro en w1 ⟨rfl, hf1⟩; replace hS := hS.keep hf1) | (go_at_call 111; refine (Hs1.out _).mono ?_; rintro en w1 ⟨rfl, hf1⟩; replace hS := hS.keep hf1) | (go_at_call 111; refine (Hs2.out _).mono ?_; rintro en w1 ⟨rfl, hf1⟩; replace hS := hS.keep hf1) | (go_at_call 111; refine (Hs3.out _).mono ?_; rintro en w1 ⟨rfl, hf1⟩; replace hS := hS.keep hf1) | ((with_reducible apply l_alloc); assumption; rfl; clear hS; intro b w hS) | ((with_reducible apply l_box); assumption; rfl; clear hS; intro b w hS) | ((with_reducible apply l_load); assumption; rfl; (repeat (first | exact Has.head | apply Has.tail)); (first | rfl | (simp [takeV]; done))) | ((with_reducible apply l_build); rfl; (simp [fillL, splice, Value.cells, Act.eval]; rfl)) | ((with_reducible apply l_buildA); rfl; (simp [fillL, splice, Value.cells, Act.eval]; rfl)) | ((with_reducible apply l_bslice); assumption; rfl; rfl; (first | (simp [fillL, splice, zeros, Value.cells, Act.eval]; rfl) | rfl); clear hS; intro b w hS) | ((with_reducible apply l_storeF); assumption; rfl; rfl; (repeat (first | exact Upd.head | apply Upd.tail)); rfl; clear hS; intro w hS) | ((with_reducible apply l_store); assumption; rfl; rfl; (repeat (first | exact Upd.head | apply Upd.tail)); rfl; clear hS; intro w hS; simp only [splice] at hS; try rw [splice_nil] at hS))
  go_ret
  exact ⟨rfl, hS.fr⟩
theorem right_s6 (w0 : World) (id ty da : List UInt8) (g : id.length + ty.length + da.length ≤ 65536)
    (ha1 : ∀ W, Calls Tryz.prog 110 #[txt id, txt [0, 13, 10]] W fun e w' => e = .returned (.bool false) ∧ Fr [] W w')
    (ha2 : ∀ W, Calls Tryz.prog 110 #[txt ty, txt [13, 10]] W fun e w' => e = .returned (.bool false) ∧ Fr [] W w')
    (ha3 : ∀ W, Calls Tryz.prog 110 #[txt da, txt [13]] W fun e w' => e = .returned (.bool false) ∧ Fr [] W w')
    (hs1 : ∀ W, Calls Tryz.prog 111 #[txt id] W fun e w' => e = .returned (.bool true) ∧ Fr [] W w')
    (hs2 : ∀ W, Calls Tryz.prog 111 #[txt ty] W fun e w' => e = .returned (.bool true) ∧ Fr [] W w')
    (hs3 : ∀ W, Calls Tryz.prog 111 #[txt da] W fun e w' => e = .returned (.bool true) ∧ Fr [] W w') :
    Calls Tryz.prog 27 #[.agg ⟨[txt id, txt ty, txt da]⟩] w0 fun e w' => e = .returned (.bool true) ∧ Fr [] w0 w' := by
  have fa : decide ((65536 : Int) < (id.length : Int)) = false := by simp; omega
  have fb : decide ((65536 : Int) < (ty.length : Int)) = false := by simp; omega
  have fc : decide ((65536 : Int) < (da.length : Int)) = false := by simp; omega
  have fs : decide ((65536 : Int) < (id.length : Int) + (ty.length : Int) + (da.length : Int)) = false := by simp; omega
  have Ha1 := Lib.hid ha1
  have Ha2 := Lib.hid ha2
  have Ha3 := Lib.hid ha3
  have Hs1 := Lib.hid hs1
  have Hs2 := Lib.hid hs2
  have Hs3 := Lib.hid hs3
  clear ha1 ha2 ha3 hs1 hs2 hs3
  go_enter Tryz.func27, Tryz.ntmps27
  have hS := St.start [] w0
  go_wp2_with (first | ((with_reducible apply l_want); rfl) | (go_at_call 110; refine (Ha1.out _).mono ?_; rintro en w1 ⟨rfl, hf1⟩; replace hS := hS.keep hf1) | (go_at_call 110; refine (Ha2.out _).mono ?_; rintro en w1 ⟨rfl, hf1⟩; replace hS := hS.keep hf1) | (go_at_call 110; refine (Ha3.out _).mono ?_; rintro en w1 ⟨rfl, hf1⟩; replace hS := hS.keep hf1) | (go_at_call 111; refine (Hs1.out _).mono ?_; rintro en w1 ⟨rfl, hf1⟩; replace hS := hS.keep hf1) | (go_at_call 111; refine (Hs2.out _).mono ?_; rintro en w1 ⟨rfl, hf1⟩; replace hS := hS.keep hf1) | (go_at_call 111; refine (Hs3.out _).mono ?_; rintro en w1 ⟨rfl, hf1⟩; replace hS := hS.keep hf1) | ((with_reducible apply l_alloc); assumption; rfl; clear hS; intro b w hS) | ((with_reducible apply l_box); assumption; rfl; clear hS; intro b w hS) | ((with_reducible apply l_load); assumption; rfl; (repeat (first | exact Has.head | apply Has.tail)); (first | rfl | (simp [takeV]; done))) | ((with_reducible apply l_build); rfl; (simp [fillL, splice, Value.cells, Act.eval]; rfl)) | ((with_reducible apply l_buildA); rfl; (simp [fillL, splice, Value.cells, Act.eval]; rfl)) | ((with_reducible apply l_bslice); assumption; rfl; rfl; (first | (simp [fillL, splice, zeros, Value.cells, Act.eval]; rfl) | rfl); clear hS; intro b w hS) | ((with_reducible apply l_storeF); assumption; rfl; rfl; (repeat (first | exact Upd.head | apply Upd.tail)); rfl; clear hS; intro w hS) | ((with_reducible apply l_store); assumption; rfl; rfl; (repeat (first | exact Upd.head | apply Upd.tail)); rfl; clear hS; intro w hS; simp only [splice] at hS; try rw [splice_nil] at hS))
  go_ret
  exact ⟨rfl, hS.fr⟩
theorem rightQ_all (e : Ev) : rightQ e = (decide (e.id.length + e.ty.length + e.da.length ≤ 65536) && (!hasP e.id [0, 13, 10] && !hasP e.ty [13, 10] && !hasP e.da [13] && sound e.id && sound e.ty && sound e.da)) := by
  unfold rightQ textP
  cases decide (e.id.length + e.ty.length + e.da.length ≤ 65536) <;> cases hasP e.id [0, 13, 10] <;> cases hasP e.ty [13, 10] <;> cases hasP e.da [13] <;> cases sound e.id <;> cases sound e.ty <;> cases sound e.da <;> rfl
/-- May an event be? As the document says. -/
theorem right_c (w0 : World) (e : Ev) (g0 : e.id.length + e.ty.length + e.da.length ≤ 65536) :
    Calls Tryz.prog 27 #[e.v] w0 fun en w' => en = .returned (.bool (rightQ e)) ∧ Fr [] w0 w' := by
  obtain ⟨id, ty, da⟩ := e
  have g : id.length + ty.length + da.length ≤ 65536 := g0
  have h0 : id.length ≤ 1099511627776 := by omega
  have h1 : ty.length ≤ 1099511627776 := by omega
  have h2 : da.length ≤ 1099511627776 := by omega
  rw [rightQ_all]
  simp only
  rw [decide_eq_true g, Bool.true_and]
  have ha1 := fun W => has_c W id [0, 13, 10] h0 (by decide)
  have ha2 := fun W => has_c W ty [13, 10] h1 (by decide)
  have ha3 := fun W => has_c W da [13] h2 (by decide)
  have hs1 := fun W => sound_u W id h0
  have hs2 := fun W => sound_u W ty h1
  have hs3 := fun W => sound_u W da h2
  cases e1 : hasP id [0, 13, 10] with
  | true => rw [e1] at ha1; exact right_s0 w0 id ty da g ha1
  | false =>
    rw [e1] at ha1
    cases e2 : hasP ty [13, 10] with
    | true => rw [e2] at ha2; exact right_s1 w0 id ty da g ha1 ha2
    | false =>
      rw [e2] at ha2
      cases e3 : hasP da [13] with
      | true => rw [e3] at ha3; exact right_s2 w0 id ty da g ha1 ha2 ha3
      | false =>
        rw [e3] at ha3
        cases e4 : sound id with
        | false => rw [e4] at hs1; exact right_s3 w0 id ty da g ha1 ha2 ha3 hs1
        | true =>
          rw [e4] at hs1
          cases e5 : sound ty with
          | false => rw [e5] at hs2; exact right_s4 w0 id ty da g ha1 ha2 ha3 hs1 hs2
          | true =>
            rw [e5] at hs2
            cases e6 : sound da with
            | false => rw [e6] at hs3; exact right_s5 w0 id ty da g ha1 ha2 ha3 hs1 hs2 hs3
            | true => rw [e6] at hs3; exact right_s6 w0 id ty da g ha1 ha2 ha3 hs1 hs2 hs3
theorem slice_mid (l : List UInt8) (a b : Nat) (h : a ≤ b) (h2 : b ≤ l.length) (W : World) : (Instr.sliceAt 9 (txt l) (some (.int .i64 (a : Int))) (some (.int .i64 (b : Int))) none).run Tryz.prog W = .ok (txt ((l.take b).drop a)) W := by
  have hu : Tryz.prog.underlying 9 = some .string := Str.str
  have e : (ByteArray.mk l.toArray).extract a b = ⟨((l.take b).drop a).toArray⟩ := extract_mk l a b
  have h3 : (a : Int) ≤ (b : Int) := by omega
  have h4 : (b : Int) ≤ (l.length : Int) := by omega
  simp [go_sem, hu, size_mk, e, h3, h4]
theorem piece_hit (c : UInt8) (s : List UInt8) (f i : Nat) (h1 : f ≤ i) (hx : s[i]? = some c) (hn : c ∉ (s.drop f).take (i - f)) : splitP c (s.drop f) = (s.take i).drop f :: splitP c (s.drop (i + 1)) := by
  obtain ⟨hi, hx2⟩ := List.getElem?_eq_some_iff.1 hx
  have e : s.drop f = (s.take i).drop f ++ c :: s.drop (i + 1) := by
    have h2 : s = s.take i ++ c :: s.drop (i + 1) := by
      conv => lhs; rw [← List.take_append_drop i s, List.drop_eq_getElem_cons hi, hx2]
    conv => lhs; rw [h2]
    rw [List.drop_append_of_le_length (by rw [List.length_take]; omega)]
  have hn2 : c ∉ (s.take i).drop f := by rwa [List.drop_take] 
  conv => lhs; rw [e]
  exact splitP_at c _ _ hn2
theorem piece_on (c x : UInt8) (s : List UInt8) (f i : Nat) (h1 : f ≤ i) (hx : s[i]? = some x) (hne : x ≠ c) (hn : c ∉ (s.drop f).take (i - f)) : c ∉ (s.drop f).take (i + 1 - f) := by
  obtain ⟨hi, hx2⟩ := List.getElem?_eq_some_iff.1 hx
  have e : i + 1 - f = (i - f) + 1 := by omega
  have h3 : i - f < (s.drop f).length := by rw [List.length_drop]; omega
  rw [e, List.take_succ_eq_append_getElem h3]
  have h4 : (s.drop f)[i - f] = x := by
    rw [List.getElem_drop]
    have : f + (i - f) = i := by omega
    simp only [this]
    exact hx2
  rw [h4]
  simp only [List.mem_append, List.mem_singleton, not_or]
  exact ⟨hn, fun h => hne h.symm⟩
theorem parts_u (w0 : World) (s : List UInt8) (c : UInt8) (n : Int) (hn : n = (c.toNat : Int)) (hl : s.length ≤ 1099511627776) :
    Calls Tryz.prog 130 #[txt s, .int .u8 n] w0 fun e w' => ∃ v, e = .returned v ∧ St [] w0 w' [own 9 1 v (splitP c s).length (sv (splitP c s))] := by
  subst hn
  obtain ⟨R, hR⟩ : ∃ R, R = splitP c s := ⟨_, rfl⟩
  rw [← hR]
  have HR := Lib.hid hR
  clear hR
  go_enter Tryz.func130, Tryz.ntmps130
  have hS := (St.start [] w0).addNil (c' := own 9 1 (.slice none 0 0) 0 []) (ownNil _ _ _) rfl
  go_wp2_with (first | ((with_reducible apply l_want); rfl) | ((with_reducible apply l_alloc); assumption; rfl; clear hS; intro b w hS) | ((with_reducible apply l_box); assumption; rfl; clear hS; intro b w hS) | ((with_reducible apply l_load); assumption; rfl; (repeat (first | exact Has.head | apply Has.tail)); (first | rfl | (simp [takeV]; done))) | ((with_reducible apply l_build); rfl; (simp [fillL, splice, Value.cells, Act.eval]; rfl)) | ((with_reducible apply l_buildA); rfl; (simp [fillL, splice, Value.cells, Act.eval]; rfl)) | ((with_reducible apply l_bslice); assumption; rfl; rfl; (first | (simp [fillL, splice, zeros, Value.cells, Act.eval]; rfl) | rfl); clear hS; intro b w hS) | ((with_reducible apply l_storeF); assumption; rfl; rfl; (repeat (first | exact Upd.head | apply Upd.tail)); rfl; clear hS; intro w hS) | ((with_reducible apply l_store); assumption; rfl; rfl; (repeat (first | exact Upd.head | apply Upd.tail)); rfl; clear hS; intro w hS; simp only [splice] at hS; try rw [splice_nil] at hS))
  go_loopg [5, 6, 7] (s.length + 1) (fun g t5 t6 t7 wr => ∃ (i f : Nat) (done : List (List UInt8)), i + g = s.length + 1 ∧ t7 = .int .i64 (i : Int) ∧ t6 = .int .i64 (f : Int) ∧ done.length ≤ i ∧ (i ≤ s.length → f ≤ i) ∧ Hid (i ≤ s.length → R = done ++ splitP c (s.drop f) ∧ c ∉ (s.drop f).take (i - f)) ∧ Hid (s.length < i → R = done) ∧ St [] w0 wr [own 9 1 t5 done.length (sv done)])
  case atStart => exact ⟨0, 0, [], by omega, rfl, rfl, by simp, by omega, Lib.hid (fun _ => ⟨by simpa using HR.out, by simp⟩), Lib.hid (fun h => by omega), hS⟩
  case round =>
    obtain ⟨i, f, done, hig, rfl, rfl, hdl, hfi, HT, HE, hS⟩ := hrel
    by_cases hi : i < s.length
    · have hf := hfi (by omega)
      have h2 := HT.out (by omega)
      obtain ⟨x, hx⟩ : ∃ x, s[i]? = some x := ⟨_, List.getElem?_eq_getElem hi⟩
      have hgx := getElem_mk s i x hx
      have hle : decide ((i : Int) ≤ (s.length : Int)) = true := by simp; omega
      have heq : ((i : Int) == (s.length : Int)) = false := by simp; omega
      by_cases hxc : x = c
      · subst hxc
        have hsl := slice_mid s f i hf (by omega)
        have hp := piece_hit x s f i hf hx h2.2
        obtain ⟨pc, hpc⟩ : ∃ pc, pc = (s.take i).drop f := ⟨_, rfl⟩
        rw [← hpc] at hsl hp
        have HN : Hid (R = (done ++ [pc]) ++ splitP x (s.drop (i + 1))) := Lib.hid (by rw [h2.1, hp]; simp)
        clear hx h2 hp hpc HT HE
        go_wp2_with (first | ((with_reducible apply l_want); rfl) | ((with_reducible apply l_append); assumption; rfl; rfl; (intro v'; (repeat (first | exact Upd.head | apply Upd.tail))); rfl; exact RdS.of_row (hS.get (by exact Has.head)) 1 1 rfl (Nat.le_refl _); simp [Value.oneCell']; omega; omega; clear hS; intro v' w hS hnil) | ((with_reducible apply l_alloc); assumption; rfl; clear hS; intro b w hS) | ((with_reducible apply l_box); assumption; rfl; clear hS; intro b w hS) | ((with_reducible apply l_load); assumption; rfl; (repeat (first | exact Has.head | apply Has.tail)); (first | rfl | (simp [takeV]; done))) | ((with_reducible apply l_build); rfl; (simp [fillL, splice, Value.cells, Act.eval]; rfl)) | ((with_reducible apply l_buildA); rfl; (simp [fillL, splice, Value.cells, Act.eval]; rfl)) | ((with_reducible apply l_bslice); assumption; rfl; rfl; (first | (simp [fillL, splice, zeros, Value.cells, Act.eval]; rfl) | rfl); clear hS; intro b w hS) | ((with_reducible apply l_storeF); assumption; rfl; rfl; (repeat (first | exact Upd.head | apply Upd.tail)); rfl; clear hS; intro w hS) | ((with_reducible apply l_store); assumption; rfl; rfl; (repeat (first | exact Upd.head | apply Upd.tail)); rfl; clear hS; intro w hS; simp only [splice] at hS; try rw [splice_nil] at hS))
        replace hS := hS.sub (L' := [own 9 1 v' (done.length + 1) (sv done ++ [txt pc])]) (by (repeat (first | exact List.Sublist.slnil | exact List.Sublist.refl _ | apply List.Sublist.cons_cons | apply List.Sublist.cons)))
        go_roundg (s.length + 1 - (i + 1))
        case measure => omega
        case rel => exact ⟨i + 1, i + 1, done ++ [pc], by omega, by go_num, by go_num, by simp; omega, by omega, Lib.hid (fun _ => ⟨HN.out, by simp⟩), Lib.hid (fun h => by omega), by rw [List.length_append, sv_append]; exact hS⟩
      · have hne : ((x.toNat : Int) == (c.toNat : Int)) = false := by
          simp only [beq_eq_false_iff_ne, ne_eq]
          intro h
          exact hxc (UInt8.toNat_inj.1 (by omega))
        have HN : Hid (R = done ++ splitP c (s.drop f) ∧ c ∉ (s.drop f).take (i + 1 - f)) := Lib.hid ⟨h2.1, piece_on c x s f i hf hx hxc h2.2⟩
        clear hx h2 HT HE hxc
        go_wp2_with (first | ((with_reducible apply l_want); rfl) | ((with_reducible apply l_alloc); assumption; rfl; clear hS; intro b w hS) | ((with_reducible apply l_box); assumption; rfl; clear hS; intro b w hS) | ((with_reducible apply l_load); assumption; rfl; (repeat (first | exact Has.head | apply Has.tail)); (first | rfl | (simp [takeV]; done))) | ((with_reducible apply l_build); rfl; (simp [fillL, splice, Value.cells, Act.eval]; rfl)) | ((with_reducible apply l_buildA); rfl; (simp [fillL, splice, Value.cells, Act.eval]; rfl)) | ((with_reducible apply l_bslice); assumption; rfl; rfl; (first | (simp [fillL, splice, zeros, Value.cells, Act.eval]; rfl) | rfl); clear hS; intro b w hS) | ((with_reducible apply l_storeF); assumption; rfl; rfl; (repeat (first | exact Upd.head | apply Upd.tail)); rfl; clear hS; intro w hS) | ((with_reducible apply l_store); assumption; rfl; rfl; (repeat (first | exact Upd.head | apply Upd.tail)); rfl; clear hS; intro w hS; simp only [splice] at hS; try rw [splice_nil] at hS))
        go_roundg (s.length + 1 - (i + 1))
        case measure => omega
        case rel => exact ⟨i + 1, f, done, by omega, by go_num, by go_num, by omega, by omega, Lib.hid (fun _ => HN.out), Lib.hid (fun h => by omega), hS⟩
    · by_cases hie : i = s.length
      · have hf := hfi (by omega)
        have h2 := HT.out (by omega)
        have hle : decide ((i : Int) ≤ (s.length : Int)) = true := by simp; omega
        have heq : ((i : Int) == (s.length : Int)) = true := by simp; omega
        have hsl := slice_mid s f i hf (by omega)
        have hnp : c ∉ s.drop f := by
          have := h2.2
          rwa [List.take_of_length_le (by rw [List.length_drop]; omega)] at this
        have hpc0 : (s.take i).drop f = s.drop f := by rw [hie, List.take_length]
        obtain ⟨pc, hpc⟩ : ∃ pc, pc = s.drop f := ⟨_, rfl⟩
        rw [hpc0, ← hpc] at hsl
        have HN : Hid (R = done ++ [pc]) := Lib.hid (by rw [h2.1, splitP_no c _ hnp, hpc])
        have hdl2 : done.length ≤ 1099511627776 := by omega
        clear h2 hnp hpc0 hpc HT HE
        have hlt : s.length < i + 1 := by omega
        have hm : 0 < gk ∧ i + 1 + (gk - 1) = s.length + 1 := by omega
        have hib : i ≤ 1099511627776 := by omega
        clear hie hig hi hfi hl
        go_wp2_with (first | ((with_reducible apply l_want); rfl) | ((with_reducible apply l_append); assumption; rfl; rfl; (intro v'; (repeat (first | exact Upd.head | apply Upd.tail))); rfl; exact RdS.of_row (hS.get (by exact Has.head)) 1 1 rfl (Nat.le_refl _); simp [Value.oneCell']; omega; omega; clear hS; intro v' w hS hnil) | ((with_reducible apply l_alloc); assumption; rfl; clear hS; intro b w hS) | ((with_reducible apply l_box); assumption; rfl; clear hS; intro b w hS) | ((with_reducible apply l_load); assumption; rfl; (repeat (first | exact Has.head | apply Has.tail)); (first | rfl | (simp [takeV]; done))) | ((with_reducible apply l_build); rfl; (simp [fillL, splice, Value.cells, Act.eval]; rfl)) | ((with_reducible apply l_buildA); rfl; (simp [fillL, splice, Value.cells, Act.eval]; rfl)) | ((with_reducible apply l_bslice); assumption; rfl; rfl; (first | (simp [fillL, splice, zeros, Value.cells, Act.eval]; rfl) | rfl); clear hS; intro b w hS) | ((with_reducible apply l_storeF); assumption; rfl; rfl; (repeat (first | exact Upd.head | apply Upd.tail)); rfl; clear hS; intro w hS) | ((with_reducible apply l_store); assumption; rfl; rfl; (repeat (first | exact Upd.head | apply Upd.tail)); rfl; clear hS; intro w hS; simp only [splice] at hS; try rw [splice_nil] at hS))
        replace hS := hS.sub (L' := [own 9 1 v' (done.length + 1) (sv done ++ [txt pc])]) (by (repeat (first | exact List.Sublist.slnil | exact List.Sublist.refl _ | apply List.Sublist.cons_cons | apply List.Sublist.cons)))
        go_roundg (gk - 1)
        case measure => omega
        case rel => exact ⟨i + 1, i + 1, done ++ [pc], hm.2, by go_num, by go_num, by simp; omega, by omega, Lib.hid (fun h => by omega), Lib.hid (fun _ => HN.out), by rw [List.length_append, sv_append]; exact hS⟩
      · have HN : Hid (R = done) := Lib.hid (HE.out (by omega))
        have hle : decide ((i : Int) ≤ (s.length : Int)) = false := by simp; omega
        clear HT HE
        go_wp2_with (first | ((with_reducible apply l_want); rfl) | ((with_reducible apply l_alloc); assumption; rfl; clear hS; intro b w hS) | ((with_reducible apply l_box); assumption; rfl; clear hS; intro b w hS) | ((with_reducible apply l_load); assumption; rfl; (repeat (first | exact Has.head | apply Has.tail)); (first | rfl | (simp [takeV]; done))) | ((with_reducible apply l_build); rfl; (simp [fillL, splice, Value.cells, Act.eval]; rfl)) | ((with_reducible apply l_buildA); rfl; (simp [fillL, splice, Value.cells, Act.eval]; rfl)) | ((with_reducible apply l_bslice); assumption; rfl; rfl; (first | (simp [fillL, splice, zeros, Value.cells, Act.eval]; rfl) | rfl); clear hS; intro b w hS) | ((with_reducible apply l_storeF); assumption; rfl; rfl; (repeat (first | exact Upd.head | apply Upd.tail)); rfl; clear hS; intro w hS) | ((with_reducible apply l_store); assumption; rfl; rfl; (repeat (first | exact Upd.head | apply Upd.tail)); rfl; clear hS; intro w hS; simp only [splice] at hS; try rw [splice_nil] at hS))
        go_ret
        refine ⟨_, rfl, ?_⟩
        rw [HN.out]
        exact hS
theorem tl0_line (v : List UInt8) : tl0 v = lineP ⟨5, [105, 100], v⟩ := by
  unfold tl0 toldP
  rw [if_pos (of_name 5 [105, 100] v (by decide) (by decide) (by decide) (by decide)).2]
theorem tl1_line (v : List UInt8) : tl1 v = lineP ⟨4, [101, 118, 101, 110, 116], v⟩ := by
  unfold tl1 toldP
  rw [if_pos (of_name 4 [101, 118, 101, 110, 116] v (by decide) (by decide) (by decide) (by decide)).2]
theorem tl2_line (v : List UInt8) : tl2 v = lineP ⟨3, [100, 97, 116, 97], v⟩ := by
  unfold tl2 toldP
  rw [if_pos (of_name 3 [100, 97, 116, 97] v (by decide) (by decide) (by decide) (by decide)).2]
theorem rl0_c (w0 : World) (v : List UInt8) (hv : v.length ≤ 1099511627776) : Calls Tryz.prog 167 #[.agg ⟨[.int .i64 5, txt [105, 100], txt v]⟩] w0 fun e w' => e = .returned (txt (tl0 v)) ∧ Fr [] w0 w' := by
  rw [tl0_line]
  exact rline_c w0 5 [105, 100] v (by decide) hv
theorem rl1_c (w0 : World) (v : List UInt8) (hv : v.length ≤ 1099511627776) : Calls Tryz.prog 167 #[.agg ⟨[.int .i64 4, txt [101, 118, 101, 110, 116], txt v]⟩] w0 fun e w' => e = .returned (txt (tl1 v)) ∧ Fr [] w0 w' := by
  rw [tl1_line]
  exact rline_c w0 4 [101, 118, 101, 110, 116] v (by decide) hv
theorem rl2_c (w0 : World) (v : List UInt8) (hv : v.length ≤ 1099511627776) : Calls Tryz.prog 167 #[.agg ⟨[.int .i64 3, txt [100, 97, 116, 97], txt v]⟩] w0 fun e w' => e = .returned (txt (tl2 v)) ∧ Fr [] w0 w' := by
  rw [tl2_line]
  exact rline_c w0 3 [100, 97, 116, 97] v (by decide) hv
theorem rlines_n (w0 : World) (e : Ev) (hsm : e.id.length + e.ty.length + e.da.length ≤ 65536) (hq : rightQ e = false) :
    Calls Tryz.prog 85 #[e.v] w0 fun en w' => en = .returned (.slice none 0 0) ∧ Fr [] w0 w' := by
  have hr := fun W => right_c W e hsm
  rw [hq] at hr
  have Hr := Lib.hid hr
  clear hr hq
  change Calls Tryz.prog 85 #[.agg ⟨[txt e.id, txt e.ty, txt e.da]⟩] w0 _
  go_enter Tryz.func85, Tryz.ntmps85
  have hS := St.start [] w0
  go_wp2_with (first | ((with_reducible apply l_want); rfl) | (go_at_call 27; go_must (refine (Hr.out _).mono ?_); rintro en w1 ⟨rfl, hf1⟩; replace hS := hS.keep hf1) | ((with_reducible apply l_alloc); assumption; rfl; clear hS; intro b w hS) | ((with_reducible apply l_box); assumption; rfl; clear hS; intro b w hS) | ((with_reducible apply l_load); assumption; rfl; (repeat (first | exact Has.head | apply Has.tail)); (first | rfl | (simp [takeV]; done))) | ((with_reducible apply l_build); rfl; (simp [fillL, splice, Value.cells, Act.eval]; rfl)) | ((with_reducible apply l_buildA); rfl; (simp [fillL, splice, Value.cells, Act.eval]; rfl)) | ((with_reducible apply l_bslice); assumption; rfl; rfl; (first | (simp [fillL, splice, zeros, Value.cells, Act.eval]; rfl) | rfl); clear hS; intro b w hS) | ((with_reducible apply l_storeF); assumption; rfl; rfl; (repeat (first | exact Upd.head | apply Upd.tail)); rfl; clear hS; intro w hS) | ((with_reducible apply l_store); assumption; rfl; rfl; (repeat (first | exact Upd.head | apply Upd.tail)); rfl; clear hS; intro w hS; simp only [splice] at hS; try rw [splice_nil] at hS))
  go_ret
  exact ⟨rfl, hS.fr⟩
theorem rlines_nn (w0 : World)  (da : List UInt8) (hsm : ([] : List UInt8).length + ([] : List UInt8).length + da.length ≤ 65536) (hr : ∀ W, Calls Tryz.prog 27 #[.agg ⟨[txt ([] : List UInt8), txt ([] : List UInt8), txt da]⟩] W fun en w' => en = .returned (.bool true) ∧ Fr [] W w') :
    Calls Tryz.prog 85 #[.agg ⟨[txt ([] : List UInt8), txt ([] : List UInt8), txt da]⟩] w0 fun en w' => ∃ v, en = .returned v ∧ St [] w0 w' [own 9 1 v ([] ++ (splitP 10 da).map tl2 ++ [[]]).length (sv ([] ++ (splitP 10 da).map tl2 ++ [[]]))] := by
  have Hr := Lib.hid hr
  clear hr
  have hpl := splitP_len 10 da
  have hps : (splitP 10 da).length ≤ 65537 := by
    have := hpl.2
    simp only [List.length_cons, List.length_nil] at hsm
    omega
  have hpx : ∀ x ∈ splitP 10 da, x.length ≤ 65536 := fun x hx => by
    have := hpl.1 x hx
    simp only [List.length_cons, List.length_nil] at hsm
    omega
  have hpu := fun W => parts_u W da 10 10 rfl (by simp only [List.length_cons, List.length_nil] at hsm; omega)
  obtain ⟨RL, hRL⟩ : ∃ RL, RL = [] ++ (splitP 10 da).map tl2 ++ [[]] := ⟨_, rfl⟩
  rw [← hRL]
  obtain ⟨P, hP⟩ : ∃ P, P = splitP 10 da := ⟨_, rfl⟩
  rw [← hP] at hpu hps hpx hRL
  have HRL := Lib.hid hRL
  have Hpu := Lib.hid hpu
  have Hpx := Lib.hid hpx
  simp only [List.length_cons, List.length_nil] at hsm
  clear hpl hpx hpu hRL hP
  go_enter Tryz.func85, Tryz.ntmps85
  have hS := (St.start [] w0).addNil (c' := own 9 1 (.slice none 0 0) 0 []) (ownNil _ _ _) rfl
  go_wp2_with (first | ((with_reducible apply l_want); rfl) | (go_at_call 27; go_must (refine (Hr.out _).mono ?_); rintro en w1 ⟨rfl, hf1⟩; replace hS := hS.keep hf1) | (go_at_call 130; go_must (refine (Hpu.out _).mono ?_); rintro en w1 ⟨vp, rfl, hT⟩; replace hS := hS.join hT; obtain ⟨AP, cp, rfl, hcp⟩ := (RdS.of_own (hT.get (c := own 9 1 vp P.length (sv P)) (by exact Has.head))).shape; clear hT) | ((with_reducible apply l_append); assumption; rfl; rfl; (intro v'; (repeat (first | exact Upd.head | apply Upd.tail))); rfl; exact RdS.of_row (hS.get (by exact Has.head)) 1 1 rfl (Nat.le_refl _); simp [Value.oneCell']; (first | omega | (simp; done) | (simp; omega)); (first | omega | (simp; done) | (simp; omega)); clear hS; intro v' w hS hnil) | ((with_reducible apply l_alloc); assumption; rfl; clear hS; intro b w hS) | ((with_reducible apply l_box); assumption; rfl; clear hS; intro b w hS) | ((with_reducible apply l_load); assumption; rfl; (repeat (first | exact Has.head | apply Has.tail)); (first | rfl | (simp [takeV]; done))) | ((with_reducible apply l_build); rfl; (simp [fillL, splice, Value.cells, Act.eval]; rfl)) | ((with_reducible apply l_buildA); rfl; (simp [fillL, splice, Value.cells, Act.eval]; rfl)) | ((with_reducible apply l_bslice); assumption; rfl; rfl; (first | (simp [fillL, splice, zeros, Value.cells, Act.eval]; rfl) | rfl); clear hS; intro b w hS) | ((with_reducible apply l_storeF); assumption; rfl; rfl; (repeat (first | exact Upd.head | apply Upd.tail)); rfl; clear hS; intro w hS) | ((with_reducible apply l_store); assumption; rfl; rfl; (repeat (first | exact Upd.head | apply Upd.tail)); rfl; clear hS; intro w hS; simp only [splice] at hS; try rw [splice_nil] at hS))
  replace hS := hS.sub (L' := [own 9 1 (.slice AP P.length cp) P.length (sv P), own 9 1 (.slice none 0 0) 0 (sv [])]) (by (repeat (first | exact List.Sublist.slnil | exact List.Sublist.refl _ | apply List.Sublist.cons_cons | apply List.Sublist.cons)))
  go_loopg [3, 5] P.length (fun g t3 t5 wr => ∃ i : Nat, i + g = P.length ∧ t5 = .int .i64 (i : Int) ∧ St [] w0 wr [own 9 1 (.slice AP P.length cp) P.length (sv P), own 9 1 t3 ([] ++ (P.take i).map tl2).length (sv ([] ++ (P.take i).map tl2))])
  case atStart => exact ⟨0, by omega, rfl, by simpa using hS⟩
  case round =>
    obtain ⟨i, hig, rfl, hS⟩ := hrel
    by_cases hi : i < P.length
    · obtain ⟨x, hx⟩ : ∃ x, P[i]? = some x := ⟨_, List.getElem?_eq_getElem hi⟩
      have hxl := Hpx.out x (List.mem_of_getElem? hx)
      obtain ⟨_, bb, o, rfl, hrd⟩ := (RdS.of_own (hS.get (c := own 9 1 (.slice AP P.length cp) P.length (sv P)) (by exact Has.head))).at i hi (by decide)
      have hrd1 : Rd wr bb (o + i) [txt x] := by
        have h1 := hrd.take 1
        rw [Nat.mul_one, List.drop_eq_getElem_cons (by rw [sv_length]; exact hi)] at h1
        have e : (sv P)[i]'(by rw [sv_length]; exact hi) = txt x := by
          have := (List.getElem?_eq_some_iff.1 hx).2
          simp [sv, this]
        rw [e] at h1
        exact h1
      have Hrd := Lib.hid hrd1
      have hmt := map_take tl2 P i x hx
      obtain ⟨F, hF⟩ : ∃ F, F = [] ++ (P.take i).map tl2 := ⟨_, rfl⟩
      have hFl : F.length ≤ 65540 := by rw [hF]; simp; omega
      rw [← hF] at hS
      have HN : Hid ([] ++ (P.take (i + 1)).map tl2 = F ++ [tl2 x]) := Lib.hid (by rw [hmt, hF, List.append_assoc])
      clear hrd hrd1 hx hmt hF
      go_wp2_with (first | ((with_reducible apply l_want); rfl) | ((with_reducible apply l_read); rfl; exact Hrd.out; rfl) | (go_at_call 167; refine (rl2_c _ x (by (try simp only [List.length_cons]); omega)).mono ?_; rintro en w1 ⟨rfl, hf1⟩; replace hS := hS.keep hf1) | ((with_reducible apply l_append); assumption; rfl; rfl; (intro v'; (repeat (first | exact Upd.head | apply Upd.tail))); rfl; exact RdS.of_row (hS.get (by exact Has.head)) 1 1 rfl (Nat.le_refl _); simp [Value.oneCell']; (first | omega | (simp; done) | (simp; omega)); (first | omega | (simp; done) | (simp; omega)); clear hS; intro v' w hS hnil) | ((with_reducible apply l_alloc); assumption; rfl; clear hS; intro b w hS) | ((with_reducible apply l_box); assumption; rfl; clear hS; intro b w hS) | ((with_reducible apply l_load); assumption; rfl; (repeat (first | exact Has.head | apply Has.tail)); (first | rfl | (simp [takeV]; done))) | ((with_reducible apply l_build); rfl; (simp [fillL, splice, Value.cells, Act.eval]; rfl)) | ((with_reducible apply l_buildA); rfl; (simp [fillL, splice, Value.cells, Act.eval]; rfl)) | ((with_reducible apply l_bslice); assumption; rfl; rfl; (first | (simp [fillL, splice, zeros, Value.cells, Act.eval]; rfl) | rfl); clear hS; intro b w hS) | ((with_reducible apply l_storeF); assumption; rfl; rfl; (repeat (first | exact Upd.head | apply Upd.tail)); rfl; clear hS; intro w hS) | ((with_reducible apply l_store); assumption; rfl; rfl; (repeat (first | exact Upd.head | apply Upd.tail)); rfl; clear hS; intro w hS; simp only [splice] at hS; try rw [splice_nil] at hS))
      replace hS := hS.sub (L' := [own 9 1 (.slice (some ⟨bb, o, none⟩) P.length cp) P.length (sv P), own 9 1 v' (F.length + 1) (sv F ++ [txt (tl2 x)])]) (by (repeat (first | exact List.Sublist.slnil | exact List.Sublist.refl _ | apply List.Sublist.cons_cons | apply List.Sublist.cons)))
      go_roundg (gk - 1)
      case measure => omega
      case rel => exact ⟨i + 1, by omega, by go_num, by rw [HN.out, List.length_append, sv_append]; exact hS⟩
    · have hie : i = P.length := by omega
      subst hie
      rw [List.take_length] at hS
      obtain ⟨F, hF⟩ : ∃ F, F = [] ++ P.map tl2 := ⟨_, rfl⟩
      have hFl : F.length ≤ 65540 := by rw [hF]; simp; omega
      rw [← hF] at hS
      have HRL2 : Hid (RL = F ++ [[]]) := Lib.hid (by rw [HRL.out, hF])
      have hnn : decide ((P.length : Int) < (P.length : Int)) = false := by simp
      clear hF
      go_wp2_with (first | ((with_reducible apply l_want); rfl) | ((with_reducible apply l_append); assumption; rfl; rfl; (intro v'; (repeat (first | exact Upd.head | apply Upd.tail))); rfl; exact RdS.of_row (hS.get (by exact Has.head)) 1 1 rfl (Nat.le_refl _); simp [Value.oneCell']; (first | omega | (simp; done) | (simp; omega)); (first | omega | (simp; done) | (simp; omega)); clear hS; intro v' w hS hnil) | ((with_reducible apply l_alloc); assumption; rfl; clear hS; intro b w hS) | ((with_reducible apply l_box); assumption; rfl; clear hS; intro b w hS) | ((with_reducible apply l_load); assumption; rfl; (repeat (first | exact Has.head | apply Has.tail)); (first | rfl | (simp [takeV]; done))) | ((with_reducible apply l_build); rfl; (simp [fillL, splice, Value.cells, Act.eval]; rfl)) | ((with_reducible apply l_buildA); rfl; (simp [fillL, splice, Value.cells, Act.eval]; rfl)) | ((with_reducible apply l_bslice); assumption; rfl; rfl; (first | (simp [fillL, splice, zeros, Value.cells, Act.eval]; rfl) | rfl); clear hS; intro b w hS) | ((with_reducible apply l_storeF); assumption; rfl; rfl; (repeat (first | exact Upd.head | apply Upd.tail)); rfl; clear hS; intro w hS) | ((with_reducible apply l_store); assumption; rfl; rfl; (repeat (first | exact Upd.head | apply Upd.tail)); rfl; clear hS; intro w hS; simp only [splice] at hS; try rw [splice_nil] at hS))
      go_ret
      refine ⟨_, rfl, ?_⟩
      rw [HRL2.out, List.length_append, sv_append]
      exact hS.sub (L' := [own 9 1 v' (F.length + 1) (sv F ++ [txt []])]) (by (repeat (first | exact List.Sublist.slnil | exact List.Sublist.refl _ | apply List.Sublist.cons_cons | apply List.Sublist.cons)))
theorem rlines_cn (w0 : World) (ci : UInt8) (id : List UInt8) (da : List UInt8) (hsm : (ci :: id).length + ([] : List UInt8).length + da.length ≤ 65536) (hr : ∀ W, Calls Tryz.prog 27 #[.agg ⟨[txt (ci :: id), txt ([] : List UInt8), txt da]⟩] W fun en w' => en = .returned (.bool true) ∧ Fr [] W w') :
    Calls Tryz.prog 85 #[.agg ⟨[txt (ci :: id), txt ([] : List UInt8), txt da]⟩] w0 fun en w' => ∃ v, en = .returned v ∧ St [] w0 w' [own 9 1 v ([tl0 (ci :: id)] ++ (splitP 10 da).map tl2 ++ [[]]).length (sv ([tl0 (ci :: id)] ++ (splitP 10 da).map tl2 ++ [[]]))] := by
  have Hr := Lib.hid hr
  clear hr
  have hpl := splitP_len 10 da
  have hps : (splitP 10 da).length ≤ 65537 := by
    have := hpl.2
    simp only [List.length_cons, List.length_nil] at hsm
    omega
  have hpx : ∀ x ∈ splitP 10 da, x.length ≤ 65536 := fun x hx => by
    have := hpl.1 x hx
    simp only [List.length_cons, List.length_nil] at hsm
    omega
  have hpu := fun W => parts_u W da 10 10 rfl (by simp only [List.length_cons, List.length_nil] at hsm; omega)
  obtain ⟨RL, hRL⟩ : ∃ RL, RL = [tl0 (ci :: id)] ++ (splitP 10 da).map tl2 ++ [[]] := ⟨_, rfl⟩
  rw [← hRL]
  obtain ⟨P, hP⟩ : ∃ P, P = splitP 10 da := ⟨_, rfl⟩
  rw [← hP] at hpu hps hpx hRL
  have HRL := Lib.hid hRL
  have Hpu := Lib.hid hpu
  have Hpx := Lib.hid hpx
  simp only [List.length_cons, List.length_nil] at hsm
  clear hpl hpx hpu hRL hP
  go_enter Tryz.func85, Tryz.ntmps85
  have hS := (St.start [] w0).addNil (c' := own 9 1 (.slice none 0 0) 0 []) (ownNil _ _ _) rfl
  go_wp2_with (first | ((with_reducible apply l_want); rfl) | (go_at_call 27; go_must (refine (Hr.out _).mono ?_); rintro en w1 ⟨rfl, hf1⟩; replace hS := hS.keep hf1) | (go_at_call 167; refine (rl0_c _ (ci :: id) (by (try simp only [List.length_cons]); omega)).mono ?_; rintro en w1 ⟨rfl, hf1⟩; replace hS := hS.keep hf1) | (go_at_call 130; go_must (refine (Hpu.out _).mono ?_); rintro en w1 ⟨vp, rfl, hT⟩; replace hS := hS.join hT; obtain ⟨AP, cp, rfl, hcp⟩ := (RdS.of_own (hT.get (c := own 9 1 vp P.length (sv P)) (by exact Has.head))).shape; clear hT) | ((with_reducible apply l_append); assumption; rfl; rfl; (intro v'; (repeat (first | exact Upd.head | apply Upd.tail))); rfl; exact RdS.of_row (hS.get (by exact Has.head)) 1 1 rfl (Nat.le_refl _); simp [Value.oneCell']; (first | omega | (simp; done) | (simp; omega)); (first | omega | (simp; done) | (simp; omega)); clear hS; intro v' w hS hnil) | ((with_reducible apply l_alloc); assumption; rfl; clear hS; intro b w hS) | ((with_reducible apply l_box); assumption; rfl; clear hS; intro b w hS) | ((with_reducible apply l_load); assumption; rfl; (repeat (first | exact Has.head | apply Has.tail)); (first | rfl | (simp [takeV]; done))) | ((with_reducible apply l_build); rfl; (simp [fillL, splice, Value.cells, Act.eval]; rfl)) | ((with_reducible apply l_buildA); rfl; (simp [fillL, splice, Value.cells, Act.eval]; rfl)) | ((with_reducible apply l_bslice); assumption; rfl; rfl; (first | (simp [fillL, splice, zeros, Value.cells, Act.eval]; rfl) | rfl); clear hS; intro b w hS) | ((with_reducible apply l_storeF); assumption; rfl; rfl; (repeat (first | exact Upd.head | apply Upd.tail)); rfl; clear hS; intro w hS) | ((with_reducible apply l_store); assumption; rfl; rfl; (repeat (first | exact Upd.head | apply Upd.tail)); rfl; clear hS; intro w hS; simp only [splice] at hS; try rw [splice_nil] at hS))
  replace hS := hS.sub (L' := [own 9 1 (.slice AP P.length cp) P.length (sv P), own 9 1 v' 1 (sv [tl0 (ci :: id)])]) (by (repeat (first | exact List.Sublist.slnil | exact List.Sublist.refl _ | apply List.Sublist.cons_cons | apply List.Sublist.cons)))
  go_loopg [3, 5] P.length (fun g t3 t5 wr => ∃ i : Nat, i + g = P.length ∧ t5 = .int .i64 (i : Int) ∧ St [] w0 wr [own 9 1 (.slice AP P.length cp) P.length (sv P), own 9 1 t3 ([tl0 (ci :: id)] ++ (P.take i).map tl2).length (sv ([tl0 (ci :: id)] ++ (P.take i).map tl2))])
  case atStart => exact ⟨0, by omega, rfl, by simpa using hS⟩
  case round =>
    obtain ⟨i, hig, rfl, hS⟩ := hrel
    by_cases hi : i < P.length
    · obtain ⟨x, hx⟩ : ∃ x, P[i]? = some x := ⟨_, List.getElem?_eq_getElem hi⟩
      have hxl := Hpx.out x (List.mem_of_getElem? hx)
      obtain ⟨_, bb, o, rfl, hrd⟩ := (RdS.of_own (hS.get (c := own 9 1 (.slice AP P.length cp) P.length (sv P)) (by exact Has.head))).at i hi (by decide)
      have hrd1 : Rd wr bb (o + i) [txt x] := by
        have h1 := hrd.take 1
        rw [Nat.mul_one, List.drop_eq_getElem_cons (by rw [sv_length]; exact hi)] at h1
        have e : (sv P)[i]'(by rw [sv_length]; exact hi) = txt x := by
          have := (List.getElem?_eq_some_iff.1 hx).2
          simp [sv, this]
        rw [e] at h1
        exact h1
      have Hrd := Lib.hid hrd1
      have hmt := map_take tl2 P i x hx
      obtain ⟨F, hF⟩ : ∃ F, F = [tl0 (ci :: id)] ++ (P.take i).map tl2 := ⟨_, rfl⟩
      have hFl : F.length ≤ 65540 := by rw [hF]; simp; omega
      rw [← hF] at hS
      have HN : Hid ([tl0 (ci :: id)] ++ (P.take (i + 1)).map tl2 = F ++ [tl2 x]) := Lib.hid (by rw [hmt, hF, List.append_assoc])
      clear hrd hrd1 hx hmt hF
      go_wp2_with (first | ((with_reducible apply l_want); rfl) | ((with_reducible apply l_read); rfl; exact Hrd.out; rfl) | (go_at_call 167; refine (rl2_c _ x (by (try simp only [List.length_cons]); omega)).mono ?_; rintro en w1 ⟨rfl, hf1⟩; replace hS := hS.keep hf1) | ((with_reducible apply l_append); assumption; rfl; rfl; (intro v'; (repeat (first | exact Upd.head | apply Upd.tail))); rfl; exact RdS.of_row (hS.get (by exact Has.head)) 1 1 rfl (Nat.le_refl _); simp [Value.oneCell']; (first | omega | (simp; done) | (simp; omega)); (first | omega | (simp; done) | (simp; omega)); clear hS; intro v' w hS hnil) | ((with_reducible apply l_alloc); assumption; rfl; clear hS; intro b w hS) | ((with_reducible apply l_box); assumption; rfl; clear hS; intro b w hS) | ((with_reducible apply l_load); assumption; rfl; (repeat (first | exact Has.head | apply Has.tail)); (first | rfl | (simp [takeV]; done))) | ((with_reducible apply l_build); rfl; (simp [fillL, splice, Value.cells, Act.eval]; rfl)) | ((with_reducible apply l_buildA); rfl; (simp [fillL, splice, Value.cells, Act.eval]; rfl)) | ((with_reducible apply l_bslice); assumption; rfl; rfl; (first | (simp [fillL, splice, zeros, Value.cells, Act.eval]; rfl) | rfl); clear hS; intro b w hS) | ((with_reducible apply l_storeF); assumption; rfl; rfl; (repeat (first | exact Upd.head | apply Upd.tail)); rfl; clear hS; intro w hS) | ((with_reducible apply l_store); assumption; rfl; rfl; (repeat (first | exact Upd.head | apply Upd.tail)); rfl; clear hS; intro w hS; simp only [splice] at hS; try rw [splice_nil] at hS))
      replace hS := hS.sub (L' := [own 9 1 (.slice (some ⟨bb, o, none⟩) P.length cp) P.length (sv P), own 9 1 v' (F.length + 1) (sv F ++ [txt (tl2 x)])]) (by (repeat (first | exact List.Sublist.slnil | exact List.Sublist.refl _ | apply List.Sublist.cons_cons | apply List.Sublist.cons)))
      go_roundg (gk - 1)
      case measure => omega
      case rel => exact ⟨i + 1, by omega, by go_num, by rw [HN.out, List.length_append, sv_append]; exact hS⟩
    · have hie : i = P.length := by omega
      subst hie
      rw [List.take_length] at hS
      obtain ⟨F, hF⟩ : ∃ F, F = [tl0 (ci :: id)] ++ P.map tl2 := ⟨_, rfl⟩
      have hFl : F.length ≤ 65540 := by rw [hF]; simp; omega
      rw [← hF] at hS
      have HRL2 : Hid (RL = F ++ [[]]) := Lib.hid (by rw [HRL.out, hF])
      have hnn : decide ((P.length : Int) < (P.length : Int)) = false := by simp
      clear hF
      go_wp2_with (first | ((with_reducible apply l_want); rfl) | ((with_reducible apply l_append); assumption; rfl; rfl; (intro v'; (repeat (first | exact Upd.head | apply Upd.tail))); rfl; exact RdS.of_row (hS.get (by exact Has.head)) 1 1 rfl (Nat.le_refl _); simp [Value.oneCell']; (first | omega | (simp; done) | (simp; omega)); (first | omega | (simp; done) | (simp; omega)); clear hS; intro v' w hS hnil) | ((with_reducible apply l_alloc); assumption; rfl; clear hS; intro b w hS) | ((with_reducible apply l_box); assumption; rfl; clear hS; intro b w hS) | ((with_reducible apply l_load); assumption; rfl; (repeat (first | exact Has.head | apply Has.tail)); (first | rfl | (simp [takeV]; done))) | ((with_reducible apply l_build); rfl; (simp [fillL, splice, Value.cells, Act.eval]; rfl)) | ((with_reducible apply l_buildA); rfl; (simp [fillL, splice, Value.cells, Act.eval]; rfl)) | ((with_reducible apply l_bslice); assumption; rfl; rfl; (first | (simp [fillL, splice, zeros, Value.cells, Act.eval]; rfl) | rfl); clear hS; intro b w hS) | ((with_reducible apply l_storeF); assumption; rfl; rfl; (repeat (first | exact Upd.head | apply Upd.tail)); rfl; clear hS; intro w hS) | ((with_reducible apply l_store); assumption; rfl; rfl; (repeat (first | exact Upd.head | apply Upd.tail)); rfl; clear hS; intro w hS; simp only [splice] at hS; try rw [splice_nil] at hS))
      go_ret
      refine ⟨_, rfl, ?_⟩
      rw [HRL2.out, List.length_append, sv_append]
      exact hS.sub (L' := [own 9 1 v' (F.length + 1) (sv F ++ [txt []])]) (by (repeat (first | exact List.Sublist.slnil | exact List.Sublist.refl _ | apply List.Sublist.cons_cons | apply List.Sublist.cons)))
theorem rlines_nc (w0 : World) (ct : UInt8) (ty : List UInt8) (da : List UInt8) (hsm : ([] : List UInt8).length + (ct :: ty).length + da.length ≤ 65536) (hr : ∀ W, Calls Tryz.prog 27 #[.agg ⟨[txt ([] : List UInt8), txt (ct :: ty), txt da]⟩] W fun en w' => en = .returned (.bool true) ∧ Fr [] W w') :
    Calls Tryz.prog 85 #[.agg ⟨[txt ([] : List UInt8), txt (ct :: ty), txt da]⟩] w0 fun en w' => ∃ v, en = .returned v ∧ St [] w0 w' [own 9 1 v ([tl1 (ct :: ty)] ++ (splitP 10 da).map tl2 ++ [[]]).length (sv ([tl1 (ct :: ty)] ++ (splitP 10 da).map tl2 ++ [[]]))] := by
  have Hr := Lib.hid hr
  clear hr
  have hpl := splitP_len 10 da
  have hps : (splitP 10 da).length ≤ 65537 := by
    have := hpl.2
    simp only [List.length_cons, List.length_nil] at hsm
    omega
  have hpx : ∀ x ∈ splitP 10 da, x.length ≤ 65536 := fun x hx => by
    have := hpl.1 x hx
    simp only [List.length_cons, List.length_nil] at hsm
    omega
  have hpu := fun W => parts_u W da 10 10 rfl (by simp only [List.length_cons, List.length_nil] at hsm; omega)
  obtain ⟨RL, hRL⟩ : ∃ RL, RL = [tl1 (ct :: ty)] ++ (splitP 10 da).map tl2 ++ [[]] := ⟨_, rfl⟩
  rw [← hRL]
  obtain ⟨P, hP⟩ : ∃ P, P = splitP 10 da := ⟨_, rfl⟩
  rw [← hP] at hpu hps hpx hRL
  have HRL := Lib.hid hRL
  have Hpu := Lib.hid hpu
  have Hpx := Lib.hid hpx
  simp only [List.length_cons, List.length_nil] at hsm
  clear hpl hpx hpu hRL hP
  go_enter Tryz.func85, Tryz.ntmps85
  have hS := (St.start [] w0).addNil (c' := own 9 1 (.slice none 0 0) 0 []) (ownNil _ _ _) rfl
  go_wp2_with (first | ((with_reducible apply l_want); rfl) | (go_at_call 27; go_must (refine (Hr.out _).mono ?_); rintro en w1 ⟨rfl, hf1⟩; replace hS := hS.keep hf1) | (go_at_call 167; refine (rl1_c _ (ct :: ty) (by (try simp only [List.length_cons]); omega)).mono ?_; rintro en w1 ⟨rfl, hf1⟩; replace hS := hS.keep hf1) | (go_at_call 130; go_must (refine (Hpu.out _).mono ?_); rintro en w1 ⟨vp, rfl, hT⟩; replace hS := hS.join hT; obtain ⟨AP, cp, rfl, hcp⟩ := (RdS.of_own (hT.get (c := own 9 1 vp P.length (sv P)) (by exact Has.head))).shape; clear hT) | ((with_reducible apply l_append); assumption; rfl; rfl; (intro v'; (repeat (first | exact Upd.head | apply Upd.tail))); rfl; exact RdS.of_row (hS.get (by exact Has.head)) 1 1 rfl (Nat.le_refl _); simp [Value.oneCell']; (first | omega | (simp; done) | (simp; omega)); (first | omega | (simp; done) | (simp; omega)); clear hS; intro v' w hS hnil) | ((with_reducible apply l_alloc); assumption; rfl; clear hS; intro b w hS) | ((with_reducible apply l_box); assumption; rfl; clear hS; intro b w hS) | ((with_reducible apply l_load); assumption; rfl; (repeat (first | exact Has.head | apply Has.tail)); (first | rfl | (simp [takeV]; done))) | ((with_reducible apply l_build); rfl; (simp [fillL, splice, Value.cells, Act.eval]; rfl)) | ((with_reducible apply l_buildA); rfl; (simp [fillL, splice, Value.cells, Act.eval]; rfl)) | ((with_reducible apply l_bslice); assumption; rfl; rfl; (first | (simp [fillL, splice, zeros, Value.cells, Act.eval]; rfl) | rfl); clear hS; intro b w hS) | ((with_reducible apply l_storeF); assumption; rfl; rfl; (repeat (first | exact Upd.head | apply Upd.tail)); rfl; clear hS; intro w hS) | ((with_reducible apply l_store); assumption; rfl; rfl; (repeat (first | exact Upd.head | apply Upd.tail)); rfl; clear hS; intro w hS; simp only [splice] at hS; try rw [splice_nil] at hS))
  replace hS := hS.sub (L' := [own 9 1 (.slice AP P.length cp) P.length (sv P), own 9 1 v' 1 (sv [tl1 (ct :: ty)])]) (by (repeat (first | exact List.Sublist.slnil | exact List.Sublist.refl _ | apply List.Sublist.cons_cons | apply List.Sublist.cons)))
  go_loopg [3, 5] P.length (fun g t3 t5 wr => ∃ i : Nat, i + g = P.length ∧ t5 = .int .i64 (i : Int) ∧ St [] w0 wr [own 9 1 (.slice AP P.length cp) P.length (sv P), own 9 1 t3 ([tl1 (ct :: ty)] ++ (P.take i).map tl2).length (sv ([tl1 (ct :: ty)] ++ (P.take i).map tl2))])
  case atStart => exact ⟨0, by omega, rfl, by simpa using hS⟩
  case round =>
    obtain ⟨i, hig, rfl, hS⟩ := hrel
    by_cases hi : i < P.length
    · obtain ⟨x, hx⟩ : ∃ x, P[i]? = some x := ⟨_, List.getElem?_eq_getElem hi⟩
      have hxl := Hpx.out x (List.mem_of_getElem? hx)
      obtain ⟨_, bb, o, rfl, hrd⟩ := (RdS.of_own (hS.get (c := own 9 1 (.slice AP P.length cp) P.length (sv P)) (by exact Has.head))).at i hi (by decide)
      have hrd1 : Rd wr bb (o + i) [txt x] := by
        have h1 := hrd.take 1
        rw [Nat.mul_one, List.drop_eq_getElem_cons (by rw [sv_length]; exact hi)] at h1
        have e : (sv P)[i]'(by rw [sv_length]; exact hi) = txt x := by
          have := (List.getElem?_eq_some_iff.1 hx).2
          simp [sv, this]
        rw [e] at h1
        exact h1
      have Hrd := Lib.hid hrd1
      have hmt := map_take tl2 P i x hx
      obtain ⟨F, hF⟩ : ∃ F, F = [tl1 (ct :: ty)] ++ (P.take i).map tl2 := ⟨_, rfl⟩
      have hFl : F.length ≤ 65540 := by rw [hF]; simp; omega
      rw [← hF] at hS
      have HN : Hid ([tl1 (ct :: ty)] ++ (P.take (i + 1)).map tl2 = F ++ [tl2 x]) := Lib.hid (by rw [hmt, hF, List.append_assoc])
      clear hrd hrd1 hx hmt hF
      go_wp2_with (first | ((with_reducible apply l_want); rfl) | ((with_reducible apply l_read); rfl; exact Hrd.out; rfl) | (go_at_call 167; refine (rl2_c _ x (by (try simp only [List.length_cons]); omega)).mono ?_; rintro en w1 ⟨rfl, hf1⟩; replace hS := hS.keep hf1) | ((with_reducible apply l_append); assumption; rfl; rfl; (intro v'; (repeat (first | exact Upd.head | apply Upd.tail))); rfl; exact RdS.of_row (hS.get (by exact Has.head)) 1 1 rfl (Nat.le_refl _); simp [Value.oneCell']; (first | omega | (simp; done) | (simp; omega)); (first | omega | (simp; done) | (simp; omega)); clear hS; intro v' w hS hnil) | ((with_reducible apply l_alloc); assumption; rfl; clear hS; intro b w hS) | ((with_reducible apply l_box); assumption; rfl; clear hS; intro b w hS) | ((with_reducible apply l_load); assumption; rfl; (repeat (first | exact Has.head | apply Has.tail)); (first | rfl | (simp [takeV]; done))) | ((with_reducible apply l_build); rfl; (simp [fillL, splice, Value.cells, Act.eval]; rfl)) | ((with_reducible apply l_buildA); rfl; (simp [fillL, splice, Value.cells, Act.eval]; rfl)) | ((with_reducible apply l_bslice); assumption; rfl; rfl; (first | (simp [fillL, splice, zeros, Value.cells, Act.eval]; rfl) | rfl); clear hS; intro b w hS) | ((with_reducible apply l_storeF); assumption; rfl; rfl; (repeat (first | exact Upd.head | apply Upd.tail)); rfl; clear hS; intro w hS) | ((with_reducible apply l_store); assumption; rfl; rfl; (repeat (first | exact Upd.head | apply Upd.tail)); rfl; clear hS; intro w hS; simp only [splice] at hS; try rw [splice_nil] at hS))
      replace hS := hS.sub (L' := [own 9 1 (.slice (some ⟨bb, o, none⟩) P.length cp) P.length (sv P), own 9 1 v' (F.length + 1) (sv F ++ [txt (tl2 x)])]) (by (repeat (first | exact List.Sublist.slnil | exact List.Sublist.refl _ | apply List.Sublist.cons_cons | apply List.Sublist.cons)))
      go_roundg (gk - 1)
      case measure => omega
      case rel => exact ⟨i + 1, by omega, by go_num, by rw [HN.out, List.length_append, sv_append]; exact hS⟩
    · have hie : i = P.length := by omega
      subst hie
      rw [List.take_length] at hS
      obtain ⟨F, hF⟩ : ∃ F, F = [tl1 (ct :: ty)] ++ P.map tl2 := ⟨_, rfl⟩
      have hFl : F.length ≤ 65540 := by rw [hF]; simp; omega
      rw [← hF] at hS
      have HRL2 : Hid (RL = F ++ [[]]) := Lib.hid (by rw [HRL.out, hF])
      have hnn : decide ((P.length : Int) < (P.length : Int)) = false := by simp
      clear hF
      go_wp2_with (first | ((with_reducible apply l_want); rfl) | ((with_reducible apply l_append); assumption; rfl; rfl; (intro v'; (repeat (first | exact Upd.head | apply Upd.tail))); rfl; exact RdS.of_row (hS.get (by exact Has.head)) 1 1 rfl (Nat.le_refl _); simp [Value.oneCell']; (first | omega | (simp; done) | (simp; omega)); (first | omega | (simp; done) | (simp; omega)); clear hS; intro v' w hS hnil) | ((with_reducible apply l_alloc); assumption; rfl; clear hS; intro b w hS) | ((with_reducible apply l_box); assumption; rfl; clear hS; intro b w hS) | ((with_reducible apply l_load); assumption; rfl; (repeat (first | exact Has.head | apply Has.tail)); (first | rfl | (simp [takeV]; done))) | ((with_reducible apply l_build); rfl; (simp [fillL, splice, Value.cells, Act.eval]; rfl)) | ((with_reducible apply l_buildA); rfl; (simp [fillL, splice, Value.cells, Act.eval]; rfl)) | ((with_reducible apply l_bslice); assumption; rfl; rfl; (first | (simp [fillL, splice, zeros, Value.cells, Act.eval]; rfl) | rfl); clear hS; intro b w hS) | ((with_reducible apply l_storeF); assumption; rfl; rfl; (repeat (first | exact Upd.head | apply Upd.tail)); rfl; clear hS; intro w hS) | ((with_reducible apply l_store); assumption; rfl; rfl; (repeat (first | exact Upd.head | apply Upd.tail)); rfl; clear hS; intro w hS; simp only [splice] at hS; try rw [splice_nil] at hS))
      go_ret
      refine ⟨_, rfl, ?_⟩
      rw [HRL2.out, List.length_append, sv_append]
      exact hS.sub (L' := [own 9 1 v' (F.length + 1) (sv F ++ [txt []])]) (by (repeat (first | exact List.Sublist.slnil | exact List.Sublist.refl _ | apply List.Sublist.cons_cons | apply List.Sublist.cons)))
theorem rlines_cc (w0 : World) (ci : UInt8) (id : List UInt8) (ct : UInt8) (ty : List UInt8) (da : List UInt8) (hsm : (ci :: id).length + (ct :: ty).length + da.length ≤ 65536) (hr : ∀ W, Calls Tryz.prog 27 #[.agg ⟨[txt (ci :: id), txt (ct :: ty), txt da]⟩] W fun en w' => en = .returned (.bool true) ∧ Fr [] W w') :
    Calls Tryz.prog 85 #[.agg ⟨[txt (ci :: id), txt (ct :: ty), txt da]⟩] w0 fun en w' => ∃ v, en = .returned v ∧ St [] w0 w' [own 9 1 v ([tl0 (ci :: id), tl1 (ct :: ty)] ++ (splitP 10 da).map tl2 ++ [[]]).length (sv ([tl0 (ci :: id), tl1 (ct :: ty)] ++ (splitP 10 da).map tl2 ++ [[]]))] := by
  have Hr := Lib.hid hr
  clear hr
  have hpl := splitP_len 10 da
  have hps : (splitP 10 da).length ≤ 65537 := by
    have := hpl.2
    simp only [List.length_cons, List.length_nil] at hsm
    omega
  have hpx : ∀ x ∈ splitP 10 da, x.length ≤ 65536 := fun x hx => by
    have := hpl.1 x hx
    simp only [List.length_cons, List.length_nil] at hsm
    omega
  have hpu := fun W => parts_u W da 10 10 rfl (by simp only [List.length_cons, List.length_nil] at hsm; omega)
  obtain ⟨RL, hRL⟩ : ∃ RL, RL = [tl0 (ci :: id), tl1 (ct :: ty)] ++ (splitP 10 da).map tl2 ++ [[]] := ⟨_, rfl⟩
  rw [← hRL]
  obtain ⟨P, hP⟩ : ∃ P, P = splitP 10 da := ⟨_, rfl⟩
  rw [← hP] at hpu hps hpx hRL
  have HRL := Lib.hid hRL
  have Hpu := Lib.hid hpu
  have Hpx := Lib.hid hpx
  simp only [List.length_cons, List.length_nil] at hsm
  clear hpl hpx hpu hRL hP
  go_enter Tryz.func85, Tryz.ntmps85
  have hS := (St.start [] w0).addNil (c' := own 9 1 (.slice none 0 0) 0 []) (ownNil _ _ _) rfl
  go_wp2_with (first | ((with_reducible apply l_want); rfl) | (go_at_call 27; go_must (refine (Hr.out _).mono ?_); rintro en w1 ⟨rfl, hf1⟩; replace hS := hS.keep hf1) | (go_at_call 167; refine (rl0_c _ (ci :: id) (by (try simp only [List.length_cons]); omega)).mono ?_; rintro en w1 ⟨rfl, hf1⟩; replace hS := hS.keep hf1) | (go_at_call 167; refine (rl1_c _ (ct :: ty) (by (try simp only [List.length_cons]); omega)).mono ?_; rintro en w1 ⟨rfl, hf1⟩; replace hS := hS.keep hf1) | (go_at_call 130; go_must (refine (Hpu.out _).mono ?_); rintro en w1 ⟨vp, rfl, hT⟩; replace hS := hS.join hT; obtain ⟨AP, cp, rfl, hcp⟩ := (RdS.of_own (hT.get (c := own 9 1 vp P.length (sv P)) (by exact Has.head))).shape; clear hT) | ((with_reducible apply l_append); assumption; rfl; rfl; (intro v'; (repeat (first | exact Upd.head | apply Upd.tail))); rfl; exact RdS.of_row (hS.get (by exact Has.head)) 1 1 rfl (Nat.le_refl _); simp [Value.oneCell']; (first | omega | (simp; done) | (simp; omega)); (first | omega | (simp; done) | (simp; omega)); clear hS; intro v' w hS hnil) | ((with_reducible apply l_alloc); assumption; rfl; clear hS; intro b w hS) | ((with_reducible apply l_box); assumption; rfl; clear hS; intro b w hS) | ((with_reducible apply l_load); assumption; rfl; (repeat (first | exact Has.head | apply Has.tail)); (first | rfl | (simp [takeV]; done))) | ((with_reducible apply l_build); rfl; (simp [fillL, splice, Value.cells, Act.eval]; rfl)) | ((with_reducible apply l_buildA); rfl; (simp [fillL, splice, Value.cells, Act.eval]; rfl)) | ((with_reducible apply l_bslice); assumption; rfl; rfl; (first | (simp [fillL, splice, zeros, Value.cells, Act.eval]; rfl) | rfl); clear hS; intro b w hS) | ((with_reducible apply l_storeF); assumption; rfl; rfl; (repeat (first | exact Upd.head | apply Upd.tail)); rfl; clear hS; intro w hS) | ((with_reducible apply l_store); assumption; rfl; rfl; (repeat (first | exact Upd.head | apply Upd.tail)); rfl; clear hS; intro w hS; simp only [splice] at hS; try rw [splice_nil] at hS))
  replace hS := hS.sub (L' := [own 9 1 (.slice AP P.length cp) P.length (sv P), own 9 1 v' 2 (sv [tl0 (ci :: id), tl1 (ct :: ty)])]) (by (repeat (first | exact List.Sublist.slnil | exact List.Sublist.refl _ | apply List.Sublist.cons_cons | apply List.Sublist.cons)))
  go_loopg [3, 5] P.length (fun g t3 t5 wr => ∃ i : Nat, i + g = P.length ∧ t5 = .int .i64 (i : Int) ∧ St [] w0 wr [own 9 1 (.slice AP P.length cp) P.length (sv P), own 9 1 t3 ([tl0 (ci :: id), tl1 (ct :: ty)] ++ (P.take i).map tl2).length (sv ([tl0 (ci :: id), tl1 (ct :: ty)] ++ (P.take i).map tl2))])
  case atStart => exact ⟨0, by omega, rfl, by simpa using hS⟩
  case round =>
    obtain ⟨i, hig, rfl, hS⟩ := hrel
    by_cases hi : i < P.length
    · obtain ⟨x, hx⟩ : ∃ x, P[i]? = some x := ⟨_, List.getElem?_eq_getElem hi⟩
      have hxl := Hpx.out x (List.mem_of_getElem? hx)
      obtain ⟨_, bb, o, rfl, hrd⟩ := (RdS.of_own (hS.get (c := own 9 1 (.slice AP P.length cp) P.length (sv P)) (by exact Has.head))).at i hi (by decide)
      have hrd1 : Rd wr bb (o + i) [txt x] := by
        have h1 := hrd.take 1
        rw [Nat.mul_one, List.drop_eq_getElem_cons (by rw [sv_length]; exact hi)] at h1
        have e : (sv P)[i]'(by rw [sv_length]; exact hi) = txt x := by
          have := (List.getElem?_eq_some_iff.1 hx).2
          simp [sv, this]
        rw [e] at h1
        exact h1
      have Hrd := Lib.hid hrd1
      have hmt := map_take tl2 P i x hx
      obtain ⟨F, hF⟩ : ∃ F, F = [tl0 (ci :: id), tl1 (ct :: ty)] ++ (P.take i).map tl2 := ⟨_, rfl⟩
      have hFl : F.length ≤ 65540 := by rw [hF]; simp; omega
      rw [← hF] at hS
      have HN : Hid ([tl0 (ci :: id), tl1 (ct :: ty)] ++ (P.take (i + 1)).map tl2 = F ++ [tl2 x]) := Lib.hid (by rw [hmt, hF, List.append_assoc])
      clear hrd hrd1 hx hmt hF
      go_wp2_with (first | ((with_reducible apply l_want); rfl) | ((with_reducible apply l_read); rfl; exact Hrd.out; rfl) | (go_at_call 167; refine (rl2_c _ x (by (try simp only [List.length_cons]); omega)).mono ?_; rintro en w1 ⟨rfl, hf1⟩; replace hS := hS.keep hf1) | ((with_reducible apply l_append); assumption; rfl; rfl; (intro v'; (repeat (first | exact Upd.head | apply Upd.tail))); rfl; exact RdS.of_row (hS.get (by exact Has.head)) 1 1 rfl (Nat.le_refl _); simp [Value.oneCell']; (first | omega | (simp; done) | (simp; omega)); (first | omega | (simp; done) | (simp; omega)); clear hS; intro v' w hS hnil) | ((with_reducible apply l_alloc); assumption; rfl; clear hS; intro b w hS) | ((with_reducible apply l_box); assumption; rfl; clear hS; intro b w hS) | ((with_reducible apply l_load); assumption; rfl; (repeat (first | exact Has.head | apply Has.tail)); (first | rfl | (simp [takeV]; done))) | ((with_reducible apply l_build); rfl; (simp [fillL, splice, Value.cells, Act.eval]; rfl)) | ((with_reducible apply l_buildA); rfl; (simp [fillL, splice, Value.cells, Act.eval]; rfl)) | ((with_reducible apply l_bslice); assumption; rfl; rfl; (first | (simp [fillL, splice, zeros, Value.cells, Act.eval]; rfl) | rfl); clear hS; intro b w hS) | ((with_reducible apply l_storeF); assumption; rfl; rfl; (repeat (first | exact Upd.head | apply Upd.tail)); rfl; clear hS; intro w hS) | ((with_reducible apply l_store); assumption; rfl; rfl; (repeat (first | exact Upd.head | apply Upd.tail)); rfl; clear hS; intro w hS; simp only [splice] at hS; try rw [splice_nil] at hS))
      replace hS := hS.sub (L' := [own 9 1 (.slice (some ⟨bb, o, none⟩) P.length cp) P.length (sv P), own 9 1 v' (F.length + 1) (sv F ++ [txt (tl2 x)])]) (by (repeat (first | exact List.Sublist.slnil | exact List.Sublist.refl _ | apply List.Sublist.cons_cons | apply List.Sublist.cons)))
      go_roundg (gk - 1)
      case measure => omega
      case rel => exact ⟨i + 1, by omega, by go_num, by rw [HN.out, List.length_append, sv_append]; exact hS⟩
    · have hie : i = P.length := by omega
      subst hie
      rw [List.take_length] at hS
      obtain ⟨F, hF⟩ : ∃ F, F = [tl0 (ci :: id), tl1 (ct :: ty)] ++ P.map tl2 := ⟨_, rfl⟩
      have hFl : F.length ≤ 65540 := by rw [hF]; simp; omega
      rw [← hF] at hS
      have HRL2 : Hid (RL = F ++ [[]]) := Lib.hid (by rw [HRL.out, hF])
      have hnn : decide ((P.length : Int) < (P.length : Int)) = false := by simp
      clear hF
      go_wp2_with (first | ((with_reducible apply l_want); rfl) | ((with_reducible apply l_append); assumption; rfl; rfl; (intro v'; (repeat (first | exact Upd.head | apply Upd.tail))); rfl; exact RdS.of_row (hS.get (by exact Has.head)) 1 1 rfl (Nat.le_refl _); simp [Value.oneCell']; (first | omega | (simp; done) | (simp; omega)); (first | omega | (simp; done) | (simp; omega)); clear hS; intro v' w hS hnil) | ((with_reducible apply l_alloc); assumption; rfl; clear hS; intro b w hS) | ((with_reducible apply l_box); assumption; rfl; clear hS; intro b w hS) | ((with_reducible apply l_load); assumption; rfl; (repeat (first | exact Has.head | apply Has.tail)); (first | rfl | (simp [takeV]; done))) | ((with_reducible apply l_build); rfl; (simp [fillL, splice, Value.cells, Act.eval]; rfl)) | ((with_reducible apply l_buildA); rfl; (simp [fillL, splice, Value.cells, Act.eval]; rfl)) | ((with_reducible apply l_bslice); assumption; rfl; rfl; (first | (simp [fillL, splice, zeros, Value.cells, Act.eval]; rfl) | rfl); clear hS; intro b w hS) | ((with_reducible apply l_storeF); assumption; rfl; rfl; (repeat (first | exact Upd.head | apply Upd.tail)); rfl; clear hS; intro w hS) | ((with_reducible apply l_store); assumption; rfl; rfl; (repeat (first | exact Upd.head | apply Upd.tail)); rfl; clear hS; intro w hS; simp only [splice] at hS; try rw [splice_nil] at hS))
      go_ret
      refine ⟨_, rfl, ?_⟩
      rw [HRL2.out, List.length_append, sv_append]
      exact hS.sub (L' := [own 9 1 v' (F.length + 1) (sv F ++ [txt []])]) (by (repeat (first | exact List.Sublist.slnil | exact List.Sublist.refl _ | apply List.Sublist.cons_cons | apply List.Sublist.cons)))
theorem rightQ_small {e : Ev} (h : rightQ e = true) : e.id.length + e.ty.length + e.da.length ≤ 65536 := by
  unfold rightQ at h
  simp only [Bool.and_eq_true, decide_eq_true_eq] at h
  exact h.1.1.1
/-- The document's lines of an event that may be. -/
theorem rlines_y (w0 : World) (e : Ev) (hq : rightQ e = true) :
    Calls Tryz.prog 85 #[e.v] w0 fun en w' => ∃ v, en = .returned v ∧ St [] w0 w' [own 9 1 v (linesP e ++ [[]]).length (sv (linesP e ++ [[]]))] := by
  have hsm := rightQ_small hq
  have hr := fun W => right_c W e hsm
  rw [hq] at hr
  obtain ⟨id, ty, da⟩ := e
  cases id with
  | nil =>
    cases ty with
    | nil => exact rlines_nn w0 da hsm hr
    | cons ct ty => exact rlines_nc w0 ct ty da hsm hr
  | cons ci id =>
    cases ty with
    | nil => exact rlines_cn w0 ci id da hsm hr
    | cons ct ty => exact rlines_cc w0 ci id ct ty da hsm hr
def flatN (l : List (List UInt8)) : List UInt8 := l.flatMap fun x => x ++ [10]
theorem flatN_succ {l : List (List UInt8)} {i : Nat} {x : List UInt8} (h : l[i]? = some x) : flatN (l.take (i + 1)) = flatN (l.take i) ++ x ++ [10] := by
  obtain ⟨hlt, rfl⟩ := List.getElem?_eq_some_iff.1 h
  unfold flatN
  rw [List.take_succ_eq_append_getElem hlt, List.flatMap_append]
  simp only [List.flatMap_cons, List.flatMap_nil, List.append_nil, List.append_assoc]
theorem flatN_enc (e : Ev) : flatN (linesP e ++ [[]]) = encP e := by
  unfold flatN encP
  rw [bytesOf_eq, List.flatMap_append]
  rfl
/-- The document's bytes of an event that may be. -/
theorem rbytes_c (w0 : World) (e : Ev) (hq : rightQ e = true) :
    Calls Tryz.prog 34 #[e.v] w0 fun en w' => en = .returned (txt (encP e)) ∧ Fr [] w0 w' := by
  have hsm := rightQ_small hq
  have hll := linesP_len e hsm
  have hl := fun W => rlines_y W e hq
  rw [← flatN_enc]
  obtain ⟨L, hL⟩ : ∃ L, L = linesP e ++ [[]] := ⟨_, rfl⟩
  have h1 : L.length ≤ 65541 := by rw [hL]; simp; omega
  have h2 : ∀ x ∈ L, x.length ≤ 65550 := by
    rw [hL]
    intro x hx
    rcases List.mem_append.1 hx with h | h
    · exact hll.2 x h
    · simp at h; subst h; simp
  rw [← hL] at hl ⊢
  have Hl := Lib.hid hl
  have H2 := Lib.hid h2
  clear hl h2 hL hll hq
  change Calls Tryz.prog 34 #[.agg ⟨[txt e.id, txt e.ty, txt e.da]⟩] w0 _
  go_enter Tryz.func34, Tryz.ntmps34
  have hS := St.start [] w0
  go_wp2_with (first | ((with_reducible apply l_want); rfl) | (go_at_call 85; go_must (refine (Hl.out _).mono ?_); rintro en w1 ⟨v, rfl, hT⟩; replace hS := hS.join hT; obtain ⟨A, cp, rfl, hcp⟩ := (RdS.of_own (hT.get (c := own 9 1 v L.length (sv L)) (by exact Has.head))).shape; clear hT) | ((with_reducible apply l_alloc); assumption; rfl; clear hS; intro b w hS) | ((with_reducible apply l_box); assumption; rfl; clear hS; intro b w hS) | ((with_reducible apply l_load); assumption; rfl; (repeat (first | exact Has.head | apply Has.tail)); (first | rfl | (simp [takeV]; done))) | ((with_reducible apply l_build); rfl; (simp [fillL, splice, Value.cells, Act.eval]; rfl)) | ((with_reducible apply l_buildA); rfl; (simp [fillL, splice, Value.cells, Act.eval]; rfl)) | ((with_reducible apply l_bslice); assumption; rfl; rfl; (first | (simp [fillL, splice, zeros, Value.cells, Act.eval]; rfl) | rfl); clear hS; intro b w hS) | ((with_reducible apply l_storeF); assumption; rfl; rfl; (repeat (first | exact Upd.head | apply Upd.tail)); rfl; clear hS; intro w hS) | ((with_reducible apply l_store); assumption; rfl; rfl; (repeat (first | exact Upd.head | apply Upd.tail)); rfl; clear hS; intro w hS; simp only [splice] at hS; try rw [splice_nil] at hS))
  replace hS := hS.sub (L' := [own 9 1 (.slice A L.length cp) L.length (sv L)]) (by (repeat (first | exact List.Sublist.slnil | exact List.Sublist.refl _ | apply List.Sublist.cons_cons | apply List.Sublist.cons)))
  go_loopg [3, 5] L.length (fun g t3 t5 wr => ∃ i : Nat, i + g = L.length ∧ t5 = .int .i64 (i : Int) ∧ t3 = txt (flatN (L.take i)) ∧ St [] w0 wr [own 9 1 (.slice A L.length cp) L.length (sv L)])
  case atStart => exact ⟨0, by omega, rfl, rfl, hS⟩
  case round =>
    obtain ⟨i, hig, rfl, rfl, hS⟩ := hrel
    by_cases hi : i < L.length
    · obtain ⟨x, hx⟩ : ∃ x, L[i]? = some x := ⟨_, List.getElem?_eq_getElem hi⟩
      have hxl := H2.out x (List.mem_of_getElem? hx)
      obtain ⟨_, bb, o, rfl, hrd⟩ := (RdS.of_own (hS.get (c := own 9 1 (.slice A L.length cp) L.length (sv L)) (by exact Has.head))).at i hi (by decide)
      have hrd1 : Rd wr bb (o + i) [txt x] := by
        have h1 := hrd.take 1
        rw [Nat.mul_one, List.drop_eq_getElem_cons (by rw [sv_length]; exact hi)] at h1
        have e : (sv L)[i]'(by rw [sv_length]; exact hi) = txt x := by
          have := (List.getElem?_eq_some_iff.1 hx).2
          simp [sv, this]
        rw [e] at h1
        exact h1
      have Hrd := Lib.hid hrd1
      have hfs := flatN_succ hx
      have hfl : (flatN (L.take i)).length ≤ (L.take i).length * (65550 + 1) := flat_len 65550 (L.take i) (fun y hy => H2.out y (List.mem_of_mem_take hy))
      have hfl2 : (flatN (L.take i)).length ≤ 65541 * (65550 + 1) := Nat.le_trans hfl (Nat.mul_le_mul_right _ (by rw [List.length_take]; omega))
      obtain ⟨X, hX⟩ : ∃ X, X = flatN (L.take i) := ⟨_, rfl⟩
      rw [← hX] at hfs hfl2 ⊢
      have Hfs := Lib.hid hfs
      clear hrd hrd1 hx hfs hfl hX
      go_wp2_with (first | ((with_reducible apply l_want); rfl) | ((with_reducible apply l_read); rfl; exact Hrd.out; rfl) | ((with_reducible apply l_cat (l := X) (m := x)); rfl; rfl; omega) | ((with_reducible apply l_cat (l := X ++ x) (m := [10])); rfl; rfl; (simp; omega)) | ((with_reducible apply l_alloc); assumption; rfl; clear hS; intro b w hS) | ((with_reducible apply l_box); assumption; rfl; clear hS; intro b w hS) | ((with_reducible apply l_load); assumption; rfl; (repeat (first | exact Has.head | apply Has.tail)); (first | rfl | (simp [takeV]; done))) | ((with_reducible apply l_build); rfl; (simp [fillL, splice, Value.cells, Act.eval]; rfl)) | ((with_reducible apply l_buildA); rfl; (simp [fillL, splice, Value.cells, Act.eval]; rfl)) | ((with_reducible apply l_bslice); assumption; rfl; rfl; (first | (simp [fillL, splice, zeros, Value.cells, Act.eval]; rfl) | rfl); clear hS; intro b w hS) | ((with_reducible apply l_storeF); assumption; rfl; rfl; (repeat (first | exact Upd.head | apply Upd.tail)); rfl; clear hS; intro w hS) | ((with_reducible apply l_store); assumption; rfl; rfl; (repeat (first | exact Upd.head | apply Upd.tail)); rfl; clear hS; intro w hS; simp only [splice] at hS; try rw [splice_nil] at hS))
      go_roundg (gk - 1)
      case measure => omega
      case rel => exact ⟨i + 1, by omega, by go_num, by rw [Hfs.out, List.append_assoc], hS⟩
    · have hie : i = L.length := by omega
      subst hie
      rw [List.take_length]
      have hnn : decide ((L.length : Int) < (L.length : Int)) = false := by simp
      go_wp2_with (first | ((with_reducible apply l_want); rfl) | ((with_reducible apply l_alloc); assumption; rfl; clear hS; intro b w hS) | ((with_reducible apply l_box); assumption; rfl; clear hS; intro b w hS) | ((with_reducible apply l_load); assumption; rfl; (repeat (first | exact Has.head | apply Has.tail)); (first | rfl | (simp [takeV]; done))) | ((with_reducible apply l_build); rfl; (simp [fillL, splice, Value.cells, Act.eval]; rfl)) | ((with_reducible apply l_buildA); rfl; (simp [fillL, splice, Value.cells, Act.eval]; rfl)) | ((with_reducible apply l_bslice); assumption; rfl; rfl; (first | (simp [fillL, splice, zeros, Value.cells, Act.eval]; rfl) | rfl); clear hS; intro b w hS) | ((with_reducible apply l_storeF); assumption; rfl; rfl; (repeat (first | exact Upd.head | apply Upd.tail)); rfl; clear hS; intro w hS) | ((with_reducible apply l_store); assumption; rfl; rfl; (repeat (first | exact Upd.head | apply Upd.tail)); rfl; clear hS; intro w hS; simp only [splice] at hS; try rw [splice_nil] at hS))
      go_ret
      exact ⟨rfl, hS.fr⟩
theorem rcomment_0 (w0 : World) (l : List UInt8) (hl : l.length ≤ 65536) (h : Bool) (s : Bool) (hh : ∀ W, Calls Tryz.prog 110 #[txt l, txt [13, 10]] W fun e w' => e = .returned (.bool h) ∧ Fr [] W w') (hs : ∀ W, Calls Tryz.prog 111 #[txt l] W fun e w' => e = .returned (.bool s) ∧ Fr [] W w') :
    Calls Tryz.prog 39 #[txt l] w0 fun en w' => en = .returned (if (!h && s) = true then .tuple #[txt ([58, 32] ++ l ++ [10, 10]), .int .i64 0] else .tuple #[txt [], .int .i64 2]) ∧ Fr [] w0 w' := by
  have fl : decide ((65536 : Int) < (l.length : Int)) = false := by simp; omega
  have Hh := Lib.hid hh
  have Hs := Lib.hid hs
  clear hh hs
  cases h with
  | true =>
    go_enter Tryz.func39, Tryz.ntmps39
    have hS := St.start [] w0
    go_wp2_with (first | ((with_reducible apply l_want); rfl) | (go_at_call 110; go_must (refine (Hh.out _).mono ?_); rintro en w1 ⟨rfl, hf1⟩; replace hS := hS.keep hf1) | ((with_reducible apply l_alloc); assumption; rfl; clear hS; intro b w hS) | ((with_reducible apply l_box); assumption; rfl; clear hS; intro b w hS) | ((with_reducible apply l_load); assumption; rfl; (repeat (first | exact Has.head | apply Has.tail)); (first | rfl | (simp [takeV]; done))) | ((with_reducible apply l_build); rfl; (simp [fillL, splice, Value.cells, Act.eval]; rfl)) | ((with_reducible apply l_buildA); rfl; (simp [fillL, splice, Value.cells, Act.eval]; rfl)) | ((with_reducible apply l_bslice); assumption; rfl; rfl; (first | (simp [fillL, splice, zeros, Value.cells, Act.eval]; rfl) | rfl); clear hS; intro b w hS) | ((with_reducible apply l_storeF); assumption; rfl; rfl; (repeat (first | exact Upd.head | apply Upd.tail)); rfl; clear hS; intro w hS) | ((with_reducible apply l_store); assumption; rfl; rfl; (repeat (first | exact Upd.head | apply Upd.tail)); rfl; clear hS; intro w hS; simp only [splice] at hS; try rw [splice_nil] at hS))
    go_ret2
    exact ⟨rfl, hS.fr⟩
  | false =>
    cases s with
    | false =>
      go_enter Tryz.func39, Tryz.ntmps39
      have hS := St.start [] w0
      go_wp2_with (first | ((with_reducible apply l_want); rfl) | (go_at_call 110; go_must (refine (Hh.out _).mono ?_); rintro en w1 ⟨rfl, hf1⟩; replace hS := hS.keep hf1) | (go_at_call 111; go_must (refine (Hs.out _).mono ?_); rintro en w1 ⟨rfl, hf1⟩; replace hS := hS.keep hf1) | ((with_reducible apply l_alloc); assumption; rfl; clear hS; intro b w hS) | ((with_reducible apply l_box); assumption; rfl; clear hS; intro b w hS) | ((with_reducible apply l_load); assumption; rfl; (repeat (first | exact Has.head | apply Has.tail)); (first | rfl | (simp [takeV]; done))) | ((with_reducible apply l_build); rfl; (simp [fillL, splice, Value.cells, Act.eval]; rfl)) | ((with_reducible apply l_buildA); rfl; (simp [fillL, splice, Value.cells, Act.eval]; rfl)) | ((with_reducible apply l_bslice); assumption; rfl; rfl; (first | (simp [fillL, splice, zeros, Value.cells, Act.eval]; rfl) | rfl); clear hS; intro b w hS) | ((with_reducible apply l_storeF); assumption; rfl; rfl; (repeat (first | exact Upd.head | apply Upd.tail)); rfl; clear hS; intro w hS) | ((with_reducible apply l_store); assumption; rfl; rfl; (repeat (first | exact Upd.head | apply Upd.tail)); rfl; clear hS; intro w hS; simp only [splice] at hS; try rw [splice_nil] at hS))
      go_ret2
      exact ⟨rfl, hS.fr⟩
    | true =>
      go_enter Tryz.func39, Tryz.ntmps39
      have hS := St.start [] w0
      go_wp2_with (first | ((with_reducible apply l_want); rfl) | (go_at_call 110; go_must (refine (Hh.out _).mono ?_); rintro en w1 ⟨rfl, hf1⟩; replace hS := hS.keep hf1) | (go_at_call 111; go_must (refine (Hs.out _).mono ?_); rintro en w1 ⟨rfl, hf1⟩; replace hS := hS.keep hf1) | ((with_reducible apply l_cat (l := [58, 32]) (m := l)); rfl; rfl; (simp; omega)) | ((with_reducible apply l_cat (l := [58, 32] ++ l) (m := [10, 10])); rfl; rfl; (simp; omega)) | ((with_reducible apply l_alloc); assumption; rfl; clear hS; intro b w hS) | ((with_reducible apply l_box); assumption; rfl; clear hS; intro b w hS) | ((with_reducible apply l_load); assumption; rfl; (repeat (first | exact Has.head | apply Has.tail)); (first | rfl | (simp [takeV]; done))) | ((with_reducible apply l_build); rfl; (simp [fillL, splice, Value.cells, Act.eval]; rfl)) | ((with_reducible apply l_buildA); rfl; (simp [fillL, splice, Value.cells, Act.eval]; rfl)) | ((with_reducible apply l_bslice); assumption; rfl; rfl; (first | (simp [fillL, splice, zeros, Value.cells, Act.eval]; rfl) | rfl); clear hS; intro b w hS) | ((with_reducible apply l_storeF); assumption; rfl; rfl; (repeat (first | exact Upd.head | apply Upd.tail)); rfl; clear hS; intro w hS) | ((with_reducible apply l_store); assumption; rfl; rfl; (repeat (first | exact Upd.head | apply Upd.tail)); rfl; clear hS; intro w hS; simp only [splice] at hS; try rw [splice_nil] at hS))
      go_ret2
      exact ⟨rfl, hS.fr⟩
/-- The document's comment. -/
theorem rcomment_c (w0 : World) (l : List UInt8) (hl : l.length ≤ 65536) :
    Calls Tryz.prog 39 #[txt l] w0 fun en w' => en = .returned (if textP [13, 10] l = true then .tuple #[txt (58 :: 32 :: (l ++ [10, 10])), .int .i64 0] else .tuple #[txt [], .int .i64 2]) ∧ Fr [] w0 w' := by
  have h := rcomment_0 w0 l hl _ _ (fun W => has_c W l [13, 10] (by omega) (by decide)) (fun W => sound_u W l (by omega))
  simp only [List.cons_append, List.nil_append] at h
  exact h
end Go.Proofs.YtaejmginhkbbhaaGreatDoor
