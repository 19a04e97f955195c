/- The walks through package event, seventh part: an event's lines (F136). Conditions: as each contract says. -/
import Derived.Test.YtaejmginhkbbhaaGreatDoorV9
set_option linter.unusedSimpArgs false
set_option linter.unusedVariables false
set_option maxRecDepth 100000
set_option maxHeartbeats 1000000
namespace Go.Proofs.YtaejmginhkbbhaaGreatDoor
open Go Go.RowKit
theorem lineP_len (f : Fd) : (lineP f).length ≤ f.name.length + f.val.length + 2 := by
  unfold lineP
  split
  · simp; omega
  · split
    · omega
    · simp; omega
theorem fieldL0_c (w0 : World) (l : List UInt8) : Calls Tryz.prog 247 #[txt l] w0 fun en w' => en = .returned (.agg ⟨[.int .i64 5, txt [105, 100], txt l]⟩) ∧ Fr [] w0 w' := field0_c w0 l
noncomputable def tl0 (l : List UInt8) : List UInt8 := toldP ⟨5, [105, 100], l⟩
theorem told0_c (w0 : World) (hG : Glob w0) (l : List UInt8) (v : Value) (hl : l.length ≤ 65536) (hr : RdS w0 3 v 1 [.int .i64 5, txt [105, 100], txt l]) :
    Calls Tryz.prog 125 #[v] w0 fun e w' => ∃ v', e = .returned v' ∧ St [] w0 w' [own 9 1 v' 1 [txt (tl0 l)]] := told_f w0 hG ⟨5, [105, 100], l⟩ v (by have := lineP_len ⟨5, [105, 100], l⟩; simp at this; omega) hr
theorem fieldL1_c (w0 : World) (l : List UInt8) : Calls Tryz.prog 249 #[txt l] w0 fun en w' => en = .returned (.agg ⟨[.int .i64 4, txt [101, 118, 101, 110, 116], txt l]⟩) ∧ Fr [] w0 w' := field1_c w0 l
noncomputable def tl1 (l : List UInt8) : List UInt8 := toldP ⟨4, [101, 118, 101, 110, 116], l⟩
theorem told1_c (w0 : World) (hG : Glob w0) (l : List UInt8) (v : Value) (hl : l.length ≤ 65536) (hr : RdS w0 3 v 1 [.int .i64 4, txt [101, 118, 101, 110, 116], txt l]) :
    Calls Tryz.prog 125 #[v] w0 fun e w' => ∃ v', e = .returned v' ∧ St [] w0 w' [own 9 1 v' 1 [txt (tl1 l)]] := told_f w0 hG ⟨4, [101, 118, 101, 110, 116], l⟩ v (by have := lineP_len ⟨4, [101, 118, 101, 110, 116], l⟩; simp at this; omega) hr
theorem fieldL2_c (w0 : World) (l : List UInt8) : Calls Tryz.prog 252 #[txt l] w0 fun en w' => en = .returned (.agg ⟨[.int .i64 3, txt [100, 97, 116, 97], txt l]⟩) ∧ Fr [] w0 w' := field2_c w0 l
noncomputable def tl2 (l : List UInt8) : List UInt8 := toldP ⟨3, [100, 97, 116, 97], l⟩
theorem told2_c (w0 : World) (hG : Glob w0) (l : List UInt8) (v : Value) (hl : l.length ≤ 65536) (hr : RdS w0 3 v 1 [.int .i64 3, txt [100, 97, 116, 97], txt l]) :
    Calls Tryz.prog 125 #[v] w0 fun e w' => ∃ v', e = .returned v' ∧ St [] w0 w' [own 9 1 v' 1 [txt (tl2 l)]] := told_f w0 hG ⟨3, [100, 97, 116, 97], l⟩ v (by have := lineP_len ⟨3, [100, 97, 116, 97], l⟩; simp at this; omega) hr
/-- An event's lines, without the empty one. -/
noncomputable def linesP (e : Ev) : List (List UInt8) := ((someP e.id).map tl0 ++ (someP e.ty).map tl1) ++ (splitP 10 e.da).map tl2
theorem map_take {α β : Type} (f : α → β) (l : List α) (i : Nat) (x : α) (h : l[i]? = some x) : (l.take (i + 1)).map f = (l.take i).map f ++ [f x] := by
  obtain ⟨hlt, rfl⟩ := List.getElem?_eq_some_iff.1 h
  rw [List.take_succ_eq_append_getElem hlt, List.map_append]
  rfl
theorem checked_y (w0 : World) (hG : Glob w0) (e : Ev) (hsm : e.id.length + e.ty.length + e.da.length ≤ 65536) (h : checkP e = true) : Calls Tryz.prog 134 #[.agg ⟨[txt e.id, txt e.ty, txt e.da]⟩] w0 fun en w' => (∃ v, en = .returned v) ∧ Fr [] w0 w' := by
  refine (checked_c w0 hG e hsm).mono fun en w' h2 => ⟨?_, h2.2⟩
  have := h2.1
  rw [h] at this
  exact this
theorem lines_y (w0 : World) (hG : Glob w0) (e : Ev) (hsm : e.id.length + e.ty.length + e.da.length ≤ 65536) (hch : checkP e = true) :
    Calls Tryz.prog 136 #[e.v] w0 fun en w' => ∃ v, en = .returned v ∧ St [] w0 w' [own 9 1 v (linesP e).length (sv (linesP e))] := by
  obtain ⟨R, hR⟩ : ∃ R, R = linesP e := ⟨_, rfl⟩
  rw [← hR]
  unfold linesP at hR
  have hda : e.da.length < 4294967281 := by omega
  have HR := Lib.hid hR
  have hcy := fun W (hW : Glob W) => checked_y W hW e hsm hch
  have Hcy := Lib.hid hcy
  clear hR hcy hch
  change Calls Tryz.prog 136 #[.agg ⟨[txt e.id, txt e.ty, txt e.da]⟩] w0 _
  go_enter Tryz.func136, Tryz.ntmps136
  have hS := (St.start [] w0).addNil (c' := own 9 1 (.slice none 0 0) 0 []) (ownNil _ _ _) rfl
  go_wp2_with (first | ((with_reducible apply l_want); rfl) | ((with_reducible apply l_box); assumption; rfl; clear hS; intro bF w hS) | (go_at_call 134; go_must (refine (Hcy.out _ (hG.keep hS.fr)).mono ?_); rintro en w1 ⟨⟨v, rfl⟩, hf1⟩; replace hS := hS.keep hf1) | (go_at_call 201; go_must (refine (parts_c _).mono ?_); rintro en w1 ⟨rfl, hf1⟩; replace hS := hS.keep hf1) | ((with_reducible apply l_alloc); assumption; rfl; clear hS; intro b w hS) | ((with_reducible apply l_box); assumption; rfl; clear hS; intro b w hS) | ((with_reducible apply l_load); assumption; rfl; (repeat (first | exact Has.head | apply Has.tail)); (first | rfl | (simp [takeV]; done))) | ((with_reducible apply l_build); rfl; (simp [fillL, splice, Value.cells, Act.eval]; rfl)) | ((with_reducible apply l_buildA); rfl; (simp [fillL, splice, Value.cells, Act.eval]; rfl)) | ((with_reducible apply l_bslice); assumption; rfl; rfl; (first | (simp [fillL, splice, zeros, Value.cells, Act.eval]; rfl) | rfl); clear hS; intro b w hS) | ((with_reducible apply l_storeF); assumption; rfl; rfl; (repeat (first | exact Upd.head | apply Upd.tail)); rfl; clear hS; intro w hS) | ((with_reducible apply l_store); assumption; rfl; rfl; (repeat (first | exact Upd.head | apply Upd.tail)); rfl; clear hS; intro w hS; simp only [splice] at hS; try rw [splice_nil] at hS))
  replace hS := hS.sub (L' := [row bF 232 [txt e.id, txt e.ty, txt e.da], own 9 1 (.slice none 0 0) 0 []]) (by (repeat (first | exact List.Sublist.slnil | exact List.Sublist.refl _ | apply List.Sublist.cons_cons | apply List.Sublist.cons)))
  refine wp_loop_rounds 4 ?_
  -- part 0
  rw [rounds_succ]
  go_wp2_with (first | ((with_reducible apply l_want); rfl) | ((with_reducible apply l_index (i := 0)); rfl; rfl; decide; rfl) | (go_at_call 245; go_must (refine (texts0_c _ e).mono ?_); rintro en w1 ⟨v, rfl, hT⟩; replace hS := hS.join hT; obtain ⟨A, cp, rfl, hcp⟩ := (hS.get (c := rdS 1 v (someP e.id).length (sv (someP e.id))) (by exact Has.head)).shape; clear hT) | ((with_reducible apply l_alloc); assumption; rfl; clear hS; intro b w hS) | ((with_reducible apply l_box); assumption; rfl; clear hS; intro b w hS) | ((with_reducible apply l_load); assumption; rfl; (repeat (first | exact Has.head | apply Has.tail)); (first | rfl | (simp [takeV]; done))) | ((with_reducible apply l_build); rfl; (simp [fillL, splice, Value.cells, Act.eval]; rfl)) | ((with_reducible apply l_buildA); rfl; (simp [fillL, splice, Value.cells, Act.eval]; rfl)) | ((with_reducible apply l_bslice); assumption; rfl; rfl; (first | (simp [fillL, splice, zeros, Value.cells, Act.eval]; rfl) | rfl); clear hS; intro b w hS) | ((with_reducible apply l_storeF); assumption; rfl; rfl; (repeat (first | exact Upd.head | apply Upd.tail)); rfl; clear hS; intro w hS) | ((with_reducible apply l_store); assumption; rfl; rfl; (repeat (first | exact Upd.head | apply Upd.tail)); rfl; clear hS; intro w hS; simp only [splice] at hS; try rw [splice_nil] at hS))
  replace hS := hS.sub (L' := [rdS 1 (.slice A (someP e.id).length cp) (someP e.id).length (sv (someP e.id)), row b 313 [txt [0, 13, 10], fnv 245, fnv 247], row bF 232 [txt e.id, txt e.ty, txt e.da], own 9 1 (.slice none 0 0) (([] : List (List UInt8))).length (sv (([] : List (List UInt8))))]) (by (repeat (first | exact List.Sublist.slnil | exact List.Sublist.refl _ | apply List.Sublist.cons_cons | apply List.Sublist.cons)))
  have hlb0 := (by unfold someP; split <;> simp : (someP e.id).length ≤ 1)
  go_loopg [2, 18] (someP e.id).length (fun g out t18 wr => ∃ i : Nat, i + g = (someP e.id).length ∧ t18 = .int .i64 (i : Int) ∧ St [] w0 wr [rdS 1 (.slice A (someP e.id).length cp) (someP e.id).length (sv (someP e.id)), row b 313 [txt [0, 13, 10], fnv 245, fnv 247], row bF 232 [txt e.id, txt e.ty, txt e.da], own 9 1 out (([] : List (List UInt8)) ++ ((someP e.id).take i).map tl0).length (sv (([] : List (List UInt8)) ++ ((someP e.id).take i).map tl0))])
  case atStart => exact ⟨0, by omega, rfl, by simpa using hS⟩
  case round =>
    obtain ⟨i, hig, rfl, hS⟩ := hrel
    by_cases hlt : i < (someP e.id).length
    · obtain ⟨x, hx⟩ : ∃ x, (someP e.id)[i]? = some x := ⟨_, List.getElem?_eq_getElem hlt⟩
      have hxl : x.length ≤ 65536 := by
        have : ∀ x ∈ someP e.id, x.length ≤ e.id.length := fun x hx => someP_len _ x hx
        have := this x (List.mem_of_getElem? hx)
        omega
      have hmt := map_take tl0 (someP e.id) i x hx
      have hrd0 := hS.get (c := rdS 1 (.slice A (someP e.id).length cp) (someP e.id).length (sv (someP e.id))) (by exact Has.head)
      obtain ⟨_, bb, o, rfl, hrd⟩ := hrd0.at i hlt (by decide)
      have hrd1 : Rd wr bb (o + i) [txt x] := by
        have := hrd.take 1
        rw [Nat.mul_one] at this
        have e1 : ((sv (someP e.id)).drop i).take 1 = [txt x] := by
          rw [List.drop_eq_getElem_cons (by rw [sv_length]; exact hlt)]
          have := (List.getElem?_eq_some_iff.1 hx).2
          simp [sv, this]
        rwa [e1] at this
      have hal : (([] : List (List UInt8)) ++ ((someP e.id).take i).map tl0).length ≤ 200000 := by
        simp only [List.length_append, List.length_map, List.length_take, List.length_nil]
        omega
      have Hrd := Lib.hid hrd1
      have Hmt := Lib.hid hmt
      clear hrd0 hrd hrd1 hmt hx
      go_wp2_with (first | ((with_reducible apply l_want); rfl) | ((with_reducible apply l_read); rfl; exact Hrd.out; rfl) | (go_at_call 247; go_must (refine (fieldL0_c _ x).mono ?_); rintro en w1 ⟨rfl, hf1⟩; replace hS := hS.keep hf1) | (go_at_call 125; go_must (refine (told0_c _ (hG.keep hS.fr) x _ hxl (RdS.of_row (hS.get (by exact Has.head)) 1 1 rfl (Nat.le_refl _))).mono ?_); rintro en w1 ⟨vt, rfl, hT⟩; replace hS := hS.join hT; clear hT) | ((with_reducible apply l_append); assumption; rfl; rfl; (intro v'; (repeat (first | exact Upd.head | apply Upd.tail))); rfl; exact RdS.of_own (hS.get (by exact Has.head)); simp [Value.oneCell']; omega; omega; clear hS; intro v' w hS hnil) | ((with_reducible apply l_alloc); assumption; rfl; clear hS; intro b w hS) | ((with_reducible apply l_box); assumption; rfl; clear hS; intro b w hS) | ((with_reducible apply l_load); assumption; rfl; (repeat (first | exact Has.head | apply Has.tail)); (first | rfl | (simp [takeV]; done))) | ((with_reducible apply l_build); rfl; (simp [fillL, splice, Value.cells, Act.eval]; rfl)) | ((with_reducible apply l_buildA); rfl; (simp [fillL, splice, Value.cells, Act.eval]; rfl)) | ((with_reducible apply l_bslice); assumption; rfl; rfl; (first | (simp [fillL, splice, zeros, Value.cells, Act.eval]; rfl) | rfl); clear hS; intro b w hS) | ((with_reducible apply l_storeF); assumption; rfl; rfl; (repeat (first | exact Upd.head | apply Upd.tail)); rfl; clear hS; intro w hS) | ((with_reducible apply l_store); assumption; rfl; rfl; (repeat (first | exact Upd.head | apply Upd.tail)); rfl; clear hS; intro w hS; simp only [splice] at hS; try rw [splice_nil] at hS))
      clear hnil
      go_roundg (gk - 1)
      case measure => omega
      case rel =>
        refine ⟨i + 1, by omega, by go_num, ?_⟩
        have e5 : ([] : List (List UInt8)) ++ ((someP e.id).take (i + 1)).map tl0 = (([] : List (List UInt8)) ++ ((someP e.id).take i).map tl0) ++ [tl0 x] := by rw [Hmt.out]; simp only [List.append_assoc]
        rw [e5, List.length_append, sv_append]
        exact hS.sub (by (repeat (first | exact List.Sublist.slnil | exact List.Sublist.refl _ | apply List.Sublist.cons_cons | apply List.Sublist.cons)))
    · have hie : i = (someP e.id).length := by omega
      have hn : ¬ ((i : Int) < ((someP e.id).length : Int)) := by omega
      rw [hie, List.take_length] at hS
      rw [List.nil_append] at hS
      obtain ⟨AO1, CO1, rfl, _⟩ := (RdS.of_own (hS.get (by exact Has.head.tail.tail.tail))).shape
      go_wp2_with (first | ((with_reducible apply l_want); rfl) | ((with_reducible apply l_alloc); assumption; rfl; clear hS; intro b w hS) | ((with_reducible apply l_box); assumption; rfl; clear hS; intro b w hS) | ((with_reducible apply l_load); assumption; rfl; (repeat (first | exact Has.head | apply Has.tail)); (first | rfl | (simp [takeV]; done))) | ((with_reducible apply l_build); rfl; (simp [fillL, splice, Value.cells, Act.eval]; rfl)) | ((with_reducible apply l_buildA); rfl; (simp [fillL, splice, Value.cells, Act.eval]; rfl)) | ((with_reducible apply l_bslice); assumption; rfl; rfl; (first | (simp [fillL, splice, zeros, Value.cells, Act.eval]; rfl) | rfl); clear hS; intro b w hS) | ((with_reducible apply l_storeF); assumption; rfl; rfl; (repeat (first | exact Upd.head | apply Upd.tail)); rfl; clear hS; intro w hS) | ((with_reducible apply l_store); assumption; rfl; rfl; (repeat (first | exact Upd.head | apply Upd.tail)); rfl; clear hS; intro w hS; simp only [splice] at hS; try rw [splice_nil] at hS))
      -- part 1
      rw [rounds_succ]
      go_wp2_with (first | ((with_reducible apply l_want); rfl) | ((with_reducible apply l_index (i := 1)); rfl; rfl; decide; rfl) | (go_at_call 248; go_must (refine (texts1_c _ e).mono ?_); rintro en w1 ⟨v, rfl, hT⟩; replace hS := hS.join hT; obtain ⟨A, cp, rfl, hcp⟩ := (hS.get (c := rdS 1 v (someP e.ty).length (sv (someP e.ty))) (by exact Has.head)).shape; clear hT) | ((with_reducible apply l_alloc); assumption; rfl; clear hS; intro b w hS) | ((with_reducible apply l_box); assumption; rfl; clear hS; intro b w hS) | ((with_reducible apply l_load); assumption; rfl; (repeat (first | exact Has.head | apply Has.tail)); (first | rfl | (simp [takeV]; done))) | ((with_reducible apply l_build); rfl; (simp [fillL, splice, Value.cells, Act.eval]; rfl)) | ((with_reducible apply l_buildA); rfl; (simp [fillL, splice, Value.cells, Act.eval]; rfl)) | ((with_reducible apply l_bslice); assumption; rfl; rfl; (first | (simp [fillL, splice, zeros, Value.cells, Act.eval]; rfl) | rfl); clear hS; intro b w hS) | ((with_reducible apply l_storeF); assumption; rfl; rfl; (repeat (first | exact Upd.head | apply Upd.tail)); rfl; clear hS; intro w hS) | ((with_reducible apply l_store); assumption; rfl; rfl; (repeat (first | exact Upd.head | apply Upd.tail)); rfl; clear hS; intro w hS; simp only [splice] at hS; try rw [splice_nil] at hS))
      replace hS := hS.sub (L' := [rdS 1 (.slice A (someP e.ty).length cp) (someP e.ty).length (sv (someP e.ty)), row b 313 [txt [13, 10], fnv 248, fnv 249], row bF 232 [txt e.id, txt e.ty, txt e.da], own 9 1 (.slice AO1 ((someP e.id).map tl0).length CO1) ((someP e.id).map tl0).length (sv ((someP e.id).map tl0))]) (by (repeat (first | exact List.Sublist.slnil | exact List.Sublist.refl _ | apply List.Sublist.cons_cons | apply List.Sublist.cons)))
      have hlb1 := (by unfold someP; split <;> simp : (someP e.ty).length ≤ 1)
      go_loopg [2, 18] (someP e.ty).length (fun g out t18 wr => ∃ i : Nat, i + g = (someP e.ty).length ∧ t18 = .int .i64 (i : Int) ∧ St [] w0 wr [rdS 1 (.slice A (someP e.ty).length cp) (someP e.ty).length (sv (someP e.ty)), row b 313 [txt [13, 10], fnv 248, fnv 249], row bF 232 [txt e.id, txt e.ty, txt e.da], own 9 1 out ((someP e.id).map tl0 ++ ((someP e.ty).take i).map tl1).length (sv ((someP e.id).map tl0 ++ ((someP e.ty).take i).map tl1))])
      case atStart => exact ⟨0, by omega, rfl, by simpa using hS⟩
      case round =>
        obtain ⟨i, hig, rfl, hS⟩ := hrel
        by_cases hlt : i < (someP e.ty).length
        · obtain ⟨x, hx⟩ : ∃ x, (someP e.ty)[i]? = some x := ⟨_, List.getElem?_eq_getElem hlt⟩
          have hxl : x.length ≤ 65536 := by
            have : ∀ x ∈ someP e.ty, x.length ≤ e.ty.length := fun x hx => someP_len _ x hx
            have := this x (List.mem_of_getElem? hx)
            omega
          have hmt := map_take tl1 (someP e.ty) i x hx
          have hrd0 := hS.get (c := rdS 1 (.slice A (someP e.ty).length cp) (someP e.ty).length (sv (someP e.ty))) (by exact Has.head)
          obtain ⟨_, bb, o, rfl, hrd⟩ := hrd0.at i hlt (by decide)
          have hrd1 : Rd wr bb (o + i) [txt x] := by
            have := hrd.take 1
            rw [Nat.mul_one] at this
            have e1 : ((sv (someP e.ty)).drop i).take 1 = [txt x] := by
              rw [List.drop_eq_getElem_cons (by rw [sv_length]; exact hlt)]
              have := (List.getElem?_eq_some_iff.1 hx).2
              simp [sv, this]
            rwa [e1] at this
          have hal : ((someP e.id).map tl0 ++ ((someP e.ty).take i).map tl1).length ≤ 200000 := by
            simp only [List.length_append, List.length_map, List.length_take, List.length_nil]
            omega
          have Hrd := Lib.hid hrd1
          have Hmt := Lib.hid hmt
          clear hrd0 hrd hrd1 hmt hx
          go_wp2_with (first | ((with_reducible apply l_want); rfl) | ((with_reducible apply l_read); rfl; exact Hrd.out; rfl) | (go_at_call 249; go_must (refine (fieldL1_c _ x).mono ?_); rintro en w1 ⟨rfl, hf1⟩; replace hS := hS.keep hf1) | (go_at_call 125; go_must (refine (told1_c _ (hG.keep hS.fr) x _ hxl (RdS.of_row (hS.get (by exact Has.head)) 1 1 rfl (Nat.le_refl _))).mono ?_); rintro en w1 ⟨vt, rfl, hT⟩; replace hS := hS.join hT; clear hT) | ((with_reducible apply l_append); assumption; rfl; rfl; (intro v'; (repeat (first | exact Upd.head | apply Upd.tail))); rfl; exact RdS.of_own (hS.get (by exact Has.head)); simp [Value.oneCell']; omega; omega; clear hS; intro v' w hS hnil) | ((with_reducible apply l_alloc); assumption; rfl; clear hS; intro b w hS) | ((with_reducible apply l_box); assumption; rfl; clear hS; intro b w hS) | ((with_reducible apply l_load); assumption; rfl; (repeat (first | exact Has.head | apply Has.tail)); (first | rfl | (simp [takeV]; done))) | ((with_reducible apply l_build); rfl; (simp [fillL, splice, Value.cells, Act.eval]; rfl)) | ((with_reducible apply l_buildA); rfl; (simp [fillL, splice, Value.cells, Act.eval]; rfl)) | ((with_reducible apply l_bslice); assumption; rfl; rfl; (first | (simp [fillL, splice, zeros, Value.cells, Act.eval]; rfl) | rfl); clear hS; intro b w hS) | ((with_reducible apply l_storeF); assumption; rfl; rfl; (repeat (first | exact Upd.head | apply Upd.tail)); rfl; clear hS; intro w hS) | ((with_reducible apply l_store); assumption; rfl; rfl; (repeat (first | exact Upd.head | apply Upd.tail)); rfl; clear hS; intro w hS; simp only [splice] at hS; try rw [splice_nil] at hS))
          clear hnil
          go_roundg (gk - 1)
          case measure => omega
          case rel =>
            refine ⟨i + 1, by omega, by go_num, ?_⟩
            have e5 : (someP e.id).map tl0 ++ ((someP e.ty).take (i + 1)).map tl1 = ((someP e.id).map tl0 ++ ((someP e.ty).take i).map tl1) ++ [tl1 x] := by rw [Hmt.out]; simp only [List.append_assoc]
            rw [e5, List.length_append, sv_append]
            exact hS.sub (by (repeat (first | exact List.Sublist.slnil | exact List.Sublist.refl _ | apply List.Sublist.cons_cons | apply List.Sublist.cons)))
        · have hie : i = (someP e.ty).length := by omega
          have hn : ¬ ((i : Int) < ((someP e.ty).length : Int)) := by omega
          rw [hie, List.take_length] at hS
          skip
          obtain ⟨AO2, CO2, rfl, _⟩ := (RdS.of_own (hS.get (by exact Has.head.tail.tail.tail))).shape
          go_wp2_with (first | ((with_reducible apply l_want); rfl) | ((with_reducible apply l_alloc); assumption; rfl; clear hS; intro b w hS) | ((with_reducible apply l_box); assumption; rfl; clear hS; intro b w hS) | ((with_reducible apply l_load); assumption; rfl; (repeat (first | exact Has.head | apply Has.tail)); (first | rfl | (simp [takeV]; done))) | ((with_reducible apply l_build); rfl; (simp [fillL, splice, Value.cells, Act.eval]; rfl)) | ((with_reducible apply l_buildA); rfl; (simp [fillL, splice, Value.cells, Act.eval]; rfl)) | ((with_reducible apply l_bslice); assumption; rfl; rfl; (first | (simp [fillL, splice, zeros, Value.cells, Act.eval]; rfl) | rfl); clear hS; intro b w hS) | ((with_reducible apply l_storeF); assumption; rfl; rfl; (repeat (first | exact Upd.head | apply Upd.tail)); rfl; clear hS; intro w hS) | ((with_reducible apply l_store); assumption; rfl; rfl; (repeat (first | exact Upd.head | apply Upd.tail)); rfl; clear hS; intro w hS; simp only [splice] at hS; try rw [splice_nil] at hS))
          -- part 2
          rw [rounds_succ]
          go_wp2_with (first | ((with_reducible apply l_want); rfl) | ((with_reducible apply l_index (i := 2)); rfl; rfl; decide; rfl) | (go_at_call 250; go_must (refine (texts2_c _ (hG.keep hS.fr) e hda).mono ?_); rintro en w1 ⟨v, rfl, hT⟩; replace hS := hS.join hT; obtain ⟨A, cp, rfl, hcp⟩ := (hS.get (c := rdS 1 v (splitP 10 e.da).length (sv (splitP 10 e.da))) (by exact Has.head)).shape; clear hT) | ((with_reducible apply l_alloc); assumption; rfl; clear hS; intro b w hS) | ((with_reducible apply l_box); assumption; rfl; clear hS; intro b w hS) | ((with_reducible apply l_load); assumption; rfl; (repeat (first | exact Has.head | apply Has.tail)); (first | rfl | (simp [takeV]; done))) | ((with_reducible apply l_build); rfl; (simp [fillL, splice, Value.cells, Act.eval]; rfl)) | ((with_reducible apply l_buildA); rfl; (simp [fillL, splice, Value.cells, Act.eval]; rfl)) | ((with_reducible apply l_bslice); assumption; rfl; rfl; (first | (simp [fillL, splice, zeros, Value.cells, Act.eval]; rfl) | rfl); clear hS; intro b w hS) | ((with_reducible apply l_storeF); assumption; rfl; rfl; (repeat (first | exact Upd.head | apply Upd.tail)); rfl; clear hS; intro w hS) | ((with_reducible apply l_store); assumption; rfl; rfl; (repeat (first | exact Upd.head | apply Upd.tail)); rfl; clear hS; intro w hS; simp only [splice] at hS; try rw [splice_nil] at hS))
          replace hS := hS.sub (L' := [rdS 1 (.slice A (splitP 10 e.da).length cp) (splitP 10 e.da).length (sv (splitP 10 e.da)), row b 313 [txt [13], fnv 250, fnv 252], row bF 232 [txt e.id, txt e.ty, txt e.da], own 9 1 (.slice AO2 ((someP e.id).map tl0 ++ (someP e.ty).map tl1).length CO2) ((someP e.id).map tl0 ++ (someP e.ty).map tl1).length (sv ((someP e.id).map tl0 ++ (someP e.ty).map tl1))]) (by (repeat (first | exact List.Sublist.slnil | exact List.Sublist.refl _ | apply List.Sublist.cons_cons | apply List.Sublist.cons)))
          have hlb2 := (by have := (splitP_len 10 e.da).2; omega : (splitP 10 e.da).length ≤ 65537)
          go_loopg [2, 18] (splitP 10 e.da).length (fun g out t18 wr => ∃ i : Nat, i + g = (splitP 10 e.da).length ∧ t18 = .int .i64 (i : Int) ∧ St [] w0 wr [rdS 1 (.slice A (splitP 10 e.da).length cp) (splitP 10 e.da).length (sv (splitP 10 e.da)), row b 313 [txt [13], fnv 250, fnv 252], row bF 232 [txt e.id, txt e.ty, txt e.da], own 9 1 out ((someP e.id).map tl0 ++ (someP e.ty).map tl1 ++ ((splitP 10 e.da).take i).map tl2).length (sv ((someP e.id).map tl0 ++ (someP e.ty).map tl1 ++ ((splitP 10 e.da).take i).map tl2))])
          case atStart => exact ⟨0, by omega, rfl, by simpa using hS⟩
          case round =>
            obtain ⟨i, hig, rfl, hS⟩ := hrel
            by_cases hlt : i < (splitP 10 e.da).length
            · obtain ⟨x, hx⟩ : ∃ x, (splitP 10 e.da)[i]? = some x := ⟨_, List.getElem?_eq_getElem hlt⟩
              have hxl : x.length ≤ 65536 := by
                have : ∀ x ∈ splitP 10 e.da, x.length ≤ e.da.length := fun x hx => (splitP_len 10 e.da).1 x hx
                have := this x (List.mem_of_getElem? hx)
                omega
              have hmt := map_take tl2 (splitP 10 e.da) i x hx
              have hrd0 := hS.get (c := rdS 1 (.slice A (splitP 10 e.da).length cp) (splitP 10 e.da).length (sv (splitP 10 e.da))) (by exact Has.head)
              obtain ⟨_, bb, o, rfl, hrd⟩ := hrd0.at i hlt (by decide)
              have hrd1 : Rd wr bb (o + i) [txt x] := by
                have := hrd.take 1
                rw [Nat.mul_one] at this
                have e1 : ((sv (splitP 10 e.da)).drop i).take 1 = [txt x] := by
                  rw [List.drop_eq_getElem_cons (by rw [sv_length]; exact hlt)]
                  have := (List.getElem?_eq_some_iff.1 hx).2
                  simp [sv, this]
                rwa [e1] at this
              have hal : ((someP e.id).map tl0 ++ (someP e.ty).map tl1 ++ ((splitP 10 e.da).take i).map tl2).length ≤ 200000 := by
                simp only [List.length_append, List.length_map, List.length_take, List.length_nil]
                omega
              have Hrd := Lib.hid hrd1
              have Hmt := Lib.hid hmt
              clear hrd0 hrd hrd1 hmt hx
              go_wp2_with (first | ((with_reducible apply l_want); rfl) | ((with_reducible apply l_read); rfl; exact Hrd.out; rfl) | (go_at_call 252; go_must (refine (fieldL2_c _ x).mono ?_); rintro en w1 ⟨rfl, hf1⟩; replace hS := hS.keep hf1) | (go_at_call 125; go_must (refine (told2_c _ (hG.keep hS.fr) x _ hxl (RdS.of_row (hS.get (by exact Has.head)) 1 1 rfl (Nat.le_refl _))).mono ?_); rintro en w1 ⟨vt, rfl, hT⟩; replace hS := hS.join hT; clear hT) | ((with_reducible apply l_append); assumption; rfl; rfl; (intro v'; (repeat (first | exact Upd.head | apply Upd.tail))); rfl; exact RdS.of_own (hS.get (by exact Has.head)); simp [Value.oneCell']; omega; omega; clear hS; intro v' w hS hnil) | ((with_reducible apply l_alloc); assumption; rfl; clear hS; intro b w hS) | ((with_reducible apply l_box); assumption; rfl; clear hS; intro b w hS) | ((with_reducible apply l_load); assumption; rfl; (repeat (first | exact Has.head | apply Has.tail)); (first | rfl | (simp [takeV]; done))) | ((with_reducible apply l_build); rfl; (simp [fillL, splice, Value.cells, Act.eval]; rfl)) | ((with_reducible apply l_buildA); rfl; (simp [fillL, splice, Value.cells, Act.eval]; rfl)) | ((with_reducible apply l_bslice); assumption; rfl; rfl; (first | (simp [fillL, splice, zeros, Value.cells, Act.eval]; rfl) | rfl); clear hS; intro b w hS) | ((with_reducible apply l_storeF); assumption; rfl; rfl; (repeat (first | exact Upd.head | apply Upd.tail)); rfl; clear hS; intro w hS) | ((with_reducible apply l_store); assumption; rfl; rfl; (repeat (first | exact Upd.head | apply Upd.tail)); rfl; clear hS; intro w hS; simp only [splice] at hS; try rw [splice_nil] at hS))
              clear hnil
              go_roundg (gk - 1)
              case measure => omega
              case rel =>
                refine ⟨i + 1, by omega, by go_num, ?_⟩
                have e5 : (someP e.id).map tl0 ++ (someP e.ty).map tl1 ++ ((splitP 10 e.da).take (i + 1)).map tl2 = ((someP e.id).map tl0 ++ (someP e.ty).map tl1 ++ ((splitP 10 e.da).take i).map tl2) ++ [tl2 x] := by rw [Hmt.out]; simp only [List.append_assoc]
                rw [e5, List.length_append, sv_append]
                exact hS.sub (by (repeat (first | exact List.Sublist.slnil | exact List.Sublist.refl _ | apply List.Sublist.cons_cons | apply List.Sublist.cons)))
            · have hie : i = (splitP 10 e.da).length := by omega
              have hn : ¬ ((i : Int) < ((splitP 10 e.da).length : Int)) := by omega
              rw [hie, List.take_length] at hS
              skip
              obtain ⟨AO3, CO3, rfl, _⟩ := (RdS.of_own (hS.get (by exact Has.head.tail.tail.tail))).shape
              go_wp2_with (first | ((with_reducible apply l_want); rfl) | ((with_reducible apply l_alloc); assumption; rfl; clear hS; intro b w hS) | ((with_reducible apply l_box); assumption; rfl; clear hS; intro b w hS) | ((with_reducible apply l_load); assumption; rfl; (repeat (first | exact Has.head | apply Has.tail)); (first | rfl | (simp [takeV]; done))) | ((with_reducible apply l_build); rfl; (simp [fillL, splice, Value.cells, Act.eval]; rfl)) | ((with_reducible apply l_buildA); rfl; (simp [fillL, splice, Value.cells, Act.eval]; rfl)) | ((with_reducible apply l_bslice); assumption; rfl; rfl; (first | (simp [fillL, splice, zeros, Value.cells, Act.eval]; rfl) | rfl); clear hS; intro b w hS) | ((with_reducible apply l_storeF); assumption; rfl; rfl; (repeat (first | exact Upd.head | apply Upd.tail)); rfl; clear hS; intro w hS) | ((with_reducible apply l_store); assumption; rfl; rfl; (repeat (first | exact Upd.head | apply Upd.tail)); rfl; clear hS; intro w hS; simp only [splice] at hS; try rw [splice_nil] at hS))
              rw [rounds_succ]
              go_wp2_with (first | ((with_reducible apply l_want); rfl) | ((with_reducible apply l_alloc); assumption; rfl; clear hS; intro b w hS) | ((with_reducible apply l_box); assumption; rfl; clear hS; intro b w hS) | ((with_reducible apply l_load); assumption; rfl; (repeat (first | exact Has.head | apply Has.tail)); (first | rfl | (simp [takeV]; done))) | ((with_reducible apply l_build); rfl; (simp [fillL, splice, Value.cells, Act.eval]; rfl)) | ((with_reducible apply l_buildA); rfl; (simp [fillL, splice, Value.cells, Act.eval]; rfl)) | ((with_reducible apply l_bslice); assumption; rfl; rfl; (first | (simp [fillL, splice, zeros, Value.cells, Act.eval]; rfl) | rfl); clear hS; intro b w hS) | ((with_reducible apply l_storeF); assumption; rfl; rfl; (repeat (first | exact Upd.head | apply Upd.tail)); rfl; clear hS; intro w hS) | ((with_reducible apply l_store); assumption; rfl; rfl; (repeat (first | exact Upd.head | apply Upd.tail)); rfl; clear hS; intro w hS; simp only [splice] at hS; try rw [splice_nil] at hS))
              go_ret
              have hR : R = ((someP e.id).map tl0 ++ (someP e.ty).map tl1) ++ (splitP 10 e.da).map tl2 := HR.out
              rw [hR]
              have h7 := hS.sub (L' := [own 9 1 (.slice AO3 (((someP e.id).map tl0 ++ (someP e.ty).map tl1) ++ (splitP 10 e.da).map tl2).length CO3) (((someP e.id).map tl0 ++ (someP e.ty).map tl1) ++ (splitP 10 e.da).map tl2).length (sv (((someP e.id).map tl0 ++ (someP e.ty).map tl1) ++ (splitP 10 e.da).map tl2))]) (by (repeat (first | exact List.Sublist.slnil | exact List.Sublist.refl _ | apply List.Sublist.cons_cons | apply List.Sublist.cons)))
              refine ⟨_, rfl, ?_⟩
              simp at h7 ⊢
              exact h7
end Go.Proofs.YtaejmginhkbbhaaGreatDoor

