/- The walks through package event, fourth part: may an event be (F134)? Conditions: as each contract says. -/
import Derived.Test.YtaejmginhkbbhaaGreatDoorV3
set_option linter.unusedSimpArgs false
set_option linter.unusedVariables false
set_option maxRecDepth 100000
set_option maxHeartbeats 1000000
namespace Go.Proofs.YtaejmginhkbbhaaGreatDoor
open Go Go.RowKit
theorem text_y (w0 : World) (l sg : List UInt8) (hsg : ∀ c ∈ sg, c.toNat < 128) (hl : l.length ≤ 1099511627776) (h : textP sg l = true) :
    Calls Tryz.prog 122 #[txt l, txt sg] w0 fun en w' => (∃ v, en = .returned v) ∧ Fr [] w0 w' := by
  refine (text_c w0 l sg hsg hl).mono fun en w' h2 => ?_
  rw [if_pos h] at h2
  exact h2
theorem text_n (w0 : World) (l sg : List UInt8) (hsg : ∀ c ∈ sg, c.toNat < 128) (hl : l.length ≤ 1099511627776) (h : textP sg l = false) :
    Calls Tryz.prog 122 #[txt l, txt sg] w0 fun en w' => en = .panicked (gives 2) ∧ Fr [] w0 w' := by
  refine (text_c w0 l sg hsg hl).mono fun en w' h2 => ?_
  rw [if_neg (by rw [h]; simp)] at h2
  exact h2
/-- It has ended well, or given up with the number 2. -/
def Fine (R : Bool) (en : Ending) : Prop := if R = true then ∃ v, en = .returned v else en = .panicked (gives 2)
theorem Fine.y {R : Bool} {v : Value} (h : R = true) : Fine R (.returned v) := by subst h; exact ⟨v, rfl⟩
theorem Fine.n {R : Bool} (h : R = false) : Fine R (.panicked (gives 2)) := by subst h; rfl
/-- May an event be? As the code asks. -/
def checkP (e : Ev) : Bool := decide (e.id.length + e.ty.length + e.da.length ≤ 65536) && (someP e.id).all (textP [0, 13, 10]) && (someP e.ty).all (textP [13, 10]) && (splitP 10 e.da).all (textP [13]) && textP [13] e.da
theorem someP_len (l : List UInt8) : ∀ x ∈ someP l, x.length ≤ l.length := by
  intro x hx
  unfold someP at hx
  split at hx
  · cases hx
  · simp at hx; subst hx; exact Nat.le_refl _
theorem splitP_len (c : UInt8) : ∀ (l : List UInt8), (∀ x ∈ splitP c l, x.length ≤ l.length) ∧ (splitP c l).length ≤ l.length + 1
  | [] => by simp [splitP]
  | y :: l => by
    have ih := splitP_len c l
    simp only [splitP]
    split
    · refine ⟨fun x hx => ?_, by simp; exact ih.2⟩
      rcases List.mem_cons.1 hx with rfl | hx
      · simp
      · have := ih.1 x hx; simp; omega
    · split
      · simp
      · rename_i h t heq
        rw [heq] at ih
        refine ⟨fun x hx => ?_, ?_⟩
        · rcases List.mem_cons.1 hx with rfl | hx
          · have := ih.1 h (by simp); simp; exact this
          · have := ih.1 x (by simp [hx]); simp; omega
        · have := ih.2; simp at this ⊢; omega
theorem ascii3 : ∀ c ∈ ([0, 13, 10] : List UInt8), c.toNat < 128 := by decide
theorem ascii2 : ∀ c ∈ ([13, 10] : List UInt8), c.toNat < 128 := by decide
theorem ascii1 : ∀ c ∈ ([13] : List UInt8), c.toNat < 128 := by decide
theorem all_at {α : Type} (p : α → Bool) (l : List α) (i : Nat) (x : α) (hi : l[i]? = some x) (h : (l.take i).all p = true) : (p x = true → (l.take (i + 1)).all p = true) ∧ (p x = false → l.all p = false) := by
  obtain ⟨hlt, rfl⟩ := List.getElem?_eq_some_iff.1 hi
  refine ⟨fun hp => ?_, fun hp => ?_⟩
  · rw [List.take_succ_eq_append_getElem hlt, List.all_append, h]
    simp [hp]
  · rw [Bool.eq_false_iff]
    intro ha
    have := List.all_eq_true.1 ha l[i] (List.getElem_mem hlt)
    rw [hp] at this
    cases this

theorem checked_big (w0 : World) (e : Ev) (hid : e.id.length ≤ 1099511627776) (hty : e.ty.length ≤ 1099511627776) (hda : e.da.length ≤ 1099511627776) (hb : 65536 < e.id.length + e.ty.length + e.da.length) :
    Calls Tryz.prog 134 #[e.v] w0 fun en w' => en = .panicked (gives 2) ∧ Fr [] w0 w' := by
  have hb' : decide ((e.id.length : Int) + (e.ty.length : Int) + (e.da.length : Int) ≤ 65536) = false := by simp; omega
  go_enter Tryz.func134, Tryz.ntmps134
  have hS := St.start [] w0
  go_wp2_with (first | ((with_reducible apply l_want); rfl) | (go_at_call 121; go_must (refine (must_f' _ _).mono ?_); rintro e w1 ⟨rfl, rfl⟩) | ((with_reducible apply l_alloc); assumption; rfl; clear hS; intro b w hS) | ((with_reducible apply l_box); assumption; rfl; clear hS; intro b w hS) | ((with_reducible apply l_load); assumption; rfl; (repeat (first | exact Has.head | apply Has.tail)); (first | rfl | (simp [takeV]; done))) | ((with_reducible apply l_build); rfl; (simp [fillL, splice, Value.cells, Act.eval]; rfl)) | ((with_reducible apply l_buildA); rfl; (simp [fillL, splice, Value.cells, Act.eval]; rfl)) | ((with_reducible apply l_bslice); assumption; rfl; rfl; (first | (simp [fillL, splice, zeros, Value.cells, Act.eval]; rfl) | rfl); clear hS; intro b w hS) | ((with_reducible apply l_storeF); assumption; rfl; rfl; (repeat (first | exact Upd.head | apply Upd.tail)); rfl; clear hS; intro w hS) | ((with_reducible apply l_store); assumption; rfl; rfl; (repeat (first | exact Upd.head | apply Upd.tail)); rfl; clear hS; intro w hS; simp only [splice] at hS; try rw [splice_nil] at hS))
  exact ⟨rfl, rfl, hS.fr⟩

theorem checked_c (w0 : World) (hG : Glob w0) (e : Ev) (hsm : e.id.length + e.ty.length + e.da.length ≤ 65536) :
    Calls Tryz.prog 134 #[e.v] w0 fun en w' => Fine (checkP e) en ∧ Fr [] w0 w' := by
  obtain ⟨R, hR⟩ : ∃ R, R = checkP e := ⟨_, rfl⟩
  rw [← hR]
  have hb' : decide ((e.id.length : Int) + (e.ty.length : Int) + (e.da.length : Int) ≤ 65536) = true := by simp; omega
  have hda : e.da.length < 4294967281 := by omega
  unfold checkP at hR
  rw [decide_eq_true hsm, Bool.true_and] at hR
  have HR := Lib.hid hR
  clear hR
  go_enter Tryz.func134, Tryz.ntmps134
  have hS := St.start [] w0
  go_wp2_with (first | ((with_reducible apply l_want); rfl) | ((with_reducible apply l_box); assumption; rfl; clear hS; intro bF w hS) | (go_at_call 121; go_must (refine (must_t _ _).mono ?_); rintro en w1 ⟨⟨v, rfl⟩, rfl⟩) | (go_at_call 201; go_must (refine (parts_c _).mono ?_); rintro en w1 ⟨rfl, hf1⟩; replace hS := hS.keep hf1) | ((with_reducible apply l_alloc); assumption; rfl; clear hS; intro b w hS) | ((with_reducible apply l_box); assumption; rfl; clear hS; intro b w hS) | ((with_reducible apply l_load); assumption; rfl; (repeat (first | exact Has.head | apply Has.tail)); (first | rfl | (simp [takeV]; done))) | ((with_reducible apply l_build); rfl; (simp [fillL, splice, Value.cells, Act.eval]; rfl)) | ((with_reducible apply l_buildA); rfl; (simp [fillL, splice, Value.cells, Act.eval]; rfl)) | ((with_reducible apply l_bslice); assumption; rfl; rfl; (first | (simp [fillL, splice, zeros, Value.cells, Act.eval]; rfl) | rfl); clear hS; intro b w hS) | ((with_reducible apply l_storeF); assumption; rfl; rfl; (repeat (first | exact Upd.head | apply Upd.tail)); rfl; clear hS; intro w hS) | ((with_reducible apply l_store); assumption; rfl; rfl; (repeat (first | exact Upd.head | apply Upd.tail)); rfl; clear hS; intro w hS; simp only [splice] at hS; try rw [splice_nil] at hS))
  refine wp_loop_rounds 4 ?_
  -- part 0
  rw [rounds_succ]
  go_wp2_with (first | ((with_reducible apply l_want); rfl) | ((with_reducible apply l_index (i := 0)); rfl; rfl; decide; rfl) | (go_at_call 245; go_must (refine (texts0_c _ e).mono ?_); rintro en w1 ⟨v, rfl, hT⟩; replace hS := hS.join hT; obtain ⟨A, cp, rfl, hcp⟩ := (hS.get (c := rdS 1 v (someP e.id).length (sv (someP e.id))) (by exact Has.head)).shape; clear hT) | ((with_reducible apply l_alloc); assumption; rfl; clear hS; intro b w hS) | ((with_reducible apply l_box); assumption; rfl; clear hS; intro b w hS) | ((with_reducible apply l_load); assumption; rfl; (repeat (first | exact Has.head | apply Has.tail)); (first | rfl | (simp [takeV]; done))) | ((with_reducible apply l_build); rfl; (simp [fillL, splice, Value.cells, Act.eval]; rfl)) | ((with_reducible apply l_buildA); rfl; (simp [fillL, splice, Value.cells, Act.eval]; rfl)) | ((with_reducible apply l_bslice); assumption; rfl; rfl; (first | (simp [fillL, splice, zeros, Value.cells, Act.eval]; rfl) | rfl); clear hS; intro b w hS) | ((with_reducible apply l_storeF); assumption; rfl; rfl; (repeat (first | exact Upd.head | apply Upd.tail)); rfl; clear hS; intro w hS) | ((with_reducible apply l_store); assumption; rfl; rfl; (repeat (first | exact Upd.head | apply Upd.tail)); rfl; clear hS; intro w hS; simp only [splice] at hS; try rw [splice_nil] at hS))
  replace hS := hS.sub (L' := [rdS 1 (.slice A (someP e.id).length cp) (someP e.id).length (sv (someP e.id)), row b 313 [txt [0, 13, 10], fnv 245, fnv 247], row bF 232 e.cs]) (by (repeat (first | exact List.Sublist.slnil | exact List.Sublist.refl _ | apply List.Sublist.cons_cons | apply List.Sublist.cons)))
  have hlb := (by unfold someP; split <;> simp : (someP e.id).length ≤ 1)
  go_loopg [31] (someP e.id).length (fun g t31 wr => ∃ i : Nat, i + g = (someP e.id).length ∧ t31 = .int .i64 (i : Int) ∧ Hid (((someP e.id).take i).all (textP [0, 13, 10]) = true) ∧ St [] w0 wr [rdS 1 (.slice A (someP e.id).length cp) (someP e.id).length (sv (someP e.id)), row b 313 [txt [0, 13, 10], fnv 245, fnv 247], row bF 232 e.cs])
  case atStart => exact ⟨0, by omega, rfl, Lib.hid rfl, hS⟩
  case round =>
    obtain ⟨i, hig, rfl, HT, hS⟩ := hrel
    by_cases hlt : i < (someP e.id).length
    · obtain ⟨x, hx⟩ : ∃ x, (someP e.id)[i]? = some x := ⟨_, List.getElem?_eq_getElem hlt⟩
      have hxl : x.length ≤ 65536 := by
        have : ∀ x ∈ someP e.id, x.length ≤ e.id.length := fun x hx => someP_len _ x hx
        have := this x (List.mem_of_getElem? hx)
        omega
      have hal := all_at (textP [0, 13, 10]) (someP e.id) i x hx HT.out
      have hrd0 := hS.get (c := rdS 1 (.slice A (someP e.id).length cp) (someP e.id).length (sv (someP e.id))) (by exact Has.head)
      obtain ⟨_, bb, o, rfl, hrd⟩ := hrd0.at i hlt (by decide)
      have hrd1 : Rd wr bb (o + i) [txt x] := by
        have := hrd.take 1
        rw [Nat.mul_one] at this
        have e1 : ((sv (someP e.id)).drop i).take 1 = [txt x] := by
          rw [List.drop_eq_getElem_cons (by rw [sv_length]; exact hlt)]
          have := (List.getElem?_eq_some_iff.1 hx).2
          simp [sv, this]
        rwa [e1] at this
      have Hrd := Lib.hid hrd1
      have Hal := Lib.hid hal
      clear hrd0 hrd hrd1 hal hx
      cases htp : textP [0, 13, 10] x with
      | true =>
        have Htp := Lib.hid htp
        clear htp
        go_wp2_with (first | ((with_reducible apply l_want); rfl) | ((with_reducible apply l_read); rfl; exact Hrd.out; rfl) | (go_at_call 122; go_must (refine (text_y _ x [0, 13, 10] ascii3 (by omega) Htp.out).mono ?_); rintro en w1 ⟨⟨v, rfl⟩, hf1⟩; replace hS := hS.keep hf1) | ((with_reducible apply l_alloc); assumption; rfl; clear hS; intro b w hS) | ((with_reducible apply l_box); assumption; rfl; clear hS; intro b w hS) | ((with_reducible apply l_load); assumption; rfl; (repeat (first | exact Has.head | apply Has.tail)); (first | rfl | (simp [takeV]; done))) | ((with_reducible apply l_build); rfl; (simp [fillL, splice, Value.cells, Act.eval]; rfl)) | ((with_reducible apply l_buildA); rfl; (simp [fillL, splice, Value.cells, Act.eval]; rfl)) | ((with_reducible apply l_bslice); assumption; rfl; rfl; (first | (simp [fillL, splice, zeros, Value.cells, Act.eval]; rfl) | rfl); clear hS; intro b w hS) | ((with_reducible apply l_storeF); assumption; rfl; rfl; (repeat (first | exact Upd.head | apply Upd.tail)); rfl; clear hS; intro w hS) | ((with_reducible apply l_store); assumption; rfl; rfl; (repeat (first | exact Upd.head | apply Upd.tail)); rfl; clear hS; intro w hS; simp only [splice] at hS; try rw [splice_nil] at hS))
        go_roundg (gk - 1)
        case measure => omega
        case rel => exact ⟨i + 1, by omega, by go_num, Lib.hid (Hal.out.1 Htp.out), hS⟩
      | false =>
        have Htp := Lib.hid htp
        clear htp
        go_wp2_with (first | ((with_reducible apply l_want); rfl) | ((with_reducible apply l_read); rfl; exact Hrd.out; rfl) | (go_at_call 122; go_must (refine (text_n _ x [0, 13, 10] ascii3 (by omega) Htp.out).mono ?_); rintro en w1 ⟨rfl, hf1⟩; replace hS := hS.keep hf1) | ((with_reducible apply l_alloc); assumption; rfl; clear hS; intro b w hS) | ((with_reducible apply l_box); assumption; rfl; clear hS; intro b w hS) | ((with_reducible apply l_load); assumption; rfl; (repeat (first | exact Has.head | apply Has.tail)); (first | rfl | (simp [takeV]; done))) | ((with_reducible apply l_build); rfl; (simp [fillL, splice, Value.cells, Act.eval]; rfl)) | ((with_reducible apply l_buildA); rfl; (simp [fillL, splice, Value.cells, Act.eval]; rfl)) | ((with_reducible apply l_bslice); assumption; rfl; rfl; (first | (simp [fillL, splice, zeros, Value.cells, Act.eval]; rfl) | rfl); clear hS; intro b w hS) | ((with_reducible apply l_storeF); assumption; rfl; rfl; (repeat (first | exact Upd.head | apply Upd.tail)); rfl; clear hS; intro w hS) | ((with_reducible apply l_store); assumption; rfl; rfl; (repeat (first | exact Upd.head | apply Upd.tail)); rfl; clear hS; intro w hS; simp only [splice] at hS; try rw [splice_nil] at hS))
        have hR0 : R = false := by rw [HR.out, Hal.out.2 Htp.out]; simp
        exact ⟨rfl, Fine.n hR0, hS.fr⟩
    · have hie : i = (someP e.id).length := by omega
      have hn : ¬ ((i : Int) < ((someP e.id).length : Int)) := by omega
      have HT0 : Hid ((someP e.id).all (textP [0, 13, 10]) = true) := by
        have := HT.out
        rw [hie, List.take_length] at this
        exact Lib.hid this
      clear HT
      go_wp2_with (first | ((with_reducible apply l_want); rfl) | ((with_reducible apply l_alloc); assumption; rfl; clear hS; intro b w hS) | ((with_reducible apply l_box); assumption; rfl; clear hS; intro b w hS) | ((with_reducible apply l_load); assumption; rfl; (repeat (first | exact Has.head | apply Has.tail)); (first | rfl | (simp [takeV]; done))) | ((with_reducible apply l_build); rfl; (simp [fillL, splice, Value.cells, Act.eval]; rfl)) | ((with_reducible apply l_buildA); rfl; (simp [fillL, splice, Value.cells, Act.eval]; rfl)) | ((with_reducible apply l_bslice); assumption; rfl; rfl; (first | (simp [fillL, splice, zeros, Value.cells, Act.eval]; rfl) | rfl); clear hS; intro b w hS) | ((with_reducible apply l_storeF); assumption; rfl; rfl; (repeat (first | exact Upd.head | apply Upd.tail)); rfl; clear hS; intro w hS) | ((with_reducible apply l_store); assumption; rfl; rfl; (repeat (first | exact Upd.head | apply Upd.tail)); rfl; clear hS; intro w hS; simp only [splice] at hS; try rw [splice_nil] at hS))
      -- part 1
      rw [rounds_succ]
      go_wp2_with (first | ((with_reducible apply l_want); rfl) | ((with_reducible apply l_index (i := 1)); rfl; rfl; decide; rfl) | (go_at_call 248; go_must (refine (texts1_c _ e).mono ?_); rintro en w1 ⟨v, rfl, hT⟩; replace hS := hS.join hT; obtain ⟨A, cp, rfl, hcp⟩ := (hS.get (c := rdS 1 v (someP e.ty).length (sv (someP e.ty))) (by exact Has.head)).shape; clear hT) | ((with_reducible apply l_alloc); assumption; rfl; clear hS; intro b w hS) | ((with_reducible apply l_box); assumption; rfl; clear hS; intro b w hS) | ((with_reducible apply l_load); assumption; rfl; (repeat (first | exact Has.head | apply Has.tail)); (first | rfl | (simp [takeV]; done))) | ((with_reducible apply l_build); rfl; (simp [fillL, splice, Value.cells, Act.eval]; rfl)) | ((with_reducible apply l_buildA); rfl; (simp [fillL, splice, Value.cells, Act.eval]; rfl)) | ((with_reducible apply l_bslice); assumption; rfl; rfl; (first | (simp [fillL, splice, zeros, Value.cells, Act.eval]; rfl) | rfl); clear hS; intro b w hS) | ((with_reducible apply l_storeF); assumption; rfl; rfl; (repeat (first | exact Upd.head | apply Upd.tail)); rfl; clear hS; intro w hS) | ((with_reducible apply l_store); assumption; rfl; rfl; (repeat (first | exact Upd.head | apply Upd.tail)); rfl; clear hS; intro w hS; simp only [splice] at hS; try rw [splice_nil] at hS))
      replace hS := hS.sub (L' := [rdS 1 (.slice A (someP e.ty).length cp) (someP e.ty).length (sv (someP e.ty)), row b 313 [txt [13, 10], fnv 248, fnv 249], row bF 232 e.cs]) (by (repeat (first | exact List.Sublist.slnil | exact List.Sublist.refl _ | apply List.Sublist.cons_cons | apply List.Sublist.cons)))
      have hlb := (by unfold someP; split <;> simp : (someP e.ty).length ≤ 1)
      go_loopg [31] (someP e.ty).length (fun g t31 wr => ∃ i : Nat, i + g = (someP e.ty).length ∧ t31 = .int .i64 (i : Int) ∧ Hid (((someP e.ty).take i).all (textP [13, 10]) = true) ∧ St [] w0 wr [rdS 1 (.slice A (someP e.ty).length cp) (someP e.ty).length (sv (someP e.ty)), row b 313 [txt [13, 10], fnv 248, fnv 249], row bF 232 e.cs])
      case atStart => exact ⟨0, by omega, rfl, Lib.hid rfl, hS⟩
      case round =>
        obtain ⟨i, hig, rfl, HT, hS⟩ := hrel
        by_cases hlt : i < (someP e.ty).length
        · obtain ⟨x, hx⟩ : ∃ x, (someP e.ty)[i]? = some x := ⟨_, List.getElem?_eq_getElem hlt⟩
          have hxl : x.length ≤ 65536 := by
            have : ∀ x ∈ someP e.ty, x.length ≤ e.ty.length := fun x hx => someP_len _ x hx
            have := this x (List.mem_of_getElem? hx)
            omega
          have hal := all_at (textP [13, 10]) (someP e.ty) i x hx HT.out
          have hrd0 := hS.get (c := rdS 1 (.slice A (someP e.ty).length cp) (someP e.ty).length (sv (someP e.ty))) (by exact Has.head)
          obtain ⟨_, bb, o, rfl, hrd⟩ := hrd0.at i hlt (by decide)
          have hrd1 : Rd wr bb (o + i) [txt x] := by
            have := hrd.take 1
            rw [Nat.mul_one] at this
            have e1 : ((sv (someP e.ty)).drop i).take 1 = [txt x] := by
              rw [List.drop_eq_getElem_cons (by rw [sv_length]; exact hlt)]
              have := (List.getElem?_eq_some_iff.1 hx).2
              simp [sv, this]
            rwa [e1] at this
          have Hrd := Lib.hid hrd1
          have Hal := Lib.hid hal
          clear hrd0 hrd hrd1 hal hx
          cases htp : textP [13, 10] x with
          | true =>
            have Htp := Lib.hid htp
            clear htp
            go_wp2_with (first | ((with_reducible apply l_want); rfl) | ((with_reducible apply l_read); rfl; exact Hrd.out; rfl) | (go_at_call 122; go_must (refine (text_y _ x [13, 10] ascii2 (by omega) Htp.out).mono ?_); rintro en w1 ⟨⟨v, rfl⟩, hf1⟩; replace hS := hS.keep hf1) | ((with_reducible apply l_alloc); assumption; rfl; clear hS; intro b w hS) | ((with_reducible apply l_box); assumption; rfl; clear hS; intro b w hS) | ((with_reducible apply l_load); assumption; rfl; (repeat (first | exact Has.head | apply Has.tail)); (first | rfl | (simp [takeV]; done))) | ((with_reducible apply l_build); rfl; (simp [fillL, splice, Value.cells, Act.eval]; rfl)) | ((with_reducible apply l_buildA); rfl; (simp [fillL, splice, Value.cells, Act.eval]; rfl)) | ((with_reducible apply l_bslice); assumption; rfl; rfl; (first | (simp [fillL, splice, zeros, Value.cells, Act.eval]; rfl) | rfl); clear hS; intro b w hS) | ((with_reducible apply l_storeF); assumption; rfl; rfl; (repeat (first | exact Upd.head | apply Upd.tail)); rfl; clear hS; intro w hS) | ((with_reducible apply l_store); assumption; rfl; rfl; (repeat (first | exact Upd.head | apply Upd.tail)); rfl; clear hS; intro w hS; simp only [splice] at hS; try rw [splice_nil] at hS))
            go_roundg (gk - 1)
            case measure => omega
            case rel => exact ⟨i + 1, by omega, by go_num, Lib.hid (Hal.out.1 Htp.out), hS⟩
          | false =>
            have Htp := Lib.hid htp
            clear htp
            go_wp2_with (first | ((with_reducible apply l_want); rfl) | ((with_reducible apply l_read); rfl; exact Hrd.out; rfl) | (go_at_call 122; go_must (refine (text_n _ x [13, 10] ascii2 (by omega) Htp.out).mono ?_); rintro en w1 ⟨rfl, hf1⟩; replace hS := hS.keep hf1) | ((with_reducible apply l_alloc); assumption; rfl; clear hS; intro b w hS) | ((with_reducible apply l_box); assumption; rfl; clear hS; intro b w hS) | ((with_reducible apply l_load); assumption; rfl; (repeat (first | exact Has.head | apply Has.tail)); (first | rfl | (simp [takeV]; done))) | ((with_reducible apply l_build); rfl; (simp [fillL, splice, Value.cells, Act.eval]; rfl)) | ((with_reducible apply l_buildA); rfl; (simp [fillL, splice, Value.cells, Act.eval]; rfl)) | ((with_reducible apply l_bslice); assumption; rfl; rfl; (first | (simp [fillL, splice, zeros, Value.cells, Act.eval]; rfl) | rfl); clear hS; intro b w hS) | ((with_reducible apply l_storeF); assumption; rfl; rfl; (repeat (first | exact Upd.head | apply Upd.tail)); rfl; clear hS; intro w hS) | ((with_reducible apply l_store); assumption; rfl; rfl; (repeat (first | exact Upd.head | apply Upd.tail)); rfl; clear hS; intro w hS; simp only [splice] at hS; try rw [splice_nil] at hS))
            have hR0 : R = false := by rw [HR.out, Hal.out.2 Htp.out]; simp
            exact ⟨rfl, Fine.n hR0, hS.fr⟩
        · have hie : i = (someP e.ty).length := by omega
          have hn : ¬ ((i : Int) < ((someP e.ty).length : Int)) := by omega
          have HT1 : Hid ((someP e.ty).all (textP [13, 10]) = true) := by
            have := HT.out
            rw [hie, List.take_length] at this
            exact Lib.hid this
          clear HT
          go_wp2_with (first | ((with_reducible apply l_want); rfl) | ((with_reducible apply l_alloc); assumption; rfl; clear hS; intro b w hS) | ((with_reducible apply l_box); assumption; rfl; clear hS; intro b w hS) | ((with_reducible apply l_load); assumption; rfl; (repeat (first | exact Has.head | apply Has.tail)); (first | rfl | (simp [takeV]; done))) | ((with_reducible apply l_build); rfl; (simp [fillL, splice, Value.cells, Act.eval]; rfl)) | ((with_reducible apply l_buildA); rfl; (simp [fillL, splice, Value.cells, Act.eval]; rfl)) | ((with_reducible apply l_bslice); assumption; rfl; rfl; (first | (simp [fillL, splice, zeros, Value.cells, Act.eval]; rfl) | rfl); clear hS; intro b w hS) | ((with_reducible apply l_storeF); assumption; rfl; rfl; (repeat (first | exact Upd.head | apply Upd.tail)); rfl; clear hS; intro w hS) | ((with_reducible apply l_store); assumption; rfl; rfl; (repeat (first | exact Upd.head | apply Upd.tail)); rfl; clear hS; intro w hS; simp only [splice] at hS; try rw [splice_nil] at hS))
          -- part 2
          rw [rounds_succ]
          go_wp2_with (first | ((with_reducible apply l_want); rfl) | ((with_reducible apply l_index (i := 2)); rfl; rfl; decide; rfl) | (go_at_call 250; go_must (refine (texts2_c _ (hG.keep hS.fr) e hda).mono ?_); rintro en w1 ⟨v, rfl, hT⟩; replace hS := hS.join hT; obtain ⟨A, cp, rfl, hcp⟩ := (hS.get (c := rdS 1 v (splitP 10 e.da).length (sv (splitP 10 e.da))) (by exact Has.head)).shape; clear hT) | ((with_reducible apply l_alloc); assumption; rfl; clear hS; intro b w hS) | ((with_reducible apply l_box); assumption; rfl; clear hS; intro b w hS) | ((with_reducible apply l_load); assumption; rfl; (repeat (first | exact Has.head | apply Has.tail)); (first | rfl | (simp [takeV]; done))) | ((with_reducible apply l_build); rfl; (simp [fillL, splice, Value.cells, Act.eval]; rfl)) | ((with_reducible apply l_buildA); rfl; (simp [fillL, splice, Value.cells, Act.eval]; rfl)) | ((with_reducible apply l_bslice); assumption; rfl; rfl; (first | (simp [fillL, splice, zeros, Value.cells, Act.eval]; rfl) | rfl); clear hS; intro b w hS) | ((with_reducible apply l_storeF); assumption; rfl; rfl; (repeat (first | exact Upd.head | apply Upd.tail)); rfl; clear hS; intro w hS) | ((with_reducible apply l_store); assumption; rfl; rfl; (repeat (first | exact Upd.head | apply Upd.tail)); rfl; clear hS; intro w hS; simp only [splice] at hS; try rw [splice_nil] at hS))
          replace hS := hS.sub (L' := [rdS 1 (.slice A (splitP 10 e.da).length cp) (splitP 10 e.da).length (sv (splitP 10 e.da)), row b 313 [txt [13], fnv 250, fnv 252], row bF 232 e.cs]) (by (repeat (first | exact List.Sublist.slnil | exact List.Sublist.refl _ | apply List.Sublist.cons_cons | apply List.Sublist.cons)))
          have hlb := (by have := (splitP_len 10 e.da).2; omega : (splitP 10 e.da).length ≤ 65537)
          go_loopg [31] (splitP 10 e.da).length (fun g t31 wr => ∃ i : Nat, i + g = (splitP 10 e.da).length ∧ t31 = .int .i64 (i : Int) ∧ Hid (((splitP 10 e.da).take i).all (textP [13]) = true) ∧ St [] w0 wr [rdS 1 (.slice A (splitP 10 e.da).length cp) (splitP 10 e.da).length (sv (splitP 10 e.da)), row b 313 [txt [13], fnv 250, fnv 252], row bF 232 e.cs])
          case atStart => exact ⟨0, by omega, rfl, Lib.hid rfl, hS⟩
          case round =>
            obtain ⟨i, hig, rfl, HT, hS⟩ := hrel
            by_cases hlt : i < (splitP 10 e.da).length
            · obtain ⟨x, hx⟩ : ∃ x, (splitP 10 e.da)[i]? = some x := ⟨_, List.getElem?_eq_getElem hlt⟩
              have hxl : x.length ≤ 65536 := by
                have : ∀ x ∈ splitP 10 e.da, x.length ≤ e.da.length := fun x hx => (splitP_len 10 e.da).1 x hx
                have := this x (List.mem_of_getElem? hx)
                omega
              have hal := all_at (textP [13]) (splitP 10 e.da) i x hx HT.out
              have hrd0 := hS.get (c := rdS 1 (.slice A (splitP 10 e.da).length cp) (splitP 10 e.da).length (sv (splitP 10 e.da))) (by exact Has.head)
              obtain ⟨_, bb, o, rfl, hrd⟩ := hrd0.at i hlt (by decide)
              have hrd1 : Rd wr bb (o + i) [txt x] := by
                have := hrd.take 1
                rw [Nat.mul_one] at this
                have e1 : ((sv (splitP 10 e.da)).drop i).take 1 = [txt x] := by
                  rw [List.drop_eq_getElem_cons (by rw [sv_length]; exact hlt)]
                  have := (List.getElem?_eq_some_iff.1 hx).2
                  simp [sv, this]
                rwa [e1] at this
              have Hrd := Lib.hid hrd1
              have Hal := Lib.hid hal
              clear hrd0 hrd hrd1 hal hx
              cases htp : textP [13] x with
              | true =>
                have Htp := Lib.hid htp
                clear htp
                go_wp2_with (first | ((with_reducible apply l_want); rfl) | ((with_reducible apply l_read); rfl; exact Hrd.out; rfl) | (go_at_call 122; go_must (refine (text_y _ x [13] ascii1 (by omega) Htp.out).mono ?_); rintro en w1 ⟨⟨v, rfl⟩, hf1⟩; replace hS := hS.keep hf1) | ((with_reducible apply l_alloc); assumption; rfl; clear hS; intro b w hS) | ((with_reducible apply l_box); assumption; rfl; clear hS; intro b w hS) | ((with_reducible apply l_load); assumption; rfl; (repeat (first | exact Has.head | apply Has.tail)); (first | rfl | (simp [takeV]; done))) | ((with_reducible apply l_build); rfl; (simp [fillL, splice, Value.cells, Act.eval]; rfl)) | ((with_reducible apply l_buildA); rfl; (simp [fillL, splice, Value.cells, Act.eval]; rfl)) | ((with_reducible apply l_bslice); assumption; rfl; rfl; (first | (simp [fillL, splice, zeros, Value.cells, Act.eval]; rfl) | rfl); clear hS; intro b w hS) | ((with_reducible apply l_storeF); assumption; rfl; rfl; (repeat (first | exact Upd.head | apply Upd.tail)); rfl; clear hS; intro w hS) | ((with_reducible apply l_store); assumption; rfl; rfl; (repeat (first | exact Upd.head | apply Upd.tail)); rfl; clear hS; intro w hS; simp only [splice] at hS; try rw [splice_nil] at hS))
                go_roundg (gk - 1)
                case measure => omega
                case rel => exact ⟨i + 1, by omega, by go_num, Lib.hid (Hal.out.1 Htp.out), hS⟩
              | false =>
                have Htp := Lib.hid htp
                clear htp
                go_wp2_with (first | ((with_reducible apply l_want); rfl) | ((with_reducible apply l_read); rfl; exact Hrd.out; rfl) | (go_at_call 122; go_must (refine (text_n _ x [13] ascii1 (by omega) Htp.out).mono ?_); rintro en w1 ⟨rfl, hf1⟩; replace hS := hS.keep hf1) | ((with_reducible apply l_alloc); assumption; rfl; clear hS; intro b w hS) | ((with_reducible apply l_box); assumption; rfl; clear hS; intro b w hS) | ((with_reducible apply l_load); assumption; rfl; (repeat (first | exact Has.head | apply Has.tail)); (first | rfl | (simp [takeV]; done))) | ((with_reducible apply l_build); rfl; (simp [fillL, splice, Value.cells, Act.eval]; rfl)) | ((with_reducible apply l_buildA); rfl; (simp [fillL, splice, Value.cells, Act.eval]; rfl)) | ((with_reducible apply l_bslice); assumption; rfl; rfl; (first | (simp [fillL, splice, zeros, Value.cells, Act.eval]; rfl) | rfl); clear hS; intro b w hS) | ((with_reducible apply l_storeF); assumption; rfl; rfl; (repeat (first | exact Upd.head | apply Upd.tail)); rfl; clear hS; intro w hS) | ((with_reducible apply l_store); assumption; rfl; rfl; (repeat (first | exact Upd.head | apply Upd.tail)); rfl; clear hS; intro w hS; simp only [splice] at hS; try rw [splice_nil] at hS))
                have hR0 : R = false := by rw [HR.out, Hal.out.2 Htp.out]; simp
                exact ⟨rfl, Fine.n hR0, hS.fr⟩
            · have hie : i = (splitP 10 e.da).length := by omega
              have hn : ¬ ((i : Int) < ((splitP 10 e.da).length : Int)) := by omega
              have HT2 : Hid ((splitP 10 e.da).all (textP [13]) = true) := by
                have := HT.out
                rw [hie, List.take_length] at this
                exact Lib.hid this
              clear HT
              go_wp2_with (first | ((with_reducible apply l_want); rfl) | ((with_reducible apply l_alloc); assumption; rfl; clear hS; intro b w hS) | ((with_reducible apply l_box); assumption; rfl; clear hS; intro b w hS) | ((with_reducible apply l_load); assumption; rfl; (repeat (first | exact Has.head | apply Has.tail)); (first | rfl | (simp [takeV]; done))) | ((with_reducible apply l_build); rfl; (simp [fillL, splice, Value.cells, Act.eval]; rfl)) | ((with_reducible apply l_buildA); rfl; (simp [fillL, splice, Value.cells, Act.eval]; rfl)) | ((with_reducible apply l_bslice); assumption; rfl; rfl; (first | (simp [fillL, splice, zeros, Value.cells, Act.eval]; rfl) | rfl); clear hS; intro b w hS) | ((with_reducible apply l_storeF); assumption; rfl; rfl; (repeat (first | exact Upd.head | apply Upd.tail)); rfl; clear hS; intro w hS) | ((with_reducible apply l_store); assumption; rfl; rfl; (repeat (first | exact Upd.head | apply Upd.tail)); rfl; clear hS; intro w hS; simp only [splice] at hS; try rw [splice_nil] at hS))
              rw [rounds_succ]
              cases htp : textP [13] e.da with
              | true =>
                have Htp := Lib.hid htp
                clear htp
                go_wp2_with (first | ((with_reducible apply l_want); rfl) | (go_at_call 122; go_must (refine (text_y _ e.da [13] ascii1 (by omega) Htp.out).mono ?_); rintro en w1 ⟨⟨v, rfl⟩, hf1⟩; replace hS := hS.keep hf1) | ((with_reducible apply l_alloc); assumption; rfl; clear hS; intro b w hS) | ((with_reducible apply l_box); assumption; rfl; clear hS; intro b w hS) | ((with_reducible apply l_load); assumption; rfl; (repeat (first | exact Has.head | apply Has.tail)); (first | rfl | (simp [takeV]; done))) | ((with_reducible apply l_build); rfl; (simp [fillL, splice, Value.cells, Act.eval]; rfl)) | ((with_reducible apply l_buildA); rfl; (simp [fillL, splice, Value.cells, Act.eval]; rfl)) | ((with_reducible apply l_bslice); assumption; rfl; rfl; (first | (simp [fillL, splice, zeros, Value.cells, Act.eval]; rfl) | rfl); clear hS; intro b w hS) | ((with_reducible apply l_storeF); assumption; rfl; rfl; (repeat (first | exact Upd.head | apply Upd.tail)); rfl; clear hS; intro w hS) | ((with_reducible apply l_store); assumption; rfl; rfl; (repeat (first | exact Upd.head | apply Upd.tail)); rfl; clear hS; intro w hS; simp only [splice] at hS; try rw [splice_nil] at hS))
                go_end0
                have hR1 : R = true := by rw [HR.out, HT0.out, HT1.out, HT2.out, Htp.out]; rfl
                exact ⟨Fine.y hR1, hS.fr⟩
              | false =>
                have Htp := Lib.hid htp
                clear htp
                go_wp2_with (first | ((with_reducible apply l_want); rfl) | (go_at_call 122; go_must (refine (text_n _ e.da [13] ascii1 (by omega) Htp.out).mono ?_); rintro en w1 ⟨rfl, hf1⟩; replace hS := hS.keep hf1) | ((with_reducible apply l_alloc); assumption; rfl; clear hS; intro b w hS) | ((with_reducible apply l_box); assumption; rfl; clear hS; intro b w hS) | ((with_reducible apply l_load); assumption; rfl; (repeat (first | exact Has.head | apply Has.tail)); (first | rfl | (simp [takeV]; done))) | ((with_reducible apply l_build); rfl; (simp [fillL, splice, Value.cells, Act.eval]; rfl)) | ((with_reducible apply l_buildA); rfl; (simp [fillL, splice, Value.cells, Act.eval]; rfl)) | ((with_reducible apply l_bslice); assumption; rfl; rfl; (first | (simp [fillL, splice, zeros, Value.cells, Act.eval]; rfl) | rfl); clear hS; intro b w hS) | ((with_reducible apply l_storeF); assumption; rfl; rfl; (repeat (first | exact Upd.head | apply Upd.tail)); rfl; clear hS; intro w hS) | ((with_reducible apply l_store); assumption; rfl; rfl; (repeat (first | exact Upd.head | apply Upd.tail)); rfl; clear hS; intro w hS; simp only [splice] at hS; try rw [splice_nil] at hS))
                have hR0 : R = false := by rw [HR.out, Htp.out]; simp
                exact ⟨rfl, Fine.n hR0, hS.fr⟩
end Go.Proofs.YtaejmginhkbbhaaGreatDoor

