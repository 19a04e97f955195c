/- The walk through law 07's EventResets (F4). Conditions: as each contract says. -/
import Derived.Test.YtaejmginhkbbhaaGreatDoorQ3
import Derived.Test.YtaejmginhkbbhaaGreatDoorE1
set_option linter.unusedSimpArgs false
set_option linter.unusedVariables false
set_option maxRecDepth 100000
set_option maxHeartbeats 1000000
namespace Go.Proofs.YtaejmginhkbbhaaGreatDoor
open Go Go.RowKit
attribute [local irreducible] Calls
theorem rty (a b : Nat) : ((resetP a b).ty == resetT) = true := by
  show (resetT == resetT) = true
  decide
theorem rty_len (a b : Nat) : (resetP a b).ty.length ≤ 1099511627776 := by
  show resetT.length ≤ _
  decide
theorem rid_len (a b : Nat) : (resetP a b).id.length ≤ 1099511627776 := by
  show ([] : List UInt8).length ≤ _
  decide
theorem resetsP_reset (a b : Nat) (ha : a < 18446744073709551616) (hb : b < 18446744073709551616) : resetsP (resetP a b) = (a, b, 0) := by
  have hc : Lib.cut (resetP a b).da [32] = (Lib.decDigits a, Lib.decDigits b, true) := by
    have e : (resetP a b).da = Lib.decDigits a ++ 32 :: Lib.decDigits b := by unfold resetP; simp
    rw [e]
    exact cut_at 32 _ _ (dec_no a 32 (by decide))
  unfold resetsP
  rw [hc]
  have p1 : (parseP (Lib.decDigits a)).2 = 0 := by rw [parse_dec a ha]
  have p2 : (parseP (Lib.decDigits b)).2 = 0 := by rw [parse_dec b hb]
  rw [if_pos ⟨rfl, rfl, rty a b, p1, p2⟩]
  show ((parseP (Lib.decDigits a)).1, (parseP (Lib.decDigits b)).1, (0 : Int)) = _
  rw [parse_dec a ha, parse_dec b hb]
theorem dig_ascii {l : List UInt8} (h : l.all digB = true) : ∀ c ∈ l, c.toNat < 128 ∧ c ≠ 13 := by
  intro c hc
  have := List.all_eq_true.1 h c hc
  unfold digB at this
  simp only [Bool.and_eq_true, decide_eq_true_eq] at this
  refine ⟨by omega, ?_⟩
  rintro rfl
  have e : (13 : UInt8).toNat = 13 := rfl
  omega
theorem right_reset (a b : Nat) (ha : a < 18446744073709551616) (hb : b < 18446744073709551616) : rightP (resetP a b) = true := by
  unfold rightP
  rw [checkP_eq]
  have h1 := dec_len a ha
  have h2 := dec_len b hb
  have hd : ∀ c ∈ (resetP a b).da, c.toNat < 128 ∧ c ≠ 13 := by
    intro c hc
    unfold resetP at hc
    simp only [List.mem_append, List.mem_singleton] at hc
    rcases hc with (h | h) | h
    · exact dig_ascii (dec_all a) c h
    · subst h; decide
    · exact dig_ascii (dec_all b) c h
  have t3 : textP [13] (resetP a b).da = true := by
    unfold textP
    have e1 : hasP (resetP a b).da [13] = false := by
      unfold hasP
      rw [List.any_eq_false]
      intro c hc
      have := (hd c hc).2
      simpa using this
    rw [e1, sound_ascii _ (fun c hc => (hd c hc).1)]
    rfl
  have t1 : textP [0, 13, 10] (resetP a b).id = true := by
    show textP [0, 13, 10] [] = true
    decide +kernel
  have t2 : textP [13, 10] (resetP a b).ty = true := by
    show textP [13, 10] resetT = true
    decide +kernel
  unfold rightQ
  rw [t1, t2, t3]
  have hl : (resetP a b).id.length + (resetP a b).ty.length + (resetP a b).da.length ≤ 65536 := by
    unfold resetP resetT
    simp
    omega
  rw [decide_eq_true hl]
  rfl
theorem nil_rd (W : World) : RdS W 1 (.slice none 0 0) ([] : List UInt8).length (bv []) := RdS.nil _ _ _ _
theorem eresets_a (w0 : World) (hG : GlobT w0) (l : List UInt8) (ea eb : Nat) (x : Ev) (h : 300 < l.length) : Calls Tryz.prog 4 #[txt l, .int .u64 (ea : Int), .int .u64 (eb : Int), x.v] w0 fun en w' => en = .returned (.bool true) ∧ Fr [] w0 w' := by
  have f1 : decide ((300 : Int) < (l.length : Int)) = true := by simp; omega
  clear h
  change Calls Tryz.prog 4 #[txt l, .int .u64 (ea : Int), .int .u64 (eb : Int), .agg ⟨[txt x.id, txt x.ty, txt x.da]⟩] w0 _
  go_enter Tryz.func4, Tryz.ntmps4
  have hS := St.start [] w0
  go_wp2_with (first | ((with_reducible apply l_want); rfl) | (go_at_call 37; go_must (refine (works_c _ (hG.keep hS.fr)).mono ?_); rintro en w1 ⟨rfl, hf1⟩; replace hS := hS.keep hf1) | ((with_reducible apply l_alloc); assumption; rfl; clear hS; intro b w hS) | ((with_reducible apply l_box); assumption; rfl; clear hS; intro b w hS) | ((with_reducible apply l_load); assumption; rfl; (repeat (first | exact Has.head | apply Has.tail)); (first | rfl | (simp [takeV]; done))) | ((with_reducible apply l_build); rfl; (simp [fillL, splice, Value.cells, Act.eval]; rfl)) | ((with_reducible apply l_buildA); rfl; (simp [fillL, splice, Value.cells, Act.eval]; rfl)) | ((with_reducible apply l_bslice); assumption; rfl; rfl; (first | (simp [fillL, splice, zeros, Value.cells, Act.eval]; rfl) | rfl); clear hS; intro b w hS) | ((with_reducible apply l_storeF); assumption; rfl; rfl; (repeat (first | exact Upd.head | apply Upd.tail)); rfl; clear hS; intro w hS) | ((with_reducible apply l_store); assumption; rfl; rfl; (repeat (first | exact Upd.head | apply Upd.tail)); rfl; clear hS; intro w hS; simp only [splice] at hS; try rw [splice_nil] at hS))
  go_ret
  exact ⟨rfl, hS.fr⟩
theorem eresets_b (w0 : World) (hG : GlobT w0) (l : List UInt8) (ea eb : Nat) (x : Ev) (h : ¬ 300 < l.length) (hf : fewP x = false) : Calls Tryz.prog 4 #[txt l, .int .u64 (ea : Int), .int .u64 (eb : Int), x.v] w0 fun en w' => en = .returned (.bool true) ∧ Fr [] w0 w' := by
  have f1 : decide ((300 : Int) < (l.length : Int)) = false := by simp; omega
  have hfw := fun W => few_c W x
  rw [hf] at hfw
  have Hfw := Lib.hid hfw
  clear h hfw hf
  change Calls Tryz.prog 4 #[txt l, .int .u64 (ea : Int), .int .u64 (eb : Int), .agg ⟨[txt x.id, txt x.ty, txt x.da]⟩] w0 _
  go_enter Tryz.func4, Tryz.ntmps4
  have hS := St.start [] w0
  go_wp2_with (first | ((with_reducible apply l_want); rfl) | (go_at_call 36; go_must (refine (Hfw.out _).mono ?_); rintro en w1 ⟨rfl, hf1⟩; replace hS := hS.keep hf1) | (go_at_call 37; go_must (refine (works_c _ (hG.keep hS.fr)).mono ?_); rintro en w1 ⟨rfl, hf1⟩; replace hS := hS.keep hf1) | ((with_reducible apply l_alloc); assumption; rfl; clear hS; intro b w hS) | ((with_reducible apply l_box); assumption; rfl; clear hS; intro b w hS) | ((with_reducible apply l_load); assumption; rfl; (repeat (first | exact Has.head | apply Has.tail)); (first | rfl | (simp [takeV]; done))) | ((with_reducible apply l_build); rfl; (simp [fillL, splice, Value.cells, Act.eval]; rfl)) | ((with_reducible apply l_buildA); rfl; (simp [fillL, splice, Value.cells, Act.eval]; rfl)) | ((with_reducible apply l_bslice); assumption; rfl; rfl; (first | (simp [fillL, splice, zeros, Value.cells, Act.eval]; rfl) | rfl); clear hS; intro b w hS) | ((with_reducible apply l_storeF); assumption; rfl; rfl; (repeat (first | exact Upd.head | apply Upd.tail)); rfl; clear hS; intro w hS) | ((with_reducible apply l_store); assumption; rfl; rfl; (repeat (first | exact Upd.head | apply Upd.tail)); rfl; clear hS; intro w hS; simp only [splice] at hS; try rw [splice_nil] at hS))
  go_ret
  exact ⟨rfl, hS.fr⟩
theorem eresets_y (w0 : World) (hG : GlobT w0) (l : List UInt8) (ea eb : Nat) (x : Ev) (ha : ea < 18446744073709551616) (hb : eb < 18446744073709551616) (h : ¬ 300 < l.length) (hf : fewP x = true) (ht : textP [13, 10] l = true) : Calls Tryz.prog 4 #[txt l, .int .u64 (ea : Int), .int .u64 (eb : Int), x.v] w0 fun en w' => en = .returned (.bool true) ∧ Fr [] w0 w' := by
  have f1 : decide ((300 : Int) < (l.length : Int)) = false := by simp; omega
  have hfl := fewP_len hf
  have hfw := fun W => few_c W x
  rw [hf] at hfw
  have hrc := fun W => rcomment_c W l (by omega)
  have hre := fun W (hW : GlobT W) => reset_c W hW ea eb ha hb
  have hrr := fun W => rreset_c W ea eb ha hb
  have d1 := dec_len ea ha
  have d2 := dec_len eb hb
  have hdl : (resetP ea eb).da.length ≤ 50 := by unfold resetP; simp; omega
  have hr1 := fun W (hW : GlobT W) => resets_c W hW.base (resetP ea eb) (rid_len ea eb) (rty_len ea eb) (by omega)
  rw [resetsP_reset ea eb ha hb] at hr1
  have hr2 := fun W (hW : GlobT W) => resets_c W hW.base x (by omega) (by omega) (by omega)
  have hr3 := fun W => rresets_c W x (by omega)
  have hck := fun W (hW : GlobT W) => check_c W hW.base (resetP ea eb) (rid_len ea eb) (rty_len ea eb) (by omega)
  rw [right_reset ea eb ha hb] at hck
  have hrs := fun W => reserved_c W (resetP ea eb)
  rw [rty ea eb] at hrs
  obtain ⟨m, hm⟩ : ∃ m, m = (resetsP x).1 := ⟨_, rfl⟩
  obtain ⟨n, hn⟩ : ∃ n, n = (resetsP x).2.1 := ⟨_, rfl⟩
  obtain ⟨z, hz⟩ : ∃ z, z = (resetsP x).2.2 := ⟨_, rfl⟩
  unfold resV at hr3
  rw [← hm, ← hn, ← hz] at hr2 hr3
  have hcm := fun W (hW : GlobT W) => comment_t W hW.base l (58 :: 32 :: (l ++ [10, 10])) (by omega) ht rfl
  rw [if_pos ht] at hrc
  obtain ⟨C, hC⟩ : ∃ C, C = 58 :: 32 :: (l ++ [10, 10]) := ⟨_, rfl⟩
  rw [← hC] at hcm hrc
  clear hC
  have Hfw := Lib.hid hfw
  have Hrc := Lib.hid hrc
  have Hre := Lib.hid hre
  have Hrr := Lib.hid hrr
  have Hr1 := Lib.hid hr1
  have Hr2 := Lib.hid hr2
  have Hr3 := Lib.hid hr3
  have Hck := Lib.hid hck
  have Hrs := Lib.hid hrs
  have Hcm := Lib.hid hcm
  clear hfw hrc hre hrr hr1 hr2 hr3 hck hrs hcm d1 d2 hdl hm hn hz h hf ht hfl
  change Calls Tryz.prog 4 #[txt l, .int .u64 (ea : Int), .int .u64 (eb : Int), .agg ⟨[txt x.id, txt x.ty, txt x.da]⟩] w0 _
  go_enter Tryz.func4, Tryz.ntmps4
  have hS := St.start [] w0
  go_wp2_with (first | ((with_reducible apply l_want); rfl) | (go_at_call 36; go_must (refine (Hfw.out _).mono ?_); rintro en w1 ⟨rfl, hf1⟩; replace hS := hS.keep hf1) | (go_at_call 38; go_must (refine (Hcm.out _ (hG.keep hS.fr)).mono ?_); rintro en w1 ⟨v, rfl, hT⟩; replace hS := hS.join hT; simp only [List.cons_append, List.nil_append] at hS; obtain ⟨A, cp, rfl, hcp⟩ := (hT.get (c := rdS 1 v C.length (bv C)) (by exact Has.head)).shape; clear hT) | (go_at_call 39; go_must (refine (Hrc.out _).mono ?_); rintro en w1 ⟨rfl, hf1⟩; replace hS := hS.keep hf1) | (go_at_call 40; go_must (refine (Hre.out _ (hG.keep hS.fr)).mono ?_); rintro en w1 ⟨rfl, hf1⟩; replace hS := hS.keep hf1) | (go_at_call 41; refine (Hr1.out _ (hG.keep hS.fr)).mono ?_; rintro en w1 ⟨rfl, hf1⟩; replace hS := hS.keep hf1) | (go_at_call 41; refine (Hr2.out _ (hG.keep hS.fr)).mono ?_; rintro en w1 ⟨rfl, hf1⟩; replace hS := hS.keep hf1) | (go_at_call 42; go_must (refine (Hr3.out _).mono ?_); rintro en w1 ⟨rfl, hf1⟩; replace hS := hS.keep hf1) | ((with_reducible apply l_alloc); assumption; rfl; clear hS; intro b w hS) | ((with_reducible apply l_box); assumption; rfl; clear hS; intro b w hS) | ((with_reducible apply l_load); assumption; rfl; (repeat (first | exact Has.head | apply Has.tail)); (first | rfl | (simp [takeV]; done))) | ((with_reducible apply l_build); rfl; (simp [fillL, splice, Value.cells, Act.eval]; rfl)) | ((with_reducible apply l_buildA); rfl; (simp [fillL, splice, Value.cells, Act.eval]; rfl)) | ((with_reducible apply l_bslice); assumption; rfl; rfl; (first | (simp [fillL, splice, zeros, Value.cells, Act.eval]; rfl) | rfl); clear hS; intro b w hS) | ((with_reducible apply l_storeF); assumption; rfl; rfl; (repeat (first | exact Upd.head | apply Upd.tail)); rfl; clear hS; intro w hS) | ((with_reducible apply l_store); assumption; rfl; rfl; (repeat (first | exact Upd.head | apply Upd.tail)); rfl; clear hS; intro w hS; simp only [splice] at hS; try rw [splice_nil] at hS))
  refine mix_start mixed (by kernel_rfl) _ (Stable.st _ _ _) hS.drew ?_
  replace hS := hS.drew
  apply mix_f 0 rfl (by kernel_rfl) rfl
  · intro w; go_wp2_with (first | ((with_reducible apply l_want); rfl)); exact ⟨rfl, Fr.refl _ _⟩
  · rfl
  apply mix_q 1 rfl (by kernel_rfl) rfl rfl
  · intro w hS; go_wp2_with (first | ((with_reducible apply l_want); rfl) | ((with_reducible apply l_b2s (l := C)); rfl; refine hS.get (c := rdS 1 _ C.length (bv C)) ?_; (first | exact Has.head | exact Has.head.tail | exact Has.head.tail.tail | exact Has.head.tail.tail.tail | exact Has.head.tail.tail.tail.tail | exact Has.head.tail.tail.tail.tail.tail | exact Has.head.tail.tail.tail.tail.tail.tail | exact Has.head.tail.tail.tail.tail.tail.tail.tail | exact Has.head.tail.tail.tail.tail.tail.tail.tail.tail | exact Has.head.tail.tail.tail.tail.tail.tail.tail.tail.tail | exact Has.head.tail.tail.tail.tail.tail.tail.tail.tail.tail.tail | exact Has.head.tail.tail.tail.tail.tail.tail.tail.tail.tail.tail.tail))); exact ⟨rfl, by first | exact Fr.refl _ _ | assumption⟩
  · rfl
  apply mix_f 2 rfl (by kernel_rfl) rfl
  · intro w; go_wp2_with (first | ((with_reducible apply l_want); rfl)); exact ⟨rfl, Fr.refl _ _⟩
  · rfl
  apply mix_q 3 rfl (by kernel_rfl) rfl rfl
  · intro w hS; go_wp2_with (first | ((with_reducible apply l_want); rfl) | ((with_reducible apply l_eqEv (f := resetP ea eb) (g := resetP ea eb) (r := true)); rfl; rfl; exact decide_eq_true rfl)); exact ⟨rfl, by first | exact Fr.refl _ _ | assumption⟩
  · rfl
  apply mix_f 4 rfl (by kernel_rfl) rfl
  · intro w; go_wp2_with (first | ((with_reducible apply l_want); rfl)); exact ⟨rfl, Fr.refl _ _⟩
  · rfl
  apply mix_f 5 rfl (by kernel_rfl) rfl
  · intro w; go_wp2_with (first | ((with_reducible apply l_want); rfl)); exact ⟨rfl, Fr.refl _ _⟩
  · rfl
  apply mix_q 6 rfl (by kernel_rfl) rfl rfl
  · intro w hS; go_wp2_with (first | ((with_reducible apply l_want); rfl) | (go_at_call 43; go_must (refine (num_c _ _).mono ?_); rintro en w1 ⟨rfl, rfl⟩)); exact ⟨rfl, by first | exact Fr.refl _ _ | assumption⟩
  · rfl
  apply mix_f 7 rfl (by kernel_rfl) rfl
  · intro w; go_wp2_with (first | ((with_reducible apply l_want); rfl)); exact ⟨rfl, Fr.refl _ _⟩
  · rfl
  apply mix_q 8 rfl (by kernel_rfl) rfl rfl
  · intro w hS; go_wp2_with (first | ((with_reducible apply l_want); rfl) | ((with_reducible apply l_eqEv (f := resetP ea eb) (g := resetP ea eb) (r := true)); rfl; rfl; exact decide_eq_true rfl)); exact ⟨rfl, by first | exact Fr.refl _ _ | assumption⟩
  · rfl
  apply mix_f 9 rfl (by kernel_rfl) rfl
  · intro w; go_wp2_with (first | ((with_reducible apply l_want); rfl)); exact ⟨rfl, Fr.refl _ _⟩
  · rfl
  apply mix_f 10 rfl (by kernel_rfl) rfl
  · intro w; go_wp2_with (first | ((with_reducible apply l_want); rfl)); exact ⟨rfl, Fr.refl _ _⟩
  · rfl
  apply mix_q 11 rfl (by kernel_rfl) rfl rfl
  · intro w hS; go_wp2_with (first | ((with_reducible apply l_want); rfl) | ((with_reducible apply l_load); assumption; rfl; (repeat (first | exact Has.head | apply Has.tail)); (first | rfl | (simp [takeV]; done)))); exact ⟨rfl, by first | exact Fr.refl _ _ | assumption⟩
  · rfl
  apply mix_f 12 rfl (by kernel_rfl) rfl
  · intro w; go_wp2_with (first | ((with_reducible apply l_want); rfl)); exact ⟨rfl, Fr.refl _ _⟩
  · rfl
  apply mix_f 13 rfl (by kernel_rfl) rfl
  · intro w; go_wp2_with (first | ((with_reducible apply l_want); rfl)); exact ⟨rfl, Fr.refl _ _⟩
  · rfl
  apply mix_q 14 rfl (by kernel_rfl) rfl rfl
  · intro w hS; go_wp2_with (first | ((with_reducible apply l_want); rfl) | (go_at_call 44; go_must (refine (Hrr.out _).mono ?_); rintro en w1 ⟨rfl, hf1⟩)); exact ⟨rfl, by first | exact Fr.refl _ _ | assumption⟩
  · rfl
  apply mix_q 15 rfl (by kernel_rfl) rfl rfl
  · intro w hS; go_wp2_with (first | ((with_reducible apply l_want); rfl) | ((with_reducible apply l_eqEv (f := resetP ea eb) (g := resetP ea eb) (r := true)); rfl; rfl; exact decide_eq_true rfl)); exact ⟨rfl, by first | exact Fr.refl _ _ | assumption⟩
  · rfl
  apply mix_f 16 rfl (by kernel_rfl) rfl
  · intro w; go_wp2_with (first | ((with_reducible apply l_want); rfl)); exact ⟨rfl, Fr.refl _ _⟩
  · rfl
  apply mix_f 17 rfl (by kernel_rfl) rfl
  · intro w; go_wp2_with (first | ((with_reducible apply l_want); rfl)); exact ⟨rfl, Fr.refl _ _⟩
  · rfl
  apply mix_f 18 rfl (by kernel_rfl) rfl
  · intro w; go_wp2_with (first | ((with_reducible apply l_want); rfl)); exact ⟨rfl, Fr.refl _ _⟩
  · rfl
  apply mix_f 19 rfl (by kernel_rfl) rfl
  · intro w; go_wp2_with (first | ((with_reducible apply l_want); rfl)); exact ⟨rfl, Fr.refl _ _⟩
  · rfl
  apply mix_q 20 rfl (by kernel_rfl) rfl rfl
  · intro w hS; go_wp2_with (first | ((with_reducible apply l_want); rfl) | ((with_reducible apply l_eqEv (f := resetP ea eb) (g := resetP ea eb) (r := true)); rfl; rfl; exact decide_eq_true rfl)); exact ⟨rfl, by first | exact Fr.refl _ _ | assumption⟩
  · rfl
  apply mix_f 21 rfl (by kernel_rfl) rfl
  · intro w; go_wp2_with (first | ((with_reducible apply l_want); rfl)); exact ⟨rfl, Fr.refl _ _⟩
  · rfl
  apply mix_f 22 rfl (by kernel_rfl) rfl
  · intro w; go_wp2_with (first | ((with_reducible apply l_want); rfl)); exact ⟨rfl, Fr.refl _ _⟩
  · rfl
  apply mix_f 23 rfl (by kernel_rfl) rfl
  · intro w; go_wp2_with (first | ((with_reducible apply l_want); rfl)); exact ⟨rfl, Fr.refl _ _⟩
  · rfl
  apply mix_f 24 rfl (by kernel_rfl) rfl
  · intro w; go_wp2_with (first | ((with_reducible apply l_want); rfl)); exact ⟨rfl, Fr.refl _ _⟩
  · rfl
  apply mix_q 25 rfl (by kernel_rfl) rfl rfl
  · intro w hS; go_wp2_with (first | ((with_reducible apply l_want); rfl) | ((with_reducible apply l_eqEv (f := resetP ea eb) (g := resetP ea eb) (r := true)); rfl; rfl; exact decide_eq_true rfl)); exact ⟨rfl, by first | exact Fr.refl _ _ | assumption⟩
  · rfl
  apply mix_f 26 rfl (by kernel_rfl) rfl
  · intro w; go_wp2_with (first | ((with_reducible apply l_want); rfl)); exact ⟨rfl, Fr.refl _ _⟩
  · rfl
  apply mix_f 27 rfl (by kernel_rfl) rfl
  · intro w; go_wp2_with (first | ((with_reducible apply l_want); rfl)); exact ⟨rfl, Fr.refl _ _⟩
  · rfl
  apply mix_f 28 rfl (by kernel_rfl) rfl
  · intro w; go_wp2_with (first | ((with_reducible apply l_want); rfl)); exact ⟨rfl, Fr.refl _ _⟩
  · rfl
  apply mix_q 29 rfl (by kernel_rfl) rfl rfl
  · intro w hS; go_wp2_with (first | ((with_reducible apply l_want); rfl) | (go_at_call 43; go_must (refine (num_c _ _).mono ?_); rintro en w1 ⟨rfl, rfl⟩)); exact ⟨rfl, by first | exact Fr.refl _ _ | assumption⟩
  · rfl
  apply mix_q 30 rfl (by kernel_rfl) rfl rfl
  · intro w hS; go_wp2_with (first | ((with_reducible apply l_want); rfl) | ((with_reducible apply l_eqEv (f := resetP ea eb) (g := resetP ea eb) (r := true)); rfl; rfl; exact decide_eq_true rfl)); exact ⟨rfl, by first | exact Fr.refl _ _ | assumption⟩
  · rfl
  apply mix_f 31 rfl (by kernel_rfl) rfl
  · intro w; go_wp2_with (first | ((with_reducible apply l_want); rfl)); exact ⟨rfl, Fr.refl _ _⟩
  · rfl
  apply mix_f 32 rfl (by kernel_rfl) rfl
  · intro w; go_wp2_with (first | ((with_reducible apply l_want); rfl)); exact ⟨rfl, Fr.refl _ _⟩
  · rfl
  apply mix_f 33 rfl (by kernel_rfl) rfl
  · intro w; go_wp2_with (first | ((with_reducible apply l_want); rfl)); exact ⟨rfl, Fr.refl _ _⟩
  · rfl
  apply mix_f 34 rfl (by kernel_rfl) rfl
  · intro w; go_wp2_with (first | ((with_reducible apply l_want); rfl)); exact ⟨rfl, Fr.refl _ _⟩
  · rfl
  apply mix_q 35 rfl (by kernel_rfl) rfl rfl
  · intro w hS; go_wp2_with (first | ((with_reducible apply l_want); rfl) | ((with_reducible apply l_eqEv (f := resetP ea eb) (g := resetP ea eb) (r := true)); rfl; rfl; exact decide_eq_true rfl)); exact ⟨rfl, by first | exact Fr.refl _ _ | assumption⟩
  · rfl
  apply mix_f 36 rfl (by kernel_rfl) rfl
  · intro w; go_wp2_with (first | ((with_reducible apply l_want); rfl)); exact ⟨rfl, Fr.refl _ _⟩
  · rfl
  apply mix_f 37 rfl (by kernel_rfl) rfl
  · intro w; go_wp2_with (first | ((with_reducible apply l_want); rfl)); exact ⟨rfl, Fr.refl _ _⟩
  · rfl
  apply mix_f 38 rfl (by kernel_rfl) rfl
  · intro w; go_wp2_with (first | ((with_reducible apply l_want); rfl)); exact ⟨rfl, Fr.refl _ _⟩
  · rfl
  apply mix_f 39 rfl (by kernel_rfl) rfl
  · intro w; go_wp2_with (first | ((with_reducible apply l_want); rfl)); exact ⟨rfl, Fr.refl _ _⟩
  · rfl
  apply mix_q 40 rfl (by kernel_rfl) rfl rfl
  · intro w hS; go_wp2_with (first | ((with_reducible apply l_want); rfl) | ((with_reducible apply l_eqEv (f := resetP ea eb) (g := resetP ea eb) (r := true)); rfl; rfl; exact decide_eq_true rfl)); exact ⟨rfl, by first | exact Fr.refl _ _ | assumption⟩
  · rfl
  apply mix_f 41 rfl (by kernel_rfl) rfl
  · intro w; go_wp2_with (first | ((with_reducible apply l_want); rfl)); exact ⟨rfl, Fr.refl _ _⟩
  · rfl
  apply mix_f 42 rfl (by kernel_rfl) rfl
  · intro w; go_wp2_with (first | ((with_reducible apply l_want); rfl)); exact ⟨rfl, Fr.refl _ _⟩
  · rfl
  apply mix_f 43 rfl (by kernel_rfl) rfl
  · intro w; go_wp2_with (first | ((with_reducible apply l_want); rfl)); exact ⟨rfl, Fr.refl _ _⟩
  · rfl
  apply mix_q 44 rfl (by kernel_rfl) rfl rfl
  · intro w hS; go_wp2_with (first | ((with_reducible apply l_want); rfl) | (go_at_call 43; go_must (refine (num_c _ _).mono ?_); rintro en w1 ⟨rfl, rfl⟩)); exact ⟨rfl, by first | exact Fr.refl _ _ | assumption⟩
  · rfl
  apply mix_f 45 rfl (by kernel_rfl) rfl
  · intro w; go_wp2_with (first | ((with_reducible apply l_want); rfl)); exact ⟨rfl, Fr.refl _ _⟩
  · rfl
  apply mix_q 46 rfl (by kernel_rfl) rfl rfl
  · intro w hS; go_wp2_with (first | ((with_reducible apply l_want); rfl) | ((with_reducible apply l_eqEv (f := resetP ea eb) (g := resetP ea eb) (r := true)); rfl; rfl; exact decide_eq_true rfl)); exact ⟨rfl, by first | exact Fr.refl _ _ | assumption⟩
  · rfl
  apply mix_f 47 rfl (by kernel_rfl) rfl
  · intro w; go_wp2_with (first | ((with_reducible apply l_want); rfl)); exact ⟨rfl, Fr.refl _ _⟩
  · rfl
  apply mix_f 48 rfl (by kernel_rfl) rfl
  · intro w; go_wp2_with (first | ((with_reducible apply l_want); rfl)); exact ⟨rfl, Fr.refl _ _⟩
  · rfl
  apply mix_q 49 rfl (by kernel_rfl) rfl rfl
  · intro w hS; go_wp2_with (first | ((with_reducible apply l_want); rfl) | ((with_reducible apply l_load); assumption; rfl; (repeat (first | exact Has.head | apply Has.tail)); (first | rfl | (simp [takeV]; done)))); exact ⟨rfl, by first | exact Fr.refl _ _ | assumption⟩
  · rfl
  apply mix_q 50 rfl (by kernel_rfl) rfl rfl
  · intro w hS; go_wp2_with (first | ((with_reducible apply l_want); rfl) | (go_at_call 45; go_must (refine (Hck.out _ (hG.keep hS.fr)).mono ?_); rintro en w1 ⟨rfl, hf1⟩)); exact ⟨rfl, by first | exact Fr.refl _ _ | assumption⟩
  · rfl
  apply mix_q 51 rfl (by kernel_rfl) rfl rfl
  · intro w hS; go_wp2_with (first | ((with_reducible apply l_want); rfl) | (go_at_call 43; go_must (refine (num_c _ _).mono ?_); rintro en w1 ⟨rfl, rfl⟩)); exact ⟨rfl, by first | exact Fr.refl _ _ | assumption⟩
  · rfl
  apply mix_q 52 rfl (by kernel_rfl) rfl rfl
  · intro w hS; go_wp2_with (first | ((with_reducible apply l_want); rfl) | ((with_reducible apply l_eqEv (f := resetP ea eb) (g := resetP ea eb) (r := true)); rfl; rfl; exact decide_eq_true rfl)); exact ⟨rfl, by first | exact Fr.refl _ _ | assumption⟩
  · rfl
  apply mix_f 53 rfl (by kernel_rfl) rfl
  · intro w; go_wp2_with (first | ((with_reducible apply l_want); rfl)); exact ⟨rfl, Fr.refl _ _⟩
  · rfl
  apply mix_f 54 rfl (by kernel_rfl) rfl
  · intro w; go_wp2_with (first | ((with_reducible apply l_want); rfl)); exact ⟨rfl, Fr.refl _ _⟩
  · rfl
  apply mix_q 55 rfl (by kernel_rfl) rfl rfl
  · intro w hS; go_wp2_with (first | ((with_reducible apply l_want); rfl) | ((with_reducible apply l_load); assumption; rfl; (repeat (first | exact Has.head | apply Has.tail)); (first | rfl | (simp [takeV]; done)))); exact ⟨rfl, by first | exact Fr.refl _ _ | assumption⟩
  · rfl
  apply mix_q 56 rfl (by kernel_rfl) rfl rfl
  · intro w hS; go_wp2_with (first | ((with_reducible apply l_want); rfl) | (go_at_call 46; go_must (refine (Hrs.out _).mono ?_); rintro en w1 ⟨rfl, hf1⟩)); exact ⟨rfl, by first | exact Fr.refl _ _ | assumption⟩
  · rfl
  apply mix_f 57 rfl (by kernel_rfl) rfl
  · intro w; go_wp2_with (first | ((with_reducible apply l_want); rfl)); exact ⟨rfl, Fr.refl _ _⟩
  · rfl
  apply mix_f 58 rfl (by kernel_rfl) rfl
  · intro w; go_wp2_with (first | ((with_reducible apply l_want); rfl)); exact ⟨rfl, Fr.refl _ _⟩
  · rfl
  apply mix_q 59 rfl (by kernel_rfl) rfl rfl
  · intro w hS; go_wp2_with (first | ((with_reducible apply l_want); rfl) | (go_at_call 37; go_must (refine (works_c _ (hG.keep hS.fr)).mono ?_); rintro en w1 ⟨rfl, hf1⟩)); exact ⟨rfl, by first | exact Fr.refl _ _ | assumption⟩
  · rfl
  apply mix_f 60 rfl (by kernel_rfl) rfl
  · intro w; go_wp2_with (first | ((with_reducible apply l_want); rfl)); exact ⟨rfl, Fr.refl _ _⟩
  · rfl
  apply mix_f 61 rfl (by kernel_rfl) rfl
  · intro w; go_wp2_with (first | ((with_reducible apply l_want); rfl)); exact ⟨rfl, Fr.refl _ _⟩
  · rfl
  refine mixE (by kernel_rfl) ?_
  intro w hf _; replace hS := hS.keep hf; clear hf
  go_wp2_with (first | ((with_reducible apply l_want); rfl) | ((with_reducible apply l_alloc); assumption; rfl; clear hS; intro b w hS) | ((with_reducible apply l_box); assumption; rfl; clear hS; intro b w hS) | ((with_reducible apply l_load); assumption; rfl; (repeat (first | exact Has.head | apply Has.tail)); (first | rfl | (simp [takeV]; done))) | ((with_reducible apply l_build); rfl; (simp [fillL, splice, Value.cells, Act.eval]; rfl)) | ((with_reducible apply l_buildA); rfl; (simp [fillL, splice, Value.cells, Act.eval]; rfl)) | ((with_reducible apply l_bslice); assumption; rfl; rfl; (first | (simp [fillL, splice, zeros, Value.cells, Act.eval]; rfl) | rfl); clear hS; intro b w hS) | ((with_reducible apply l_storeF); assumption; rfl; rfl; (repeat (first | exact Upd.head | apply Upd.tail)); rfl; clear hS; intro w hS) | ((with_reducible apply l_store); assumption; rfl; rfl; (repeat (first | exact Upd.head | apply Upd.tail)); rfl; clear hS; intro w hS; simp only [splice] at hS; try rw [splice_nil] at hS))
  go_ret
  exact ⟨rfl, hS.fr⟩
theorem eresets_n (w0 : World) (hG : GlobT w0) (l : List UInt8) (ea eb : Nat) (x : Ev) (ha : ea < 18446744073709551616) (hb : eb < 18446744073709551616) (h : ¬ 300 < l.length) (hf : fewP x = true) (ht : textP [13, 10] l = false) : Calls Tryz.prog 4 #[txt l, .int .u64 (ea : Int), .int .u64 (eb : Int), x.v] w0 fun en w' => en = .returned (.bool true) ∧ Fr [] w0 w' := by
  have f1 : decide ((300 : Int) < (l.length : Int)) = false := by simp; omega
  have hfl := fewP_len hf
  have hfw := fun W => few_c W x
  rw [hf] at hfw
  have hrc := fun W => rcomment_c W l (by omega)
  have hre := fun W (hW : GlobT W) => reset_c W hW ea eb ha hb
  have hrr := fun W => rreset_c W ea eb ha hb
  have d1 := dec_len ea ha
  have d2 := dec_len eb hb
  have hdl : (resetP ea eb).da.length ≤ 50 := by unfold resetP; simp; omega
  have hr1 := fun W (hW : GlobT W) => resets_c W hW.base (resetP ea eb) (rid_len ea eb) (rty_len ea eb) (by omega)
  rw [resetsP_reset ea eb ha hb] at hr1
  have hr2 := fun W (hW : GlobT W) => resets_c W hW.base x (by omega) (by omega) (by omega)
  have hr3 := fun W => rresets_c W x (by omega)
  have hck := fun W (hW : GlobT W) => check_c W hW.base (resetP ea eb) (rid_len ea eb) (rty_len ea eb) (by omega)
  rw [right_reset ea eb ha hb] at hck
  have hrs := fun W => reserved_c W (resetP ea eb)
  rw [rty ea eb] at hrs
  obtain ⟨m, hm⟩ : ∃ m, m = (resetsP x).1 := ⟨_, rfl⟩
  obtain ⟨n, hn⟩ : ∃ n, n = (resetsP x).2.1 := ⟨_, rfl⟩
  obtain ⟨z, hz⟩ : ∃ z, z = (resetsP x).2.2 := ⟨_, rfl⟩
  unfold resV at hr3
  rw [← hm, ← hn, ← hz] at hr2 hr3
  have hcm := fun W (_ : GlobT W) => comment_n W l (by omega) ht
  rw [if_neg (by rw [ht]; simp)] at hrc
  have Hfw := Lib.hid hfw
  have Hrc := Lib.hid hrc
  have Hre := Lib.hid hre
  have Hrr := Lib.hid hrr
  have Hr1 := Lib.hid hr1
  have Hr2 := Lib.hid hr2
  have Hr3 := Lib.hid hr3
  have Hck := Lib.hid hck
  have Hrs := Lib.hid hrs
  have Hcm := Lib.hid hcm
  clear hfw hrc hre hrr hr1 hr2 hr3 hck hrs hcm d1 d2 hdl hm hn hz h hf ht hfl
  change Calls Tryz.prog 4 #[txt l, .int .u64 (ea : Int), .int .u64 (eb : Int), .agg ⟨[txt x.id, txt x.ty, txt x.da]⟩] w0 _
  go_enter Tryz.func4, Tryz.ntmps4
  have hS := St.start [] w0
  go_wp2_with (first | ((with_reducible apply l_want); rfl) | (go_at_call 36; go_must (refine (Hfw.out _).mono ?_); rintro en w1 ⟨rfl, hf1⟩; replace hS := hS.keep hf1) | (go_at_call 38; go_must (refine (Hcm.out _ (hG.keep hS.fr)).mono ?_); rintro en w1 ⟨rfl, hf1⟩; replace hS := hS.keep hf1) | (go_at_call 39; go_must (refine (Hrc.out _).mono ?_); rintro en w1 ⟨rfl, hf1⟩; replace hS := hS.keep hf1) | (go_at_call 40; go_must (refine (Hre.out _ (hG.keep hS.fr)).mono ?_); rintro en w1 ⟨rfl, hf1⟩; replace hS := hS.keep hf1) | (go_at_call 41; refine (Hr1.out _ (hG.keep hS.fr)).mono ?_; rintro en w1 ⟨rfl, hf1⟩; replace hS := hS.keep hf1) | (go_at_call 41; refine (Hr2.out _ (hG.keep hS.fr)).mono ?_; rintro en w1 ⟨rfl, hf1⟩; replace hS := hS.keep hf1) | (go_at_call 42; go_must (refine (Hr3.out _).mono ?_); rintro en w1 ⟨rfl, hf1⟩; replace hS := hS.keep hf1) | ((with_reducible apply l_alloc); assumption; rfl; clear hS; intro b w hS) | ((with_reducible apply l_box); assumption; rfl; clear hS; intro b w hS) | ((with_reducible apply l_load); assumption; rfl; (repeat (first | exact Has.head | apply Has.tail)); (first | rfl | (simp [takeV]; done))) | ((with_reducible apply l_build); rfl; (simp [fillL, splice, Value.cells, Act.eval]; rfl)) | ((with_reducible apply l_buildA); rfl; (simp [fillL, splice, Value.cells, Act.eval]; rfl)) | ((with_reducible apply l_bslice); assumption; rfl; rfl; (first | (simp [fillL, splice, zeros, Value.cells, Act.eval]; rfl) | rfl); clear hS; intro b w hS) | ((with_reducible apply l_storeF); assumption; rfl; rfl; (repeat (first | exact Upd.head | apply Upd.tail)); rfl; clear hS; intro w hS) | ((with_reducible apply l_store); assumption; rfl; rfl; (repeat (first | exact Upd.head | apply Upd.tail)); rfl; clear hS; intro w hS; simp only [splice] at hS; try rw [splice_nil] at hS))
  refine mix_start mixed (by kernel_rfl) _ (Stable.st _ _ _) hS.drew ?_
  replace hS := hS.drew
  apply mix_f 0 rfl (by kernel_rfl) rfl
  · intro w; go_wp2_with (first | ((with_reducible apply l_want); rfl)); exact ⟨rfl, Fr.refl _ _⟩
  · rfl
  apply mix_q 1 rfl (by kernel_rfl) rfl rfl
  · intro w hS; go_wp2_with (first | ((with_reducible apply l_want); rfl) | ((with_reducible apply l_b2s (l := [])); rfl; exact nil_rd _)); exact ⟨rfl, by first | exact Fr.refl _ _ | assumption⟩
  · rfl
  apply mix_f 2 rfl (by kernel_rfl) rfl
  · intro w; go_wp2_with (first | ((with_reducible apply l_want); rfl)); exact ⟨rfl, Fr.refl _ _⟩
  · rfl
  apply mix_q 3 rfl (by kernel_rfl) rfl rfl
  · intro w hS; go_wp2_with (first | ((with_reducible apply l_want); rfl) | ((with_reducible apply l_eqEv (f := resetP ea eb) (g := resetP ea eb) (r := true)); rfl; rfl; exact decide_eq_true rfl)); exact ⟨rfl, by first | exact Fr.refl _ _ | assumption⟩
  · rfl
  apply mix_f 4 rfl (by kernel_rfl) rfl
  · intro w; go_wp2_with (first | ((with_reducible apply l_want); rfl)); exact ⟨rfl, Fr.refl _ _⟩
  · rfl
  apply mix_f 5 rfl (by kernel_rfl) rfl
  · intro w; go_wp2_with (first | ((with_reducible apply l_want); rfl)); exact ⟨rfl, Fr.refl _ _⟩
  · rfl
  apply mix_q 6 rfl (by kernel_rfl) rfl rfl
  · intro w hS; go_wp2_with (first | ((with_reducible apply l_want); rfl) | (go_at_call 43; go_must (refine (num_c _ _).mono ?_); rintro en w1 ⟨rfl, rfl⟩)); exact ⟨rfl, by first | exact Fr.refl _ _ | assumption⟩
  · rfl
  apply mix_f 7 rfl (by kernel_rfl) rfl
  · intro w; go_wp2_with (first | ((with_reducible apply l_want); rfl)); exact ⟨rfl, Fr.refl _ _⟩
  · rfl
  apply mix_q 8 rfl (by kernel_rfl) rfl rfl
  · intro w hS; go_wp2_with (first | ((with_reducible apply l_want); rfl) | ((with_reducible apply l_eqEv (f := resetP ea eb) (g := resetP ea eb) (r := true)); rfl; rfl; exact decide_eq_true rfl)); exact ⟨rfl, by first | exact Fr.refl _ _ | assumption⟩
  · rfl
  apply mix_f 9 rfl (by kernel_rfl) rfl
  · intro w; go_wp2_with (first | ((with_reducible apply l_want); rfl)); exact ⟨rfl, Fr.refl _ _⟩
  · rfl
  apply mix_f 10 rfl (by kernel_rfl) rfl
  · intro w; go_wp2_with (first | ((with_reducible apply l_want); rfl)); exact ⟨rfl, Fr.refl _ _⟩
  · rfl
  apply mix_q 11 rfl (by kernel_rfl) rfl rfl
  · intro w hS; go_wp2_with (first | ((with_reducible apply l_want); rfl) | ((with_reducible apply l_load); assumption; rfl; (repeat (first | exact Has.head | apply Has.tail)); (first | rfl | (simp [takeV]; done)))); exact ⟨rfl, by first | exact Fr.refl _ _ | assumption⟩
  · rfl
  apply mix_f 12 rfl (by kernel_rfl) rfl
  · intro w; go_wp2_with (first | ((with_reducible apply l_want); rfl)); exact ⟨rfl, Fr.refl _ _⟩
  · rfl
  apply mix_f 13 rfl (by kernel_rfl) rfl
  · intro w; go_wp2_with (first | ((with_reducible apply l_want); rfl)); exact ⟨rfl, Fr.refl _ _⟩
  · rfl
  apply mix_q 14 rfl (by kernel_rfl) rfl rfl
  · intro w hS; go_wp2_with (first | ((with_reducible apply l_want); rfl) | (go_at_call 44; go_must (refine (Hrr.out _).mono ?_); rintro en w1 ⟨rfl, hf1⟩)); exact ⟨rfl, by first | exact Fr.refl _ _ | assumption⟩
  · rfl
  apply mix_q 15 rfl (by kernel_rfl) rfl rfl
  · intro w hS; go_wp2_with (first | ((with_reducible apply l_want); rfl) | ((with_reducible apply l_eqEv (f := resetP ea eb) (g := resetP ea eb) (r := true)); rfl; rfl; exact decide_eq_true rfl)); exact ⟨rfl, by first | exact Fr.refl _ _ | assumption⟩
  · rfl
  apply mix_f 16 rfl (by kernel_rfl) rfl
  · intro w; go_wp2_with (first | ((with_reducible apply l_want); rfl)); exact ⟨rfl, Fr.refl _ _⟩
  · rfl
  apply mix_f 17 rfl (by kernel_rfl) rfl
  · intro w; go_wp2_with (first | ((with_reducible apply l_want); rfl)); exact ⟨rfl, Fr.refl _ _⟩
  · rfl
  apply mix_f 18 rfl (by kernel_rfl) rfl
  · intro w; go_wp2_with (first | ((with_reducible apply l_want); rfl)); exact ⟨rfl, Fr.refl _ _⟩
  · rfl
  apply mix_f 19 rfl (by kernel_rfl) rfl
  · intro w; go_wp2_with (first | ((with_reducible apply l_want); rfl)); exact ⟨rfl, Fr.refl _ _⟩
  · rfl
  apply mix_q 20 rfl (by kernel_rfl) rfl rfl
  · intro w hS; go_wp2_with (first | ((with_reducible apply l_want); rfl) | ((with_reducible apply l_eqEv (f := resetP ea eb) (g := resetP ea eb) (r := true)); rfl; rfl; exact decide_eq_true rfl)); exact ⟨rfl, by first | exact Fr.refl _ _ | assumption⟩
  · rfl
  apply mix_f 21 rfl (by kernel_rfl) rfl
  · intro w; go_wp2_with (first | ((with_reducible apply l_want); rfl)); exact ⟨rfl, Fr.refl _ _⟩
  · rfl
  apply mix_f 22 rfl (by kernel_rfl) rfl
  · intro w; go_wp2_with (first | ((with_reducible apply l_want); rfl)); exact ⟨rfl, Fr.refl _ _⟩
  · rfl
  apply mix_f 23 rfl (by kernel_rfl) rfl
  · intro w; go_wp2_with (first | ((with_reducible apply l_want); rfl)); exact ⟨rfl, Fr.refl _ _⟩
  · rfl
  apply mix_f 24 rfl (by kernel_rfl) rfl
  · intro w; go_wp2_with (first | ((with_reducible apply l_want); rfl)); exact ⟨rfl, Fr.refl _ _⟩
  · rfl
  apply mix_q 25 rfl (by kernel_rfl) rfl rfl
  · intro w hS; go_wp2_with (first | ((with_reducible apply l_want); rfl) | ((with_reducible apply l_eqEv (f := resetP ea eb) (g := resetP ea eb) (r := true)); rfl; rfl; exact decide_eq_true rfl)); exact ⟨rfl, by first | exact Fr.refl _ _ | assumption⟩
  · rfl
  apply mix_f 26 rfl (by kernel_rfl) rfl
  · intro w; go_wp2_with (first | ((with_reducible apply l_want); rfl)); exact ⟨rfl, Fr.refl _ _⟩
  · rfl
  apply mix_f 27 rfl (by kernel_rfl) rfl
  · intro w; go_wp2_with (first | ((with_reducible apply l_want); rfl)); exact ⟨rfl, Fr.refl _ _⟩
  · rfl
  apply mix_f 28 rfl (by kernel_rfl) rfl
  · intro w; go_wp2_with (first | ((with_reducible apply l_want); rfl)); exact ⟨rfl, Fr.refl _ _⟩
  · rfl
  apply mix_q 29 rfl (by kernel_rfl) rfl rfl
  · intro w hS; go_wp2_with (first | ((with_reducible apply l_want); rfl) | (go_at_call 43; go_must (refine (num_c _ _).mono ?_); rintro en w1 ⟨rfl, rfl⟩)); exact ⟨rfl, by first | exact Fr.refl _ _ | assumption⟩
  · rfl
  apply mix_q 30 rfl (by kernel_rfl) rfl rfl
  · intro w hS; go_wp2_with (first | ((with_reducible apply l_want); rfl) | ((with_reducible apply l_eqEv (f := resetP ea eb) (g := resetP ea eb) (r := true)); rfl; rfl; exact decide_eq_true rfl)); exact ⟨rfl, by first | exact Fr.refl _ _ | assumption⟩
  · rfl
  apply mix_f 31 rfl (by kernel_rfl) rfl
  · intro w; go_wp2_with (first | ((with_reducible apply l_want); rfl)); exact ⟨rfl, Fr.refl _ _⟩
  · rfl
  apply mix_f 32 rfl (by kernel_rfl) rfl
  · intro w; go_wp2_with (first | ((with_reducible apply l_want); rfl)); exact ⟨rfl, Fr.refl _ _⟩
  · rfl
  apply mix_f 33 rfl (by kernel_rfl) rfl
  · intro w; go_wp2_with (first | ((with_reducible apply l_want); rfl)); exact ⟨rfl, Fr.refl _ _⟩
  · rfl
  apply mix_f 34 rfl (by kernel_rfl) rfl
  · intro w; go_wp2_with (first | ((with_reducible apply l_want); rfl)); exact ⟨rfl, Fr.refl _ _⟩
  · rfl
  apply mix_q 35 rfl (by kernel_rfl) rfl rfl
  · intro w hS; go_wp2_with (first | ((with_reducible apply l_want); rfl) | ((with_reducible apply l_eqEv (f := resetP ea eb) (g := resetP ea eb) (r := true)); rfl; rfl; exact decide_eq_true rfl)); exact ⟨rfl, by first | exact Fr.refl _ _ | assumption⟩
  · rfl
  apply mix_f 36 rfl (by kernel_rfl) rfl
  · intro w; go_wp2_with (first | ((with_reducible apply l_want); rfl)); exact ⟨rfl, Fr.refl _ _⟩
  · rfl
  apply mix_f 37 rfl (by kernel_rfl) rfl
  · intro w; go_wp2_with (first | ((with_reducible apply l_want); rfl)); exact ⟨rfl, Fr.refl _ _⟩
  · rfl
  apply mix_f 38 rfl (by kernel_rfl) rfl
  · intro w; go_wp2_with (first | ((with_reducible apply l_want); rfl)); exact ⟨rfl, Fr.refl _ _⟩
  · rfl
  apply mix_f 39 rfl (by kernel_rfl) rfl
  · intro w; go_wp2_with (first | ((with_reducible apply l_want); rfl)); exact ⟨rfl, Fr.refl _ _⟩
  · rfl
  apply mix_q 40 rfl (by kernel_rfl) rfl rfl
  · intro w hS; go_wp2_with (first | ((with_reducible apply l_want); rfl) | ((with_reducible apply l_eqEv (f := resetP ea eb) (g := resetP ea eb) (r := true)); rfl; rfl; exact decide_eq_true rfl)); exact ⟨rfl, by first | exact Fr.refl _ _ | assumption⟩
  · rfl
  apply mix_f 41 rfl (by kernel_rfl) rfl
  · intro w; go_wp2_with (first | ((with_reducible apply l_want); rfl)); exact ⟨rfl, Fr.refl _ _⟩
  · rfl
  apply mix_f 42 rfl (by kernel_rfl) rfl
  · intro w; go_wp2_with (first | ((with_reducible apply l_want); rfl)); exact ⟨rfl, Fr.refl _ _⟩
  · rfl
  apply mix_f 43 rfl (by kernel_rfl) rfl
  · intro w; go_wp2_with (first | ((with_reducible apply l_want); rfl)); exact ⟨rfl, Fr.refl _ _⟩
  · rfl
  apply mix_q 44 rfl (by kernel_rfl) rfl rfl
  · intro w hS; go_wp2_with (first | ((with_reducible apply l_want); rfl) | (go_at_call 43; go_must (refine (num_c _ _).mono ?_); rintro en w1 ⟨rfl, rfl⟩)); exact ⟨rfl, by first | exact Fr.refl _ _ | assumption⟩
  · rfl
  apply mix_f 45 rfl (by kernel_rfl) rfl
  · intro w; go_wp2_with (first | ((with_reducible apply l_want); rfl)); exact ⟨rfl, Fr.refl _ _⟩
  · rfl
  apply mix_q 46 rfl (by kernel_rfl) rfl rfl
  · intro w hS; go_wp2_with (first | ((with_reducible apply l_want); rfl) | ((with_reducible apply l_eqEv (f := resetP ea eb) (g := resetP ea eb) (r := true)); rfl; rfl; exact decide_eq_true rfl)); exact ⟨rfl, by first | exact Fr.refl _ _ | assumption⟩
  · rfl
  apply mix_f 47 rfl (by kernel_rfl) rfl
  · intro w; go_wp2_with (first | ((with_reducible apply l_want); rfl)); exact ⟨rfl, Fr.refl _ _⟩
  · rfl
  apply mix_f 48 rfl (by kernel_rfl) rfl
  · intro w; go_wp2_with (first | ((with_reducible apply l_want); rfl)); exact ⟨rfl, Fr.refl _ _⟩
  · rfl
  apply mix_q 49 rfl (by kernel_rfl) rfl rfl
  · intro w hS; go_wp2_with (first | ((with_reducible apply l_want); rfl) | ((with_reducible apply l_load); assumption; rfl; (repeat (first | exact Has.head | apply Has.tail)); (first | rfl | (simp [takeV]; done)))); exact ⟨rfl, by first | exact Fr.refl _ _ | assumption⟩
  · rfl
  apply mix_q 50 rfl (by kernel_rfl) rfl rfl
  · intro w hS; go_wp2_with (first | ((with_reducible apply l_want); rfl) | (go_at_call 45; go_must (refine (Hck.out _ (hG.keep hS.fr)).mono ?_); rintro en w1 ⟨rfl, hf1⟩)); exact ⟨rfl, by first | exact Fr.refl _ _ | assumption⟩
  · rfl
  apply mix_q 51 rfl (by kernel_rfl) rfl rfl
  · intro w hS; go_wp2_with (first | ((with_reducible apply l_want); rfl) | (go_at_call 43; go_must (refine (num_c _ _).mono ?_); rintro en w1 ⟨rfl, rfl⟩)); exact ⟨rfl, by first | exact Fr.refl _ _ | assumption⟩
  · rfl
  apply mix_q 52 rfl (by kernel_rfl) rfl rfl
  · intro w hS; go_wp2_with (first | ((with_reducible apply l_want); rfl) | ((with_reducible apply l_eqEv (f := resetP ea eb) (g := resetP ea eb) (r := true)); rfl; rfl; exact decide_eq_true rfl)); exact ⟨rfl, by first | exact Fr.refl _ _ | assumption⟩
  · rfl
  apply mix_f 53 rfl (by kernel_rfl) rfl
  · intro w; go_wp2_with (first | ((with_reducible apply l_want); rfl)); exact ⟨rfl, Fr.refl _ _⟩
  · rfl
  apply mix_f 54 rfl (by kernel_rfl) rfl
  · intro w; go_wp2_with (first | ((with_reducible apply l_want); rfl)); exact ⟨rfl, Fr.refl _ _⟩
  · rfl
  apply mix_q 55 rfl (by kernel_rfl) rfl rfl
  · intro w hS; go_wp2_with (first | ((with_reducible apply l_want); rfl) | ((with_reducible apply l_load); assumption; rfl; (repeat (first | exact Has.head | apply Has.tail)); (first | rfl | (simp [takeV]; done)))); exact ⟨rfl, by first | exact Fr.refl _ _ | assumption⟩
  · rfl
  apply mix_q 56 rfl (by kernel_rfl) rfl rfl
  · intro w hS; go_wp2_with (first | ((with_reducible apply l_want); rfl) | (go_at_call 46; go_must (refine (Hrs.out _).mono ?_); rintro en w1 ⟨rfl, hf1⟩)); exact ⟨rfl, by first | exact Fr.refl _ _ | assumption⟩
  · rfl
  apply mix_f 57 rfl (by kernel_rfl) rfl
  · intro w; go_wp2_with (first | ((with_reducible apply l_want); rfl)); exact ⟨rfl, Fr.refl _ _⟩
  · rfl
  apply mix_f 58 rfl (by kernel_rfl) rfl
  · intro w; go_wp2_with (first | ((with_reducible apply l_want); rfl)); exact ⟨rfl, Fr.refl _ _⟩
  · rfl
  apply mix_q 59 rfl (by kernel_rfl) rfl rfl
  · intro w hS; go_wp2_with (first | ((with_reducible apply l_want); rfl) | (go_at_call 37; go_must (refine (works_c _ (hG.keep hS.fr)).mono ?_); rintro en w1 ⟨rfl, hf1⟩)); exact ⟨rfl, by first | exact Fr.refl _ _ | assumption⟩
  · rfl
  apply mix_f 60 rfl (by kernel_rfl) rfl
  · intro w; go_wp2_with (first | ((with_reducible apply l_want); rfl)); exact ⟨rfl, Fr.refl _ _⟩
  · rfl
  apply mix_f 61 rfl (by kernel_rfl) rfl
  · intro w; go_wp2_with (first | ((with_reducible apply l_want); rfl)); exact ⟨rfl, Fr.refl _ _⟩
  · rfl
  refine mixE (by kernel_rfl) ?_
  intro w hf _; replace hS := hS.keep hf; clear hf
  go_wp2_with (first | ((with_reducible apply l_want); rfl) | ((with_reducible apply l_alloc); assumption; rfl; clear hS; intro b w hS) | ((with_reducible apply l_box); assumption; rfl; clear hS; intro b w hS) | ((with_reducible apply l_load); assumption; rfl; (repeat (first | exact Has.head | apply Has.tail)); (first | rfl | (simp [takeV]; done))) | ((with_reducible apply l_build); rfl; (simp [fillL, splice, Value.cells, Act.eval]; rfl)) | ((with_reducible apply l_buildA); rfl; (simp [fillL, splice, Value.cells, Act.eval]; rfl)) | ((with_reducible apply l_bslice); assumption; rfl; rfl; (first | (simp [fillL, splice, zeros, Value.cells, Act.eval]; rfl) | rfl); clear hS; intro b w hS) | ((with_reducible apply l_storeF); assumption; rfl; rfl; (repeat (first | exact Upd.head | apply Upd.tail)); rfl; clear hS; intro w hS) | ((with_reducible apply l_store); assumption; rfl; rfl; (repeat (first | exact Upd.head | apply Upd.tail)); rfl; clear hS; intro w hS; simp only [splice] at hS; try rw [splice_nil] at hS))
  go_ret
  exact ⟨rfl, hS.fr⟩
/-- EventResets tells true. -/
theorem eresets_c (w0 : World) (hG : GlobT w0) (l : List UInt8) (ea eb : Nat) (x : Ev) (ha : ea < 18446744073709551616) (hb : eb < 18446744073709551616) : Calls Tryz.prog 4 #[txt l, .int .u64 (ea : Int), .int .u64 (eb : Int), x.v] w0 fun en w' => en = .returned (.bool true) ∧ Fr [] w0 w' := by
  by_cases h : 300 < l.length
  · exact eresets_a w0 hG l ea eb x h
  · cases hf : fewP x with
    | false => exact eresets_b w0 hG l ea eb x h hf
    | true =>
      cases ht : textP [13, 10] l with
      | true => exact eresets_y w0 hG l ea eb x ha hb h hf ht
      | false => exact eresets_n w0 hG l ea eb x ha hb h hf ht
end Go.Proofs.YtaejmginhkbbhaaGreatDoor
