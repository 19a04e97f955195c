/- Law EventBounds: the closed facts of its row, the row, the tied card. Conditions: as the row says. -/
import Derived.Test.YtaejmginhkbbhaaGreatDoorFP
import Derived.Test.YtaejmginhkbbhaaGreatDoorZ1
set_option linter.unusedSimpArgs false
set_option linter.unusedVariables false
set_option maxRecDepth 100000
set_option maxHeartbeats 1000000
namespace Go.Proofs.YtaejmginhkbbhaaGreatDoor
open Go Go.RowKit
open Go.ChangeShapes Go.WideShapes Go.ChangeAt Go.RowKit
set_option maxHeartbeats 8000000
theorem eventBounds_k0 : (Rows.eventBoundsRow.wf (OpenSpec.ofChange Rows.eventBoundsSpec)) = true := by kernel_rfl
theorem eventBounds_k3 : (Tryz.f5.params.all (Tryz.prog.readableRec ·)) = true := by kernel_rfl
theorem eventBounds_k4 : (namedTie Tryz.prog Rows.eventBoundsRow.named Rows.eventBoundsSpec.vars) = true := by kernel_rfl
theorem eventBounds_k5 : (Rows.eventBoundsRow.stops == []) = true := by kernel_rfl
theorem eventBounds_k7 : (Rows.eventBoundsRow.knobs == []) = true := by kernel_rfl
theorem eventBounds_k9 : (Rows.eventBoundsRow.inPlace == Tryz.prog.inPlace 5) = true := by kernel_rfl
theorem eventBounds_k10 : (Rows.eventBoundsRow.unfollowed == Tryz.prog.unfollowed 5) = true := by kernel_rfl
theorem eventBounds_k11 : (Rows.eventBoundsRow.recurses == Tryz.prog.recurses 5) = true := by kernel_rfl
theorem eventBounds_k12 : (Rows.eventBoundsRow.named == Tryz.prog.varsNamed 5) = true := by kernel_rfl
theorem eventBounds_k13 : (Rows.eventBoundsRow.maps == (Tryz.f5.params.toList ++ Rows.eventBoundsSpec.plain.varTypes Tryz.prog).any (Tryz.prog.mapsRec ·)) = true := by kernel_rfl
theorem eventBounds_k14 : (Rows.eventBoundsRow.ifaces == (Tryz.f5.params.toList ++ Rows.eventBoundsSpec.plain.varTypes Tryz.prog).any (Tryz.prog.ifacesRec ·)) = true := by kernel_rfl
theorem eventBounds_k15 : (Rows.eventBoundsRow.mapsOut == Tryz.prog.mapsAmong Tryz.f5.resultTypes.toList) = true := by kernel_rfl
theorem eventBounds_k16 : (Rows.eventBoundsRow.loops == (Tryz.f5.params.toList ++ Rows.eventBoundsSpec.plain.varTypes Tryz.prog).any (Tryz.prog.loopsFrom ·)) = true := by kernel_rfl
theorem eventBounds_k17 : (Rows.eventBoundsRow.wideKeys == (Tryz.f5.params.toList ++ Rows.eventBoundsSpec.plain.varTypes Tryz.prog ++ Tryz.f5.resultTypes.toList).any (Tryz.prog.wideKeysFrom ·)) = true := by kernel_rfl
theorem eventBounds_k18 : (Rows.eventBoundsSpec.vars.all (Tryz.prog.varReadable ·)) = true := by kernel_rfl
theorem eventBounds_k19 : (Tryz.f5.resultTypes.all (fun t => Tryz.prog.readableRec t && decide (t < Tryz.prog.types.size))) = true := by kernel_rfl
theorem eventBounds_k20 : (Rows.eventBoundsRow.ifacesOut == Tryz.f5.resultTypes.toList.any (Tryz.prog.ifacesRec ·)) = true := by kernel_rfl
theorem eventBounds_k21 : (Rows.eventBoundsRow.loopsOut == Tryz.f5.resultTypes.toList.any (Tryz.prog.loopsFrom ·)) = true := by kernel_rfl
theorem eventBounds_k22 : (Rows.eventBoundsRow.plainKeys == Tryz.prog.plainKeys) = true := by kernel_rfl
theorem eventBounds_k23 : (Rows.eventBoundsRow.shortTexts.isNone) = true := by kernel_rfl
theorem eventBounds_k26 : (Rows.eventBoundsRow.lifted == Tryz.prog.liftsFinal) = true := by kernel_rfl
theorem eventBounds_k27 : (Tryz.prog.make == some Rows.eventBoundsRow.make) = true := by kernel_rfl
theorem eventBounds_k28 : (Rows.eventBoundsRow.kinds == (if Rows.eventBoundsRow.domain.isEmpty then [] else Tryz.f5.params.toList.map fun t => match Tryz.prog.underlying t with | some (.int k) => some k | _ => none)) = true := by kernel_rfl
theorem eventBounds_k29 : (Rows.eventBoundsRow.pinned == Rows.eventBoundsRow.pinnedBy) = true := by kernel_rfl
theorem eventBounds_k30 : (Rows.eventBoundsRow.veiled == (Tryz.f5.params.toList ++ Rows.eventBoundsSpec.plain.varTypes Tryz.prog ++ Tryz.f5.resultTypes.toList).any (Tryz.prog.veiledRec ·)) = true := by kernel_rfl
theorem eventBounds_k31 : (Rows.eventBoundsRow.veiledFits Tryz.prog Tryz.f5.params.toList (Tryz.f5.params.toList ++ Rows.eventBoundsSpec.plain.varTypes Tryz.prog ++ Tryz.f5.resultTypes.toList)) = true := by kernel_rfl
theorem eventBounds_closed : joinedFacts Tryz.pinned.checked.prog 5 Tryz.f5 Rows.eventBoundsSpec Rows.eventBoundsRow = true := (and_t (and_t (and_t (and_t (and_t (and_t (and_t (and_t (and_t (and_t (and_t (and_t (and_t (and_t (and_t (and_t (and_t (and_t (and_t (and_t (and_t (and_t (and_t (and_t (and_t (and_t (and_t (and_t (and_t (and_t (and_t eventBounds_k0 prog_k1) prog_k2) eventBounds_k3) eventBounds_k4) eventBounds_k5) prog_k6) eventBounds_k7) prog_k8) eventBounds_k9) eventBounds_k10) eventBounds_k11) eventBounds_k12) eventBounds_k13) eventBounds_k14) eventBounds_k15) eventBounds_k16) eventBounds_k17) eventBounds_k18) eventBounds_k19) eventBounds_k20) eventBounds_k21) eventBounds_k22) eventBounds_k23) prog_k24) prog_k25) eventBounds_k26) eventBounds_k27) eventBounds_k28) eventBounds_k29) eventBounds_k30) eventBounds_k31)
theorem eventBounds_named : Tryz.pinned.checked.prog.funcNamed Rows.eventBoundsRow.func = some 5 := by kernel_rfl
theorem eventBounds_inst : Tryz.f5.isInstance Tryz.pinned.checked.prog Rows.eventBoundsRow.origin Rows.eventBoundsRow.targs := of_decide_eq_true (by kernel_rfl)
theorem eventBounds_wrap : Tryz.f5.isWrapper Tryz.pinned.checked.prog Rows.eventBoundsRow.wrapper Rows.eventBoundsRow.mainSum := by unfold Func.isWrapper; first | (rw [if_pos (by decide +kernel)]; kernel_rfl) | (rw [if_neg (by decide +kernel)]; exact ⟨rfl, rfl⟩)
theorem eventBounds_text : Rows.eventBoundsRow.wfByText (OpenSpec.ofChange Rows.eventBoundsSpec) = true := by kernel_rfl
theorem eventBounds_goes : false = Rows.eventBoundsRow.goesBy Tryz.pinned.checked.prog := by kernel_rfl
theorem eventBounds_stand : ([3, 3].all fun u => !Tryz.prog.wantsStandIn u) = true := by kernel_rfl
theorem eventBounds_noinit : Tryz.checked.prog.inits.idxOf? 5 = none := by kernel_rfl
set_option maxRecDepth 100000 in
theorem eventBounds_lifted (os : Os) (started : os.Started) (H : Type) (enc : TypeId × Value → H) :
    ReturnsInHanded {} Tryz.checked os 5 .any (fun w args => (Rows.eventBoundsSpec.pre enc Tryz.prog Tryz.f5 Rows.eventBoundsRow.domain false w args ∧ laidMetH Tryz.prog laid5 w) ∧ sizedMet enc Tryz.prog Tryz.f5 (OpenSpec.ofChange Rows.eventBoundsSpec) false w args)
      (Rows.eventBoundsSpec.post enc Tryz.prog Tryz.f5 false true false false) := by
  refine returns_shaped (C := Tryz.checked) (X := fun w _ => laidMetH Tryz.prog laid5 w) (fun _ _ _ hh h => h.of_heap hh) ownK started eventBounds_noinit Tryz.func5
    (ChangeSpec.witness_shaped (enc := enc) (C := Tryz.checked) (os := os) (X := fun w _ => laidMetH Tryz.prog laid5 w) false (World.laidAll Tryz.prog os laid5) #[.int .i64 0, .int .i64 0] 8 (World.laidAll_os _ _ _)
      (shaped5 os) (by kernel_rfl) (by kernel_rfl) (by kernel_rfl) (met5 os _ _)) ?_
  intro W base args ds gs before hsh hval0 hW hwt hL
  have hval : ∀ (j : Nat) t v, Tryz.f5.params[j]? = some t → args[j]? = some v → Value.okWide Tryz.prog W .any base t v := hval0
  have hG := globT_of hsh hL
  have hW' := hW
  obtain ⟨p, q, hA0, hV, rfl, hfz, hnd⟩ := hW
  have hA : DataW.TrodAll enc Tryz.prog W 0 (fun _ => true) true Tryz.f5.params.toList args.toList ds p := hA0
  rw [Tryz.params5] at hA hval
  obtain ⟨v0, vs0, d0, ds0, p0, q0, hargs, rfl, rfl, h0, r0⟩ := trodAll_cons hA
  obtain ⟨v1, vs1, d1, ds1, p1, q1, rfl, rfl, rfl, h1, r1⟩ := trodAll_cons r0
  obtain ⟨rfl, rfl, rfl⟩ := trodAll_nil r1
  obtain rfl : args = #[v0, v1] := by cases args; simp_all
  obtain ⟨rfl, rfl⟩ := trodVars_none hV
  obtain ⟨a0, rfl, rfl, rfl, w0⟩ := open_int Tryz.underlying3 (hval 0 3 v0 rfl rfl) h0
  obtain ⟨a1, rfl, rfl, rfl, w1⟩ := open_int Tryz.underlying3 (hval 1 3 v1 rfl rfl) h1
  clear hA0 hval0
  simp only [List.append_nil] at hW'
  refine (bounds_c W hG a0 a1).mono fun e W' ⟨he, hf⟩ => ?_
  subst he
  have hg := hf.below
  exact ⟨_, rfl, _, _, _, [], [], [], hW', (trodAll_cons_mk (shut_bool Tryz.underlying4 _) trodAll_mk0), (trodAll_cons_mk (shut_int Tryz.underlying3 w0) (trodAll_cons_mk (shut_int Tryz.underlying3 w1) trodAll_mk0)), rfl, hg.frame _, fun h => by cases h⟩
theorem eventBounds_row : Rows.EventBoundsSaid :=
  OpenClaim.holds_of_wide 5 Tryz.f5 rfl rfl rfl rfl rfl rfl rfl ⟨rfl, rfl, rfl, rfl, rfl⟩ rfl rfl rfl rfl rfl eventBounds_named Tryz.func5 eventBounds_closed eventBounds_inst eventBounds_wrap
    (fun os started H enc _ => eventBounds_lifted os started H enc)
theorem eventBounds_card : Rows.EventBoundsCardSaid :=
  Claim7.holds_tied_plain_at .later [] [.data, .data, .data, .data, .pinned] true (true, "ad3379244174df8ea36b8eb533d690d9d6e7f98121d363a87c0c9350fc7a453b") true eventBounds_row (fun _ h => by cases h) eventBounds_text (fun _ h => by cases h) eventBounds_row_tie rfl ⟨rfl, rfl⟩ prog_main rfl
    (fun f fn hf hfn => by
      obtain rfl : f = 5 := Option.some.inj (eventBounds_named.symm.trans hf) |>.symm
      obtain rfl : fn = Tryz.f5 := (Option.some.inj (Tryz.func5.symm.trans hfn)).symm
      exact ⟨prog_looks, fun j t ht => by
        rw [Tryz.params5] at ht
        have hm : t ∈ [3, 3] := by simpa using Array.mem_of_getElem? ht
        exact (show Tryz.prog.wantsStandIn t = false by simpa using List.all_eq_true.1 eventBounds_stand t hm)⟩)
    eventBounds_goes
#print axioms eventBounds_card
end Go.Proofs.YtaejmginhkbbhaaGreatDoor
