/- Law EventEncodes: the closed facts of its row, the row, the tied card. Conditions: as the row says. -/
import Derived.Test.YtaejmginhkbbhaaGreatDoorFP
import Derived.Test.YtaejmginhkbbhaaGreatDoorF3
import Derived.Test.YtaejmginhkbbhaaGreatDoorE1
set_option linter.unusedSimpArgs false
set_option linter.unusedVariables false
set_option maxRecDepth 100000
set_option maxHeartbeats 1000000
namespace Go.Proofs.YtaejmginhkbbhaaGreatDoor
open Go Go.RowKit
open Go.ChangeShapes Go.WideShapes Go.ChangeAt Go.RowKit
set_option maxHeartbeats 8000000
theorem eventEncodes_k0 : (Rows.eventEncodesRow.wf (OpenSpec.ofChange Rows.eventEncodesSpec)) = true := by kernel_rfl
theorem eventEncodes_k3 : (Tryz.f6.params.all (Tryz.prog.readableRec ·)) = true := by kernel_rfl
theorem eventEncodes_k4 : (namedTie Tryz.prog Rows.eventEncodesRow.named Rows.eventEncodesSpec.vars) = true := by kernel_rfl
theorem eventEncodes_k5 : (Rows.eventEncodesRow.stops == []) = true := by kernel_rfl
theorem eventEncodes_k7 : (Rows.eventEncodesRow.knobs == []) = true := by kernel_rfl
theorem eventEncodes_k9 : (Rows.eventEncodesRow.inPlace == Tryz.prog.inPlace 6) = true := by kernel_rfl
theorem eventEncodes_k10 : (Rows.eventEncodesRow.unfollowed == Tryz.prog.unfollowed 6) = true := by kernel_rfl
theorem eventEncodes_k11 : (Rows.eventEncodesRow.recurses == Tryz.prog.recurses 6) = true := by kernel_rfl
theorem eventEncodes_k12 : (Rows.eventEncodesRow.named == Tryz.prog.varsNamed 6) = true := by kernel_rfl
theorem eventEncodes_k13 : (Rows.eventEncodesRow.maps == (Tryz.f6.params.toList ++ Rows.eventEncodesSpec.plain.varTypes Tryz.prog).any (Tryz.prog.mapsRec ·)) = true := by kernel_rfl
theorem eventEncodes_k14 : (Rows.eventEncodesRow.ifaces == (Tryz.f6.params.toList ++ Rows.eventEncodesSpec.plain.varTypes Tryz.prog).any (Tryz.prog.ifacesRec ·)) = true := by kernel_rfl
theorem eventEncodes_k15 : (Rows.eventEncodesRow.mapsOut == Tryz.prog.mapsAmong Tryz.f6.resultTypes.toList) = true := by kernel_rfl
theorem eventEncodes_k16 : (Rows.eventEncodesRow.loops == (Tryz.f6.params.toList ++ Rows.eventEncodesSpec.plain.varTypes Tryz.prog).any (Tryz.prog.loopsFrom ·)) = true := by kernel_rfl
theorem eventEncodes_k17 : (Rows.eventEncodesRow.wideKeys == (Tryz.f6.params.toList ++ Rows.eventEncodesSpec.plain.varTypes Tryz.prog ++ Tryz.f6.resultTypes.toList).any (Tryz.prog.wideKeysFrom ·)) = true := by kernel_rfl
theorem eventEncodes_k18 : (Rows.eventEncodesSpec.vars.all (Tryz.prog.varReadable ·)) = true := by kernel_rfl
theorem eventEncodes_k19 : (Tryz.f6.resultTypes.all (fun t => Tryz.prog.readableRec t && decide (t < Tryz.prog.types.size))) = true := by kernel_rfl
theorem eventEncodes_k20 : (Rows.eventEncodesRow.ifacesOut == Tryz.f6.resultTypes.toList.any (Tryz.prog.ifacesRec ·)) = true := by kernel_rfl
theorem eventEncodes_k21 : (Rows.eventEncodesRow.loopsOut == Tryz.f6.resultTypes.toList.any (Tryz.prog.loopsFrom ·)) = true := by kernel_rfl
theorem eventEncodes_k22 : (Rows.eventEncodesRow.plainKeys == Tryz.prog.plainKeys) = true := by kernel_rfl
theorem eventEncodes_k23 : (Rows.eventEncodesRow.shortTexts.isNone) = true := by kernel_rfl
theorem eventEncodes_k26 : (Rows.eventEncodesRow.lifted == Tryz.prog.liftsFinal) = true := by kernel_rfl
theorem eventEncodes_k27 : (Tryz.prog.make == some Rows.eventEncodesRow.make) = true := by kernel_rfl
theorem eventEncodes_k28 : (Rows.eventEncodesRow.kinds == (if Rows.eventEncodesRow.domain.isEmpty then [] else Tryz.f6.params.toList.map fun t => match Tryz.prog.underlying t with | some (.int k) => some k | _ => none)) = true := by kernel_rfl
theorem eventEncodes_k29 : (Rows.eventEncodesRow.pinned == Rows.eventEncodesRow.pinnedBy) = true := by kernel_rfl
theorem eventEncodes_k30 : (Rows.eventEncodesRow.veiled == (Tryz.f6.params.toList ++ Rows.eventEncodesSpec.plain.varTypes Tryz.prog ++ Tryz.f6.resultTypes.toList).any (Tryz.prog.veiledRec ·)) = true := by kernel_rfl
theorem eventEncodes_k31 : (Rows.eventEncodesRow.veiledFits Tryz.prog Tryz.f6.params.toList (Tryz.f6.params.toList ++ Rows.eventEncodesSpec.plain.varTypes Tryz.prog ++ Tryz.f6.resultTypes.toList)) = true := by kernel_rfl
theorem eventEncodes_closed : joinedFacts Tryz.pinned.checked.prog 6 Tryz.f6 Rows.eventEncodesSpec Rows.eventEncodesRow = true := (and_t (and_t (and_t (and_t (and_t (and_t (and_t (and_t (and_t (and_t (and_t (and_t (and_t (and_t (and_t (and_t (and_t (and_t (and_t (and_t (and_t (and_t (and_t (and_t (and_t (and_t (and_t (and_t (and_t (and_t (and_t eventEncodes_k0 prog_k1) prog_k2) eventEncodes_k3) eventEncodes_k4) eventEncodes_k5) prog_k6) eventEncodes_k7) prog_k8) eventEncodes_k9) eventEncodes_k10) eventEncodes_k11) eventEncodes_k12) eventEncodes_k13) eventEncodes_k14) eventEncodes_k15) eventEncodes_k16) eventEncodes_k17) eventEncodes_k18) eventEncodes_k19) eventEncodes_k20) eventEncodes_k21) eventEncodes_k22) eventEncodes_k23) prog_k24) prog_k25) eventEncodes_k26) eventEncodes_k27) eventEncodes_k28) eventEncodes_k29) eventEncodes_k30) eventEncodes_k31)
theorem eventEncodes_named : Tryz.pinned.checked.prog.funcNamed Rows.eventEncodesRow.func = some 6 := by kernel_rfl
theorem eventEncodes_inst : Tryz.f6.isInstance Tryz.pinned.checked.prog Rows.eventEncodesRow.origin Rows.eventEncodesRow.targs := of_decide_eq_true (by kernel_rfl)
theorem eventEncodes_wrap : Tryz.f6.isWrapper Tryz.pinned.checked.prog Rows.eventEncodesRow.wrapper Rows.eventEncodesRow.mainSum := by unfold Func.isWrapper; first | (rw [if_pos (by decide +kernel)]; kernel_rfl) | (rw [if_neg (by decide +kernel)]; exact ⟨rfl, rfl⟩)
theorem eventEncodes_text : Rows.eventEncodesRow.wfByText (OpenSpec.ofChange Rows.eventEncodesSpec) = true := by kernel_rfl
theorem eventEncodes_goes : false = Rows.eventEncodesRow.goesBy Tryz.pinned.checked.prog := by kernel_rfl
theorem eventEncodes_stand : ([34].all fun u => !Tryz.prog.wantsStandIn u) = true := by kernel_rfl
theorem eventEncodes_noinit : Tryz.checked.prog.inits.idxOf? 6 = none := by kernel_rfl
set_option maxRecDepth 100000 in
theorem eventEncodes_lifted (os : Os) (started : os.Started) (H : Type) (enc : TypeId × Value → H) :
    ReturnsInHanded {} Tryz.checked os 6 .any (fun w args => (Rows.eventEncodesSpec.pre enc Tryz.prog Tryz.f6 Rows.eventEncodesRow.domain false w args ∧ laidMetH Tryz.prog laid5 w) ∧ sizedMet enc Tryz.prog Tryz.f6 (OpenSpec.ofChange Rows.eventEncodesSpec) false w args)
      (Rows.eventEncodesSpec.post enc Tryz.prog Tryz.f6 false true false false) := by
  refine returns_shaped (C := Tryz.checked) (X := fun w _ => laidMetH Tryz.prog laid5 w) (fun _ _ _ hh h => h.of_heap hh) ownK started eventEncodes_noinit Tryz.func6
    (ChangeSpec.witness_shaped (enc := enc) (C := Tryz.checked) (os := os) (X := fun w _ => laidMetH Tryz.prog laid5 w) false (World.laidAll Tryz.prog os laid5) #[.agg #[.string ⟨#[]⟩, .string ⟨#[]⟩, .string ⟨#[]⟩]] 8 (World.laidAll_os _ _ _)
      (shaped5 os) (by kernel_rfl) (by kernel_rfl) (by kernel_rfl) (met5 os _ _)) ?_
  intro W base args ds gs before hsh hval0 hW hwt hL
  have hval : ∀ (j : Nat) t v, Tryz.f6.params[j]? = some t → args[j]? = some v → Value.okWide Tryz.prog W .any base t v := hval0
  have hG := globT_of hsh hL
  have hW' := hW
  obtain ⟨p, q, hA0, hV, rfl, hfz, hnd⟩ := hW
  have hA : DataW.TrodAll enc Tryz.prog W 0 (fun _ => true) true Tryz.f6.params.toList args.toList ds p := hA0
  rw [Tryz.params6] at hA hval
  obtain ⟨v0, vs0, d0, ds0, p0, q0, hargs, rfl, rfl, h0, r0⟩ := trodAll_cons hA
  obtain ⟨rfl, rfl, rfl⟩ := trodAll_nil r0
  obtain rfl : args = #[v0] := by cases args; simp_all
  obtain ⟨rfl, rfl⟩ := trodVars_none hV
  obtain ⟨a0, rfl, rfl, rfl, x0, y0, z0⟩ := open_ev (hval 0 34 v0 rfl rfl) h0
  clear hA0 hval0
  simp only [List.append_nil] at hW'
  refine (encodes_c W hG a0).mono fun e W' ⟨he, hf⟩ => ?_
  subst he
  have hg := hf.below
  exact ⟨_, rfl, _, _, _, [], [], [], hW', (trodAll_cons_mk (shut_bool Tryz.underlying4 _) trodAll_mk0), (trodAll_cons_mk (shut_ev a0 x0 y0 z0) trodAll_mk0), rfl, hg.frame _, fun h => by cases h⟩
theorem eventEncodes_row : Rows.EventEncodesSaid :=
  OpenClaim.holds_of_wide 6 Tryz.f6 rfl rfl rfl rfl rfl rfl rfl ⟨rfl, rfl, rfl, rfl, rfl⟩ rfl rfl rfl rfl rfl eventEncodes_named Tryz.func6 eventEncodes_closed eventEncodes_inst eventEncodes_wrap
    (fun os started H enc _ => eventEncodes_lifted os started H enc)
theorem eventEncodes_card : Rows.EventEncodesCardSaid :=
  Claim7.holds_tied_plain_at .later [] [.data, .data, .data, .data, .pinned] true (true, "ad3379244174df8ea36b8eb533d690d9d6e7f98121d363a87c0c9350fc7a453b") true eventEncodes_row (fun _ h => by cases h) eventEncodes_text (fun _ h => by cases h) eventEncodes_row_tie rfl ⟨rfl, rfl⟩ prog_main rfl
    (fun f fn hf hfn => by
      obtain rfl : f = 6 := Option.some.inj (eventEncodes_named.symm.trans hf) |>.symm
      obtain rfl : fn = Tryz.f6 := (Option.some.inj (Tryz.func6.symm.trans hfn)).symm
      exact ⟨prog_looks, fun j t ht => by
        rw [Tryz.params6] at ht
        have hm : t ∈ [34] := by simpa using Array.mem_of_getElem? ht
        exact (show Tryz.prog.wantsStandIn t = false by simpa using List.all_eq_true.1 eventEncodes_stand t hm)⟩)
    eventEncodes_goes
#print axioms eventEncodes_card
end Go.Proofs.YtaejmginhkbbhaaGreatDoor
