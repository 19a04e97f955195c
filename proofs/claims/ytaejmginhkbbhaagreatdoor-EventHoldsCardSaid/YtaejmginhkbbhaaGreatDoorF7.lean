/- Law EventHolds: the closed facts of its row, the row, the tied card. Conditions: as the row says. -/
import Derived.Test.YtaejmginhkbbhaaGreatDoorFP
import Derived.Test.YtaejmginhkbbhaaGreatDoorF3
import Derived.Test.YtaejmginhkbbhaaGreatDoorE4
set_option linter.unusedSimpArgs false
set_option linter.unusedVariables false
set_option maxRecDepth 100000
set_option maxHeartbeats 1000000
namespace Go.Proofs.YtaejmginhkbbhaaGreatDoor
open Go Go.RowKit
open Go.ChangeShapes Go.WideShapes Go.ChangeAt Go.RowKit
set_option maxHeartbeats 8000000
theorem eventHolds_k0 : (Rows.eventHoldsRow.wf (OpenSpec.ofChange Rows.eventHoldsSpec)) = true := by kernel_rfl
theorem eventHolds_k3 : (Tryz.f14.params.all (Tryz.prog.readableRec ·)) = true := by kernel_rfl
theorem eventHolds_k4 : (namedTie Tryz.prog Rows.eventHoldsRow.named Rows.eventHoldsSpec.vars) = true := by kernel_rfl
theorem eventHolds_k5 : (Rows.eventHoldsRow.stops == []) = true := by kernel_rfl
theorem eventHolds_k7 : (Rows.eventHoldsRow.knobs == []) = true := by kernel_rfl
theorem eventHolds_k9 : (Rows.eventHoldsRow.inPlace == Tryz.prog.inPlace 14) = true := by kernel_rfl
theorem eventHolds_k10 : (Rows.eventHoldsRow.unfollowed == Tryz.prog.unfollowed 14) = true := by kernel_rfl
theorem eventHolds_k11 : (Rows.eventHoldsRow.recurses == Tryz.prog.recurses 14) = true := by kernel_rfl
theorem eventHolds_k12 : (Rows.eventHoldsRow.named == Tryz.prog.varsNamed 14) = true := by kernel_rfl
theorem eventHolds_k13 : (Rows.eventHoldsRow.maps == (Tryz.f14.params.toList ++ Rows.eventHoldsSpec.plain.varTypes Tryz.prog).any (Tryz.prog.mapsRec ·)) = true := by kernel_rfl
theorem eventHolds_k14 : (Rows.eventHoldsRow.ifaces == (Tryz.f14.params.toList ++ Rows.eventHoldsSpec.plain.varTypes Tryz.prog).any (Tryz.prog.ifacesRec ·)) = true := by kernel_rfl
theorem eventHolds_k15 : (Rows.eventHoldsRow.mapsOut == Tryz.prog.mapsAmong Tryz.f14.resultTypes.toList) = true := by kernel_rfl
theorem eventHolds_k16 : (Rows.eventHoldsRow.loops == (Tryz.f14.params.toList ++ Rows.eventHoldsSpec.plain.varTypes Tryz.prog).any (Tryz.prog.loopsFrom ·)) = true := by kernel_rfl
theorem eventHolds_k17 : (Rows.eventHoldsRow.wideKeys == (Tryz.f14.params.toList ++ Rows.eventHoldsSpec.plain.varTypes Tryz.prog ++ Tryz.f14.resultTypes.toList).any (Tryz.prog.wideKeysFrom ·)) = true := by kernel_rfl
theorem eventHolds_k18 : (Rows.eventHoldsSpec.vars.all (Tryz.prog.varReadable ·)) = true := by kernel_rfl
theorem eventHolds_k19 : (Tryz.f14.resultTypes.all (fun t => Tryz.prog.readableRec t && decide (t < Tryz.prog.types.size))) = true := by kernel_rfl
theorem eventHolds_k20 : (Rows.eventHoldsRow.ifacesOut == Tryz.f14.resultTypes.toList.any (Tryz.prog.ifacesRec ·)) = true := by kernel_rfl
theorem eventHolds_k21 : (Rows.eventHoldsRow.loopsOut == Tryz.f14.resultTypes.toList.any (Tryz.prog.loopsFrom ·)) = true := by kernel_rfl
theorem eventHolds_k23 : (Rows.eventHoldsRow.shortTexts.isNone) = true := by kernel_rfl
theorem eventHolds_k28 : (Rows.eventHoldsRow.kinds == (if Rows.eventHoldsRow.domain.isEmpty then [] else Tryz.f14.params.toList.map fun t => match Tryz.prog.underlying t with | some (.int k) => some k | _ => none)) = true := by kernel_rfl
theorem eventHolds_k29 : (Rows.eventHoldsRow.pinned == Rows.eventHoldsRow.pinnedBy) = true := by kernel_rfl
theorem eventHolds_k30 : (Rows.eventHoldsRow.veiled == (Tryz.f14.params.toList ++ Rows.eventHoldsSpec.plain.varTypes Tryz.prog ++ Tryz.f14.resultTypes.toList).any (Tryz.prog.veiledRec ·)) = true := by kernel_rfl
theorem eventHolds_k31 : (Rows.eventHoldsRow.veiledFits Tryz.prog Tryz.f14.params.toList (Tryz.f14.params.toList ++ Rows.eventHoldsSpec.plain.varTypes Tryz.prog ++ Tryz.f14.resultTypes.toList)) = true := by kernel_rfl
theorem eventHolds_closed : joinedFacts Tryz.pinned.checked.prog 14 Tryz.f14 Rows.eventHoldsSpec Rows.eventHoldsRow = true := (and_t (and_t (and_t (and_t (and_t (and_t (and_t (and_t (and_t (and_t (and_t (and_t (and_t (and_t (and_t (and_t (and_t (and_t (and_t (and_t (and_t (and_t (and_t (and_t (and_t (and_t (and_t (and_t (and_t (and_t (and_t eventHolds_k0 prog_k1) prog_k2) eventHolds_k3) eventHolds_k4) eventHolds_k5) prog_k6) eventHolds_k7) prog_k8) eventHolds_k9) eventHolds_k10) eventHolds_k11) eventHolds_k12) eventHolds_k13) eventHolds_k14) eventHolds_k15) eventHolds_k16) eventHolds_k17) eventHolds_k18) eventHolds_k19) eventHolds_k20) eventHolds_k21) prog_k22) eventHolds_k23) prog_k24) prog_k25) prog_k26) prog_k27) eventHolds_k28) eventHolds_k29) eventHolds_k30) eventHolds_k31)
theorem eventHolds_named : Tryz.pinned.checked.prog.funcNamed Rows.eventHoldsRow.func = some 14 := by kernel_rfl
theorem eventHolds_inst : Tryz.f14.isInstance Tryz.pinned.checked.prog Rows.eventHoldsRow.origin Rows.eventHoldsRow.targs := of_decide_eq_true (by kernel_rfl)
theorem eventHolds_wrap : Tryz.f14.isWrapper Tryz.pinned.checked.prog Rows.eventHoldsRow.wrapper Rows.eventHoldsRow.mainSum := by unfold Func.isWrapper; first | (rw [if_pos (by decide +kernel)]; kernel_rfl) | (rw [if_neg (by decide +kernel)]; exact ⟨rfl, rfl⟩)
theorem eventHolds_text : Rows.eventHoldsRow.wfByText (OpenSpec.ofChange Rows.eventHoldsSpec) = true := by kernel_rfl
theorem eventHolds_goes : false = Rows.eventHoldsRow.goesBy Tryz.pinned.checked.prog := by kernel_rfl
theorem eventHolds_stand : ([34, 34].all fun u => !Tryz.prog.wantsStandIn u) = true := by kernel_rfl
theorem eventHolds_noinit : Tryz.checked.prog.inits.idxOf? 14 = none := by kernel_rfl
set_option maxRecDepth 100000 in
theorem eventHolds_lifted (os : Os) (started : os.Started) (H : Type) (enc : TypeId × Value → H) :
    ReturnsInHanded {} Tryz.checked os 14 .any (fun w args => (Rows.eventHoldsSpec.pre enc Tryz.prog Tryz.f14 Rows.eventHoldsRow.domain false w args ∧ laidMetH Tryz.prog laid5 w) ∧ sizedMet enc Tryz.prog Tryz.f14 (OpenSpec.ofChange Rows.eventHoldsSpec) false w args)
      (Rows.eventHoldsSpec.post enc Tryz.prog Tryz.f14 false true false false) := by
  refine returns_shaped (C := Tryz.checked) (X := fun w _ => laidMetH Tryz.prog laid5 w) (fun _ _ _ hh h => h.of_heap hh) ownK started eventHolds_noinit Tryz.func14
    (ChangeSpec.witness_shaped (enc := enc) (C := Tryz.checked) (os := os) (X := fun w _ => laidMetH Tryz.prog laid5 w) false (World.laidAll Tryz.prog os laid5) #[.agg #[.string ⟨#[]⟩, .string ⟨#[]⟩, .string ⟨#[]⟩], .agg #[.string ⟨#[]⟩, .string ⟨#[]⟩, .string ⟨#[]⟩]] 8 (World.laidAll_os _ _ _)
      (shaped5 os) (by kernel_rfl) (by kernel_rfl) (by kernel_rfl) (met5 os _ _)) ?_
  intro W base args ds gs before hsh hval0 hW hwt hL
  have hval : ∀ (j : Nat) t v, Tryz.f14.params[j]? = some t → args[j]? = some v → Value.okWide Tryz.prog W .any base t v := hval0
  have hG := globT_of hsh hL
  have hW' := hW
  obtain ⟨p, q, hA0, hV, rfl, hfz, hnd⟩ := hW
  have hA : DataW.TrodAll enc Tryz.prog W 0 (fun _ => true) true Tryz.f14.params.toList args.toList ds p := hA0
  rw [Tryz.params14] at hA hval
  obtain ⟨v0, vs0, d0, ds0, p0, q0, hargs, rfl, rfl, h0, r0⟩ := trodAll_cons hA
  obtain ⟨v1, vs1, d1, ds1, p1, q1, rfl, rfl, rfl, h1, r1⟩ := trodAll_cons r0
  obtain ⟨rfl, rfl, rfl⟩ := trodAll_nil r1
  obtain rfl : args = #[v0, v1] := by cases args; simp_all
  obtain ⟨rfl, rfl⟩ := trodVars_none hV
  obtain ⟨a0, rfl, rfl, rfl, x0, y0, z0⟩ := open_ev (hval 0 34 v0 rfl rfl) h0
  obtain ⟨a1, rfl, rfl, rfl, x1, y1, z1⟩ := open_ev (hval 1 34 v1 rfl rfl) h1
  clear hA0 hval0
  simp only [List.append_nil] at hW'
  refine (eholds_c W hG a0 a1).mono fun e W' ⟨he, hf⟩ => ?_
  subst he
  have hg := hf.below
  exact ⟨_, rfl, _, _, _, [], [], [], hW', (trodAll_cons_mk (shut_bool Tryz.underlying4 _) trodAll_mk0), (trodAll_cons_mk (shut_ev a0 x0 y0 z0) (trodAll_cons_mk (shut_ev a1 x1 y1 z1) trodAll_mk0)), rfl, hg.frame _, fun h => by cases h⟩
theorem eventHolds_row : Rows.EventHoldsSaid :=
  OpenClaim.holds_of_wide 14 Tryz.f14 rfl rfl rfl rfl rfl rfl rfl ⟨rfl, rfl, rfl, rfl, rfl⟩ rfl rfl rfl rfl rfl eventHolds_named Tryz.func14 eventHolds_closed eventHolds_inst eventHolds_wrap
    (fun os started H enc _ => eventHolds_lifted os started H enc)
theorem eventHolds_card : Rows.EventHoldsCardSaid :=
  Claim7.holds_tied_plain_at .later [] [.data, .data, .data, .data, .pinned] true (true, "ad3379244174df8ea36b8eb533d690d9d6e7f98121d363a87c0c9350fc7a453b") true eventHolds_row (fun _ h => by cases h) eventHolds_text (fun _ h => by cases h) eventHolds_row_tie rfl ⟨rfl, rfl⟩ prog_main rfl
    (fun f fn hf hfn => by
      obtain rfl : f = 14 := Option.some.inj (eventHolds_named.symm.trans hf) |>.symm
      obtain rfl : fn = Tryz.f14 := (Option.some.inj (Tryz.func14.symm.trans hfn)).symm
      exact ⟨prog_looks, fun j t ht => by
        rw [Tryz.params14] at ht
        have hm : t ∈ [34, 34] := by simpa using Array.mem_of_getElem? ht
        exact (show Tryz.prog.wantsStandIn t = false by simpa using List.all_eq_true.1 eventHolds_stand t hm)⟩)
    eventHolds_goes
#print axioms eventHolds_card
end Go.Proofs.YtaejmginhkbbhaaGreatDoor
