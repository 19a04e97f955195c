/- Law EventLines: the closed facts of its row, the row, the tied card. Conditions: as the row says. -/
import Derived.Test.YtaejmginhkbbhaaGreatDoorFP
import Derived.Test.YtaejmginhkbbhaaGreatDoorF3
import Derived.Test.YtaejmginhkbbhaaGreatDoorE3
set_option linter.unusedSimpArgs false
set_option linter.unusedVariables false
set_option maxRecDepth 100000
set_option maxHeartbeats 1000000
namespace Go.Proofs.YtaejmginhkbbhaaGreatDoor
open Go Go.RowKit
open Go.ChangeShapes Go.WideShapes Go.ChangeAt Go.RowKit
set_option maxHeartbeats 8000000
theorem eventLines_k0 : (Rows.eventLinesRow.wf (OpenSpec.ofChange Rows.eventLinesSpec)) = true := by kernel_rfl
theorem eventLines_k3 : (Tryz.f13.params.all (Tryz.prog.readableRec ·)) = true := by kernel_rfl
theorem eventLines_k4 : (namedTie Tryz.prog Rows.eventLinesRow.named Rows.eventLinesSpec.vars) = true := by kernel_rfl
theorem eventLines_k5 : (Rows.eventLinesRow.stops == []) = true := by kernel_rfl
theorem eventLines_k7 : (Rows.eventLinesRow.knobs == []) = true := by kernel_rfl
theorem eventLines_k9 : (Rows.eventLinesRow.inPlace == Tryz.prog.inPlace 13) = true := by kernel_rfl
theorem eventLines_k10 : (Rows.eventLinesRow.unfollowed == Tryz.prog.unfollowed 13) = true := by kernel_rfl
theorem eventLines_k11 : (Rows.eventLinesRow.recurses == Tryz.prog.recurses 13) = true := by kernel_rfl
theorem eventLines_k12 : (Rows.eventLinesRow.named == Tryz.prog.varsNamed 13) = true := by kernel_rfl
theorem eventLines_k13 : (Rows.eventLinesRow.maps == (Tryz.f13.params.toList ++ Rows.eventLinesSpec.plain.varTypes Tryz.prog).any (Tryz.prog.mapsRec ·)) = true := by kernel_rfl
theorem eventLines_k14 : (Rows.eventLinesRow.ifaces == (Tryz.f13.params.toList ++ Rows.eventLinesSpec.plain.varTypes Tryz.prog).any (Tryz.prog.ifacesRec ·)) = true := by kernel_rfl
theorem eventLines_k15 : (Rows.eventLinesRow.mapsOut == Tryz.prog.mapsAmong Tryz.f13.resultTypes.toList) = true := by kernel_rfl
theorem eventLines_k16 : (Rows.eventLinesRow.loops == (Tryz.f13.params.toList ++ Rows.eventLinesSpec.plain.varTypes Tryz.prog).any (Tryz.prog.loopsFrom ·)) = true := by kernel_rfl
theorem eventLines_k17 : (Rows.eventLinesRow.wideKeys == (Tryz.f13.params.toList ++ Rows.eventLinesSpec.plain.varTypes Tryz.prog ++ Tryz.f13.resultTypes.toList).any (Tryz.prog.wideKeysFrom ·)) = true := by kernel_rfl
theorem eventLines_k18 : (Rows.eventLinesSpec.vars.all (Tryz.prog.varReadable ·)) = true := by kernel_rfl
theorem eventLines_k19 : (Tryz.f13.resultTypes.all (fun t => Tryz.prog.readableRec t && decide (t < Tryz.prog.types.size))) = true := by kernel_rfl
theorem eventLines_k20 : (Rows.eventLinesRow.ifacesOut == Tryz.f13.resultTypes.toList.any (Tryz.prog.ifacesRec ·)) = true := by kernel_rfl
theorem eventLines_k21 : (Rows.eventLinesRow.loopsOut == Tryz.f13.resultTypes.toList.any (Tryz.prog.loopsFrom ·)) = true := by kernel_rfl
theorem eventLines_k23 : (Rows.eventLinesRow.shortTexts.isNone) = true := by kernel_rfl
theorem eventLines_k28 : (Rows.eventLinesRow.kinds == (if Rows.eventLinesRow.domain.isEmpty then [] else Tryz.f13.params.toList.map fun t => match Tryz.prog.underlying t with | some (.int k) => some k | _ => none)) = true := by kernel_rfl
theorem eventLines_k29 : (Rows.eventLinesRow.pinned == Rows.eventLinesRow.pinnedBy) = true := by kernel_rfl
theorem eventLines_k30 : (Rows.eventLinesRow.veiled == (Tryz.f13.params.toList ++ Rows.eventLinesSpec.plain.varTypes Tryz.prog ++ Tryz.f13.resultTypes.toList).any (Tryz.prog.veiledRec ·)) = true := by kernel_rfl
theorem eventLines_k31 : (Rows.eventLinesRow.veiledFits Tryz.prog Tryz.f13.params.toList (Tryz.f13.params.toList ++ Rows.eventLinesSpec.plain.varTypes Tryz.prog ++ Tryz.f13.resultTypes.toList)) = true := by kernel_rfl
theorem eventLines_closed : joinedFacts Tryz.pinned.checked.prog 13 Tryz.f13 Rows.eventLinesSpec Rows.eventLinesRow = true := (and_t (and_t (and_t (and_t (and_t (and_t (and_t (and_t (and_t (and_t (and_t (and_t (and_t (and_t (and_t (and_t (and_t (and_t (and_t (and_t (and_t (and_t (and_t (and_t (and_t (and_t (and_t (and_t (and_t (and_t (and_t eventLines_k0 prog_k1) prog_k2) eventLines_k3) eventLines_k4) eventLines_k5) prog_k6) eventLines_k7) prog_k8) eventLines_k9) eventLines_k10) eventLines_k11) eventLines_k12) eventLines_k13) eventLines_k14) eventLines_k15) eventLines_k16) eventLines_k17) eventLines_k18) eventLines_k19) eventLines_k20) eventLines_k21) prog_k22) eventLines_k23) prog_k24) prog_k25) prog_k26) prog_k27) eventLines_k28) eventLines_k29) eventLines_k30) eventLines_k31)
theorem eventLines_named : Tryz.pinned.checked.prog.funcNamed Rows.eventLinesRow.func = some 13 := by kernel_rfl
theorem eventLines_inst : Tryz.f13.isInstance Tryz.pinned.checked.prog Rows.eventLinesRow.origin Rows.eventLinesRow.targs := of_decide_eq_true (by kernel_rfl)
theorem eventLines_wrap : Tryz.f13.isWrapper Tryz.pinned.checked.prog Rows.eventLinesRow.wrapper Rows.eventLinesRow.mainSum := by unfold Func.isWrapper; first | (rw [if_pos (by decide +kernel)]; kernel_rfl) | (rw [if_neg (by decide +kernel)]; exact ⟨rfl, rfl⟩)
theorem eventLines_text : Rows.eventLinesRow.wfByText (OpenSpec.ofChange Rows.eventLinesSpec) = true := by kernel_rfl
theorem eventLines_goes : false = Rows.eventLinesRow.goesBy Tryz.pinned.checked.prog := by kernel_rfl
theorem eventLines_stand : ([34, 3].all fun u => !Tryz.prog.wantsStandIn u) = true := by kernel_rfl
theorem eventLines_noinit : Tryz.checked.prog.inits.idxOf? 13 = none := by kernel_rfl
set_option maxRecDepth 100000 in
theorem eventLines_lifted (os : Os) (started : os.Started) (H : Type) (enc : TypeId × Value → H) :
    ReturnsInHanded {} Tryz.checked os 13 .any (fun w args => (Rows.eventLinesSpec.pre enc Tryz.prog Tryz.f13 Rows.eventLinesRow.domain false w args ∧ laidMetH Tryz.prog laid5 w) ∧ sizedMet enc Tryz.prog Tryz.f13 (OpenSpec.ofChange Rows.eventLinesSpec) false w args)
      (Rows.eventLinesSpec.post enc Tryz.prog Tryz.f13 false true false false) := by
  refine returns_shaped (C := Tryz.checked) (X := fun w _ => laidMetH Tryz.prog laid5 w) (fun _ _ _ hh h => h.of_heap hh) ownK started eventLines_noinit Tryz.func13
    (ChangeSpec.witness_shaped (enc := enc) (C := Tryz.checked) (os := os) (X := fun w _ => laidMetH Tryz.prog laid5 w) false (World.laidAll Tryz.prog os laid5) #[.agg #[.string ⟨#[]⟩, .string ⟨#[]⟩, .string ⟨#[]⟩], .int .i64 0] 8 (World.laidAll_os _ _ _)
      (shaped5 os) (by kernel_rfl) (by kernel_rfl) (by kernel_rfl) (met5 os _ _)) ?_
  intro W base args ds gs before hsh hval0 hW hwt hL
  have hval : ∀ (j : Nat) t v, Tryz.f13.params[j]? = some t → args[j]? = some v → Value.okWide Tryz.prog W .any base t v := hval0
  have hG := globT_of hsh hL
  have hW' := hW
  obtain ⟨p, q, hA0, hV, rfl, hfz, hnd⟩ := hW
  have hA : DataW.TrodAll enc Tryz.prog W 0 (fun _ => true) true Tryz.f13.params.toList args.toList ds p := hA0
  rw [Tryz.params13] at hA hval
  obtain ⟨v0, vs0, d0, ds0, p0, q0, hargs, rfl, rfl, h0, r0⟩ := trodAll_cons hA
  obtain ⟨v1, vs1, d1, ds1, p1, q1, rfl, rfl, rfl, h1, r1⟩ := trodAll_cons r0
  obtain ⟨rfl, rfl, rfl⟩ := trodAll_nil r1
  obtain rfl : args = #[v0, v1] := by cases args; simp_all
  obtain ⟨rfl, rfl⟩ := trodVars_none hV
  obtain ⟨a0, rfl, rfl, rfl, x0, y0, z0⟩ := open_ev (hval 0 34 v0 rfl rfl) h0
  obtain ⟨a1, rfl, rfl, rfl, w1⟩ := open_int Tryz.underlying3 (hval 1 3 v1 rfl rfl) h1
  clear hA0 hval0
  simp only [List.append_nil] at hW'
  refine (elines_c W hG a0 a1).mono fun e W' ⟨he, hf⟩ => ?_
  subst he
  have hg := hf.below
  exact ⟨_, rfl, _, _, _, [], [], [], hW', (trodAll_cons_mk (shut_bool Tryz.underlying4 _) trodAll_mk0), (trodAll_cons_mk (shut_ev a0 x0 y0 z0) (trodAll_cons_mk (shut_int Tryz.underlying3 w1) trodAll_mk0)), rfl, hg.frame _, fun h => by cases h⟩
theorem eventLines_row : Rows.EventLinesSaid :=
  OpenClaim.holds_of_wide 13 Tryz.f13 rfl rfl rfl rfl rfl rfl rfl ⟨rfl, rfl, rfl, rfl, rfl⟩ rfl rfl rfl rfl rfl eventLines_named Tryz.func13 eventLines_closed eventLines_inst eventLines_wrap
    (fun os started H enc _ => eventLines_lifted os started H enc)
theorem eventLines_card : Rows.EventLinesCardSaid :=
  Claim7.holds_tied_plain_at .later [] [.data, .data, .data, .data, .pinned] true (true, "ad3379244174df8ea36b8eb533d690d9d6e7f98121d363a87c0c9350fc7a453b") true eventLines_row (fun _ h => by cases h) eventLines_text (fun _ h => by cases h) eventLines_row_tie rfl ⟨rfl, rfl⟩ prog_main rfl
    (fun f fn hf hfn => by
      obtain rfl : f = 13 := Option.some.inj (eventLines_named.symm.trans hf) |>.symm
      obtain rfl : fn = Tryz.f13 := (Option.some.inj (Tryz.func13.symm.trans hfn)).symm
      exact ⟨prog_looks, fun j t ht => by
        rw [Tryz.params13] at ht
        have hm : t ∈ [34, 3] := by simpa using Array.mem_of_getElem? ht
        exact (show Tryz.prog.wantsStandIn t = false by simpa using List.all_eq_true.1 eventLines_stand t hm)⟩)
    eventLines_goes
#print axioms eventLines_card
end Go.Proofs.YtaejmginhkbbhaaGreatDoor
