/- Law EventResets: the closed facts of its row, the row, the tied card. Conditions: as the row says. -/
import Derived.Test.YtaejmginhkbbhaaGreatDoorFP
import Derived.Test.YtaejmginhkbbhaaGreatDoorF3
import Derived.Test.YtaejmginhkbbhaaGreatDoorE2
set_option linter.unusedSimpArgs false
set_option linter.unusedVariables false
set_option maxRecDepth 100000
set_option maxHeartbeats 1000000
namespace Go.Proofs.YtaejmginhkbbhaaGreatDoor
open Go Go.RowKit
open Go.ChangeShapes Go.WideShapes Go.ChangeAt Go.RowKit
set_option maxHeartbeats 8000000
theorem eventResets_k0 : (Rows.eventResetsRow.wf (OpenSpec.ofChange Rows.eventResetsSpec)) = true := by kernel_rfl
theorem eventResets_k3 : (Tryz.f4.params.all (Tryz.prog.readableRec ·)) = true := by kernel_rfl
theorem eventResets_k4 : (namedTie Tryz.prog Rows.eventResetsRow.named Rows.eventResetsSpec.vars) = true := by kernel_rfl
theorem eventResets_k5 : (Rows.eventResetsRow.stops == []) = true := by kernel_rfl
theorem eventResets_k7 : (Rows.eventResetsRow.knobs == []) = true := by kernel_rfl
theorem eventResets_k9 : (Rows.eventResetsRow.inPlace == Tryz.prog.inPlace 4) = true := by kernel_rfl
theorem eventResets_k10 : (Rows.eventResetsRow.unfollowed == Tryz.prog.unfollowed 4) = true := by kernel_rfl
theorem eventResets_k11 : (Rows.eventResetsRow.recurses == Tryz.prog.recurses 4) = true := by kernel_rfl
theorem eventResets_k12 : (Rows.eventResetsRow.named == Tryz.prog.varsNamed 4) = true := by kernel_rfl
theorem eventResets_k13 : (Rows.eventResetsRow.maps == (Tryz.f4.params.toList ++ Rows.eventResetsSpec.plain.varTypes Tryz.prog).any (Tryz.prog.mapsRec ·)) = true := by kernel_rfl
theorem eventResets_k14 : (Rows.eventResetsRow.ifaces == (Tryz.f4.params.toList ++ Rows.eventResetsSpec.plain.varTypes Tryz.prog).any (Tryz.prog.ifacesRec ·)) = true := by kernel_rfl
theorem eventResets_k15 : (Rows.eventResetsRow.mapsOut == Tryz.prog.mapsAmong Tryz.f4.resultTypes.toList) = true := by kernel_rfl
theorem eventResets_k16 : (Rows.eventResetsRow.loops == (Tryz.f4.params.toList ++ Rows.eventResetsSpec.plain.varTypes Tryz.prog).any (Tryz.prog.loopsFrom ·)) = true := by kernel_rfl
theorem eventResets_k17 : (Rows.eventResetsRow.wideKeys == (Tryz.f4.params.toList ++ Rows.eventResetsSpec.plain.varTypes Tryz.prog ++ Tryz.f4.resultTypes.toList).any (Tryz.prog.wideKeysFrom ·)) = true := by kernel_rfl
theorem eventResets_k18 : (Rows.eventResetsSpec.vars.all (Tryz.prog.varReadable ·)) = true := by kernel_rfl
theorem eventResets_k19 : (Tryz.f4.resultTypes.all (fun t => Tryz.prog.readableRec t && decide (t < Tryz.prog.types.size))) = true := by kernel_rfl
theorem eventResets_k20 : (Rows.eventResetsRow.ifacesOut == Tryz.f4.resultTypes.toList.any (Tryz.prog.ifacesRec ·)) = true := by kernel_rfl
theorem eventResets_k21 : (Rows.eventResetsRow.loopsOut == Tryz.f4.resultTypes.toList.any (Tryz.prog.loopsFrom ·)) = true := by kernel_rfl
theorem eventResets_k23 : (Rows.eventResetsRow.shortTexts.isNone) = true := by kernel_rfl
theorem eventResets_k28 : (Rows.eventResetsRow.kinds == (if Rows.eventResetsRow.domain.isEmpty then [] else Tryz.f4.params.toList.map fun t => match Tryz.prog.underlying t with | some (.int k) => some k | _ => none)) = true := by kernel_rfl
theorem eventResets_k29 : (Rows.eventResetsRow.pinned == Rows.eventResetsRow.pinnedBy) = true := by kernel_rfl
theorem eventResets_k30 : (Rows.eventResetsRow.veiled == (Tryz.f4.params.toList ++ Rows.eventResetsSpec.plain.varTypes Tryz.prog ++ Tryz.f4.resultTypes.toList).any (Tryz.prog.veiledRec ·)) = true := by kernel_rfl
theorem eventResets_k31 : (Rows.eventResetsRow.veiledFits Tryz.prog Tryz.f4.params.toList (Tryz.f4.params.toList ++ Rows.eventResetsSpec.plain.varTypes Tryz.prog ++ Tryz.f4.resultTypes.toList)) = true := by kernel_rfl
theorem eventResets_closed : joinedFacts Tryz.pinned.checked.prog 4 Tryz.f4 Rows.eventResetsSpec Rows.eventResetsRow = true := (and_t (and_t (and_t (and_t (and_t (and_t (and_t (and_t (and_t (and_t (and_t (and_t (and_t (and_t (and_t (and_t (and_t (and_t (and_t (and_t (and_t (and_t (and_t (and_t (and_t (and_t (and_t (and_t (and_t (and_t (and_t eventResets_k0 prog_k1) prog_k2) eventResets_k3) eventResets_k4) eventResets_k5) prog_k6) eventResets_k7) prog_k8) eventResets_k9) eventResets_k10) eventResets_k11) eventResets_k12) eventResets_k13) eventResets_k14) eventResets_k15) eventResets_k16) eventResets_k17) eventResets_k18) eventResets_k19) eventResets_k20) eventResets_k21) prog_k22) eventResets_k23) prog_k24) prog_k25) prog_k26) prog_k27) eventResets_k28) eventResets_k29) eventResets_k30) eventResets_k31)
theorem eventResets_named : Tryz.pinned.checked.prog.funcNamed Rows.eventResetsRow.func = some 4 := by kernel_rfl
theorem eventResets_inst : Tryz.f4.isInstance Tryz.pinned.checked.prog Rows.eventResetsRow.origin Rows.eventResetsRow.targs := of_decide_eq_true (by kernel_rfl)
theorem eventResets_wrap : Tryz.f4.isWrapper Tryz.pinned.checked.prog Rows.eventResetsRow.wrapper Rows.eventResetsRow.mainSum := by unfold Func.isWrapper; first | (rw [if_pos (by decide +kernel)]; kernel_rfl) | (rw [if_neg (by decide +kernel)]; exact ⟨rfl, rfl⟩)
theorem eventResets_text : Rows.eventResetsRow.wfByText (OpenSpec.ofChange Rows.eventResetsSpec) = true := by kernel_rfl
theorem eventResets_goes : false = Rows.eventResetsRow.goesBy Tryz.pinned.checked.prog := by kernel_rfl
theorem eventResets_stand : ([9, 22, 22, 34].all fun u => !Tryz.prog.wantsStandIn u) = true := by kernel_rfl
theorem eventResets_noinit : Tryz.checked.prog.inits.idxOf? 4 = none := by kernel_rfl
set_option maxRecDepth 100000 in
theorem eventResets_lifted (os : Os) (started : os.Started) (H : Type) (enc : TypeId × Value → H) :
    ReturnsInHanded {} Tryz.checked os 4 .any (fun w args => (Rows.eventResetsSpec.pre enc Tryz.prog Tryz.f4 Rows.eventResetsRow.domain false w args ∧ laidMetH Tryz.prog laid5 w) ∧ sizedMet enc Tryz.prog Tryz.f4 (OpenSpec.ofChange Rows.eventResetsSpec) false w args)
      (Rows.eventResetsSpec.post enc Tryz.prog Tryz.f4 false true false false) := by
  refine returns_shaped (C := Tryz.checked) (X := fun w _ => laidMetH Tryz.prog laid5 w) (fun _ _ _ hh h => h.of_heap hh) ownK started eventResets_noinit Tryz.func4
    (ChangeSpec.witness_shaped (enc := enc) (C := Tryz.checked) (os := os) (X := fun w _ => laidMetH Tryz.prog laid5 w) false (World.laidAll Tryz.prog os laid5) #[.string ⟨#[]⟩, .int .u64 0, .int .u64 0, .agg #[.string ⟨#[]⟩, .string ⟨#[]⟩, .string ⟨#[]⟩]] 8 (World.laidAll_os _ _ _)
      (shaped5 os) (by kernel_rfl) (by kernel_rfl) (by kernel_rfl) (met5 os _ _)) ?_
  intro W base args ds gs before hsh hval0 hW hwt hL
  have hval : ∀ (j : Nat) t v, Tryz.f4.params[j]? = some t → args[j]? = some v → Value.okWide Tryz.prog W .any base t v := hval0
  have hG := globT_of hsh hL
  have hW' := hW
  obtain ⟨p, q, hA0, hV, rfl, hfz, hnd⟩ := hW
  have hA : DataW.TrodAll enc Tryz.prog W 0 (fun _ => true) true Tryz.f4.params.toList args.toList ds p := hA0
  rw [Tryz.params4] at hA hval
  obtain ⟨v0, vs0, d0, ds0, p0, q0, hargs, rfl, rfl, h0, r0⟩ := trodAll_cons hA
  obtain ⟨v1, vs1, d1, ds1, p1, q1, rfl, rfl, rfl, h1, r1⟩ := trodAll_cons r0
  obtain ⟨v2, vs2, d2, ds2, p2, q2, rfl, rfl, rfl, h2, r2⟩ := trodAll_cons r1
  obtain ⟨v3, vs3, d3, ds3, p3, q3, rfl, rfl, rfl, h3, r3⟩ := trodAll_cons r2
  obtain ⟨rfl, rfl, rfl⟩ := trodAll_nil r3
  obtain rfl : args = #[v0, v1, v2, v3] := by cases args; simp_all
  obtain ⟨rfl, rfl⟩ := trodVars_none hV
  obtain ⟨a0, rfl, rfl, rfl, x0⟩ := open_txt (hval 0 9 v0 rfl rfl) h0
  obtain ⟨a1, rfl, rfl, rfl, w1⟩ := open_int Tryz.underlying22 (hval 1 22 v1 rfl rfl) h1
  obtain ⟨n1, rfl, b1⟩ := u64_wf w1
  obtain ⟨a2, rfl, rfl, rfl, w2⟩ := open_int Tryz.underlying22 (hval 2 22 v2 rfl rfl) h2
  obtain ⟨n2, rfl, b2⟩ := u64_wf w2
  obtain ⟨a3, rfl, rfl, rfl, x3, y3, z3⟩ := open_ev (hval 3 34 v3 rfl rfl) h3
  clear hA0 hval0
  simp only [List.append_nil] at hW'
  refine (eresets_c W hG a0 n1 n2 a3 b1 b2).mono fun e W' ⟨he, hf⟩ => ?_
  subst he
  have hg := hf.below
  exact ⟨_, rfl, _, _, _, [], [], [], hW', (trodAll_cons_mk (shut_bool Tryz.underlying4 _) trodAll_mk0), (trodAll_cons_mk (shut_txt a0 x0) (trodAll_cons_mk (shut_int Tryz.underlying22 w1) (trodAll_cons_mk (shut_int Tryz.underlying22 w2) (trodAll_cons_mk (shut_ev a3 x3 y3 z3) trodAll_mk0)))), rfl, hg.frame _, fun h => by cases h⟩
theorem eventResets_row : Rows.EventResetsSaid :=
  OpenClaim.holds_of_wide 4 Tryz.f4 rfl rfl rfl rfl rfl rfl rfl ⟨rfl, rfl, rfl, rfl, rfl⟩ rfl rfl rfl rfl rfl eventResets_named Tryz.func4 eventResets_closed eventResets_inst eventResets_wrap
    (fun os started H enc _ => eventResets_lifted os started H enc)
theorem eventResets_card : Rows.EventResetsCardSaid :=
  Claim7.holds_tied_plain_at .later [] [.data, .data, .data, .data, .pinned] true (true, "ad3379244174df8ea36b8eb533d690d9d6e7f98121d363a87c0c9350fc7a453b") true eventResets_row (fun _ h => by cases h) eventResets_text (fun _ h => by cases h) eventResets_row_tie rfl ⟨rfl, rfl⟩ prog_main rfl
    (fun f fn hf hfn => by
      obtain rfl : f = 4 := Option.some.inj (eventResets_named.symm.trans hf) |>.symm
      obtain rfl : fn = Tryz.f4 := (Option.some.inj (Tryz.func4.symm.trans hfn)).symm
      exact ⟨prog_looks, fun j t ht => by
        rw [Tryz.params4] at ht
        have hm : t ∈ [9, 22, 22, 34] := by simpa using Array.mem_of_getElem? ht
        exact (show Tryz.prog.wantsStandIn t = false by simpa using List.all_eq_true.1 eventResets_stand t hm)⟩)
    eventResets_goes
#print axioms eventResets_card
end Go.Proofs.YtaejmginhkbbhaaGreatDoor
