/- What a row's beginning gives the walks: the listed variables and the shape of the world; returning, in the row's words. Conditions: as each theorem says. -/
import Derived.Test.YtaejmginhkbbhaaGreatDoorX1
import Derived.Test.YtaejmginhkbbhaaGreatDoorCards
import Derived.Test.YtaejmginhkbbhaaGreatDoorTie
import Derived.ProofKit
import Derived.OpenShut
import Derived.LaidMore
import Derived.Lay
import Derived.Stop.Joined
import Derived.Lib.LaidTab
set_option linter.unusedSimpArgs false
set_option linter.unusedVariables false
set_option maxRecDepth 100000
set_option maxHeartbeats 1000000
namespace Go.Proofs.YtaejmginhkbbhaaGreatDoor
open Go Go.RowKit
open Go.ChangeShapes Go.WideShapes Go.ChangeAt Go.RowKit
theorem ownK : ownKnob Tryz.prog.godebug = none := by kernel_rfl
/-- As the library's own law, the world's shape handed on besides. -/
theorem returns_shaped {H : Type} {enc : TypeId × Value → H} {a : Assume} {C : Checked} {os : Os} {f : FuncId} {fn : Func} {s : ChangeSpec} {conds : List PathCond} {apart fresh handsOn again : Bool} {X : World → Array Value → Prop}
    (hX : ∀ (w w' : World) (args : Array Value), w.heap = w'.heap → X w args → X w' args)
    (own : ownKnob C.prog.godebug = none) (started : os.Started) (noInit : C.prog.inits.idxOf? f = none) (hfn : C.prog.funcs[f]? = some fn)
    (witness : ∃ (w : World) (tape : Tape) (i : Input), w.os = os ∧ (w.forCall tape i).Shaped C.prog ∧ i.vars = [] ∧ Input.okWide C.prog (w.forCall tape i) .any w.heap.size f i ∧
      ((s.pre enc C.prog fn conds apart (w.forCall tape i).memory i.args ∧ X (w.forCall tape i).memory i.args) ∧ sizedMet enc C.prog fn (OpenSpec.ofChange s) apart (w.forCall tape i).memory i.args) ∧ a.holds C.prog (lone (Frame.enter C.prog f i.args .normal) [] (w.forCall tape i)))
    (contract : ∀ (W : World) (base : Nat) (args : Array Value) (ds gs : List (DataW H)) (before : List MemPlace),
      W.ShapedOpen C.prog →
      (∀ (j : Nat) t v, fn.params[j]? = some t → args[j]? = some v → Value.okWide C.prog W .any base t v) →
      DataW.Whole enc C.prog fn.params.toList s.vars apart W args.toList ds gs before →
      (DataW.weightsEach C.prog (fn.params.toList ++ s.plain.varTypes C.prog) (ds ++ gs)).all (· ≤ reachBytes) = true → X W args →
      Calls C.prog f args W fun e W' => ∃ v, e = .returned v ∧ s.post enc C.prog fn apart fresh handsOn again W args v W') :
    ReturnsInHanded a C os f .any (fun w args => (s.pre enc C.prog fn conds apart w args ∧ X w args) ∧ sizedMet enc C.prog fn (OpenSpec.ofChange s) apart w args) (s.post enc C.prog fn apart fresh handsOn again) := by
  refine returnsInHanded_of_calls own started noInit witness ?_
  intro w tape i _ hsh _ hok hpre hholds
  obtain ⟨_, _, _, fn', hfn', _, _, _, _, hval⟩ := hok
  have e : fn' = fn := Option.some.inj (hfn'.symm.trans hfn)
  subst e
  obtain ⟨⟨⟨ds, gs, before, hw, hc⟩, hx⟩, hz⟩ := hpre
  have hw' := DataW.Whole.of_heap (w' := w.forCall tape i) (by rfl) hw
  refine (contract (w.forCall tape i) w.heap.size i.args ds gs before hsh hval hw' (hz.weights hw) (hX _ _ _ (by rfl) hx)).mono fun e W' ⟨v, he, hp⟩ => ?_
  subst he
  exact ChangeSpec.post_blind hp
theorem start0 : (((begin Tryz.prog (fun _ _ => 0) default).world).heap[0]?).bind Obj.row? = some (#[.int .i64 0], 3) := by kernel_rfl
theorem globals_pos : decide (0 < Tryz.prog.globals.size) = true := by kernel_rfl
theorem build3 : Tryz.prog.buildable 3 = true := by kernel_rfl
theorem cells3 : Tryz.prog.cellTypes Tryz.prog.depth 3 = some [3] := by kernel_rfl
theorem maxLen_of {W : World} (h : W.ShapedOpen Tryz.prog) : ∃ m, W.cell? ⟨0, 0, none⟩ = some (.int .i64 m) := by
  obtain ⟨cs, h1, h2, h3⟩ := h.1 0 _ _ (of_decide_eq_true globals_pos) start0
  obtain ⟨ts, h4, h5, h6⟩ := h3 build3
  have e : ts = [3] := Option.some.inj (h4.symm.trans cells3)
  subst e
  have hs : cs.size = 1 := h2
  obtain ⟨u, hu, hc⟩ := h6 0 cs[0] (by simp [hs])
  have e2 : u = 3 := by simpa using hu.symm
  subst e2
  have hv : ∃ m, cs[0] = .int .i64 m := by
    unfold Cell.ok at hc
    rw [Tryz.underlying3] at hc
    cases hv : cs[0] <;> rw [hv] at hc <;> simp at hc
    exact ⟨_, by rw [hc.1]⟩
  obtain ⟨m, hm⟩ := hv
  refine ⟨m, ?_⟩
  have h0 : cs[0]? = some (.int .i64 m) := by rw [← hm]; simp [hs]
  unfold World.cell?
  rw [h1]
  simpa using h0
theorem pow_cells : Rows.laid_internal_strconv_uint64pow10 (H := Unit) = Lib.tabData .u64 Lib.pow10Tab := by kernel_rfl
theorem powG : Tryz.prog.globalNamed "internal/strconv.uint64pow10" = some 1 := by kernel_rfl
theorem powT : (Tryz.prog.globals[1]?).map (·.type) = some 424 := by kernel_rfl
theorem powA : Tryz.prog.underlying 424 = some (.array 20 22) := by kernel_rfl
theorem powE : Tryz.prog.underlying 22 = some (.int .u64) := by kernel_rfl
theorem powC : Tryz.prog.cellsOf 22 = 1 := by kernel_rfl
theorem powN : Tryz.prog.cellsOf 424 = 20 := by kernel_rfl
theorem pow_of {W : World} {l : List (String × DataW Unit)} (h : laidMet Tryz.prog l W) (hm : (l.filter fun x => x.1 == "internal/strconv.uint64pow10") = [("internal/strconv.uint64pow10", Lib.tabData .u64 Lib.pow10Tab)]) : Lib.TabIs Tryz.prog W "internal/strconv.uint64pow10" .u64 Lib.pow10Tab := by
  have h2 := h.filter (fun x => x.1 == "internal/strconv.uint64pow10")
  rw [hm] at h2
  exact Lib.tabIs_of_head powG powT powA powE powC powN h2
/-- The list of the rows that reach the table of powers of ten. -/
def laid5 : List (String × DataW Unit) := [("math/bits.deBruijn32tab", Rows.laid_math_bits_deBruijn32tab), ("math/bits.deBruijn64tab", Rows.laid_math_bits_deBruijn64tab), ("internal/strconv.uint64pow10", Rows.laid_internal_strconv_uint64pow10), ("unicode/utf8.acceptRanges", Rows.laid_unicode_utf8_acceptRanges), ("unicode/utf8.first", Rows.laid_unicode_utf8_first)]
/-- The list of the other rows. -/
def laid2 : List (String × DataW Unit) := [("unicode/utf8.acceptRanges", Rows.laid_unicode_utf8_acceptRanges), ("unicode/utf8.first", Rows.laid_unicode_utf8_first)]
theorem plain5 : (laid5.all fun x => x.2.handleName?.isNone) = true := by kernel_rfl
theorem plain2 : (laid2.all fun x => x.2.handleName?.isNone) = true := by kernel_rfl
theorem globT_of {W : World} (hs : W.ShapedOpen Tryz.prog) (h : laidMetH Tryz.prog laid5 W) : GlobT W := by
  rw [MakeChecks.laidMetH_plain _ _ _ plain5] at h
  refine ⟨⟨maxLen_of hs⟩, pow_of h ?_⟩
  have e : (laid5.filter fun x => x.1 == "internal/strconv.uint64pow10") = [("internal/strconv.uint64pow10", Rows.laid_internal_strconv_uint64pow10)] := by kernel_rfl
  rw [e, pow_cells]
theorem zip5a (os : Os) : (World.laidAll Tryz.prog os laid5).variablesZipB Tryz.prog = true := by kernel_rfl
theorem zip2a (os : Os) : (World.laidAll Tryz.prog os laid2).variablesZipB Tryz.prog = true := by kernel_rfl
theorem met5 (os : Os) (tape : Tape) (args : Array Value) : laidMetH Tryz.prog laid5 ((World.laidAll Tryz.prog os laid5).forCall tape ⟨#[], args, []⟩).memory := by
  rw [MakeChecks.laidMetH_plain _ _ _ plain5]
  exact laidMet_laidAll _ (by kernel_rfl) (by kernel_rfl)
theorem met2 (os : Os) (tape : Tape) (args : Array Value) : laidMetH Tryz.prog laid2 ((World.laidAll Tryz.prog os laid2).forCall tape ⟨#[], args, []⟩).memory := by
  rw [MakeChecks.laidMetH_plain _ _ _ plain2]
  exact laidMet_laidAll _ (by kernel_rfl) (by kernel_rfl)
theorem shaped5 (os : Os) : (World.laidAll Tryz.prog os laid5).Shaped Tryz.prog := World.shaped_of_ZipB (zip5a os) (by kernel_rfl)
theorem shaped2 (os : Os) : (World.laidAll Tryz.prog os laid2).Shaped Tryz.prog := World.shaped_of_ZipB (zip2a os) (by kernel_rfl)
theorem glob_of {W : World} (hs : W.ShapedOpen Tryz.prog) (_ : laidMetH Tryz.prog laid2 W) : Glob W := ⟨maxLen_of hs⟩
end Go.Proofs.YtaejmginhkbbhaaGreatDoor
