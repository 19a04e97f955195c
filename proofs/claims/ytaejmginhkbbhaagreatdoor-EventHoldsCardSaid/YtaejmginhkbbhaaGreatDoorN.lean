/- The seat's own program logic, sixth part: a region of open order, taken in an order of one's own: what yields one value in every world of a class, and leaves memory that lay as it lay, is taken as soon as it may come; what turns memory is taken where nothing else may come. Conditions: none; over any program. -/
import Derived.Test.YtaejmginhkbbhaaGreatDoorM
import Derived.StillTail
set_option linter.unusedSimpArgs false
set_option linter.unusedVariables false
set_option maxRecDepth 100000
set_option maxHeartbeats 1000000
namespace Go.Proofs.YtaejmginhkbbhaaGreatDoor
open Go Go.RowKit
open Go

theorem LetsOut_false : ¬ LetsOut (fun _ _ _ => False) := fun ⟨_, _, h⟩ => h
/-- Nothing but a normal end. -/
def bot : Exit → Act → World → Prop := fun _ _ _ => False
/-- What an operation does to the frame. -/
def Eff (o : Oper) (e : Act → Act) : Prop := (∃ u, e = fun a => a.put o.dst u) ∨ (∃ d : Deferred, e = fun a => ({ a with defers := d :: a.defers } : Act).put o.dst undef)
abbrev ValW := Oper → Act → World → ((Act → Act) → World → Prop) → Prop
/-- What the theory asks of 'one operation is carried out'. -/
structure OpW (V : ValW) : Prop where
  mono : ∀ {o : Oper} {a : Act} {w : World} {R R' : (Act → Act) → World → Prop}, (∀ e w, Eff o e → R e w → R' e w) → V o a w R → V o a w R'
  put : ∀ {ops : Array Oper} {o : Oper} {e : Act → Act} {oi : Oper} {a : Act} {w : World} {R : (Act → Act) → World → Prop}, (∀ cs b, o.op ≠ .select cs b) → Eff oi e → (∀ d, oi.dst = some d → d ∉ o.looksAt ops) →
    V o (e a) w R = V o a w R

section
variable {P : Program} {F : Fence} {n : Nat}
theorem put_swap (a : Act) (x y : Option Tmp) (v u : Value) (h : ∀ d, x = some d → y ≠ some d) : (a.put x v).put y u = (a.put y u).put x v := Act.put_comm a v u h
theorem Eff.exec {ops : Array Oper} {o oi : Oper} {e : Act → Act} (he : Eff oi e) (hs : ∀ cs b, o.op ≠ .select cs b) (h : ∀ d, oi.dst = some d → d ∉ o.looksAt ops) (a : Act) : execOp (e a).eval o = execOp a.eval o := by
  rcases he with ⟨u, rfl⟩ | ⟨d, rfl⟩
  · exact execOp_put (ops := ops) o hs a oi.dst u h
  · have := execOp_put (ops := ops) o hs ({ a with defers := d :: a.defers } : Act) oi.dst undef h
    exact this
theorem Eff.wanted {ops : Array Oper} {o oi : Oper} {e : Act → Act} (he : Eff oi e) (h : ∀ d, oi.dst = some d → d ∉ o.looksAt ops) (a : Act) : Region.wanted o (yielded ops (e a).tmps) = Region.wanted o (yielded ops a.tmps) := by
  rcases he with ⟨u, rfl⟩ | ⟨d, rfl⟩
  · exact wanted_put o a oi.dst u h
  · exact wanted_put o ({ a with defers := d :: a.defers } : Act) oi.dst undef h
theorem Eff.swap {o : Oper} {e : Act → Act} (he : Eff o e) {dst : Option Tmp} (h : ∀ d, dst = some d → o.dst ≠ some d) (a : Act) (v : Value) : e (a.put dst v) = (e a).put dst v := by
  rcases he with ⟨u, rfl⟩ | ⟨d, rfl⟩
  · exact put_swap a dst o.dst v u h
  · show (({ a.put dst v with defers := d :: (a.put dst v).defers } : Act).put o.dst undef) = _
    rw [Act.put_defers]
    exact put_swap _ dst o.dst v undef h

def VP (P : Program) : ValW := fun o a w R => match (execOp a.eval o).run P w with
  | .ok (.value v) w' => R (fun a => a.put o.dst v) w'
  | .ok .skip w' => R (fun a => a.put o.dst undef) w'
  | .ok (.defer d) w' => R (fun a => ({ a with defers := d :: a.defers } : Act).put o.dst undef) w'
  | .ok (.enter f args) w' => Calls P f args w' fun e w'' => match e with | .returned v => R (fun a => a.put o.dst v) w'' | _ => False
  | .ok (.row row args) w' => Rows P row args w' fun v w'' => R (fun a => a.put o.dst v) w''
  | _ => False
theorem opW_plain : OpW (VP P) where
  mono := by
    intro o a w R R' h hh
    unfold VP at *
    generalize (execOp a.eval o).run P w = r at *
    cases r with
    | ok nx w' =>
      cases nx with
      | value u => exact h _ _ (.inl ⟨_, rfl⟩) hh
      | skip => exact h _ _ (.inl ⟨_, rfl⟩) hh
      | defer d => exact h _ _ (.inr ⟨_, rfl⟩) hh
      | enter f args =>
        refine Calls.mono (R := _) hh ?_
        rintro e w'' he
        cases e with
        | returned u => exact h _ _ (.inl ⟨_, rfl⟩) he
        | panicked c => exact he
        | outgrown => exact he
      | row r args => exact Rows.mono hh fun u w'' he => h _ _ (.inl ⟨_, rfl⟩) he
      | _ => exact hh
    | halt x w' => cases x <;> exact hh
  put := by
    intro ops o e oi a w R hs he h1
    unfold VP
    rw [he.exec hs h1]
theorem vp_of_wp {o : Oper} {a : Act} {w : World} {K : Act → World → Prop} {Q : Exit → Act → World → Prop} (hQ : ∀ c a w, ¬ Q (.panic c) a w) (hQ2 : ¬ LetsOut Q) (h : o.wp P a w K Q) : VP P o a w (fun e w' => K (e a) w') := by
  unfold Oper.wp at h
  unfold VP
  generalize (execOp a.eval o).run P w = r at *
  cases r with
  | ok nx w' =>
    cases nx with
    | enter f args =>
      refine Calls.mono (R := _) h ?_
      rintro e w'' he
      cases e with
      | returned u => exact he
      | panicked c => exact hQ _ _ _ he
      | outgrown => exact hQ2 he
    | _ => exact h
  | halt x w' => cases x <;> first | exact h | exact (hQ _ _ _ h).elim
theorem wp_of_vp {o : Oper} {a : Act} {w : World} {K : Act → World → Prop} {Q : Exit → Act → World → Prop} (h : VP P o a w (fun e w' => K (e a) w')) : o.wp P a w K Q := by
  unfold VP at h
  unfold Oper.wp
  generalize (execOp a.eval o).run P w = r at *
  cases r with
  | ok nx w' =>
    cases nx with
    | enter f args =>
      refine Calls.mono (R := _) h ?_
      rintro e w'' he
      cases e with
      | returned u => exact he
      | panicked c => exact he.elim
      | outgrown => exact he.elim
    | _ => exact h
  | halt x w' => cases x <;> exact h.elim
end

/-! ### The theory -/
section
variable {V : ValW} {ops : Array Oper} {Q : Act → World → Prop}

def Stable (D : World → Prop) : Prop := ∀ w w', D w → Fr [] w w' → D w'
theorem Stable.true : Stable (fun _ => True) := fun _ _ _ _ => trivial
theorem Stable.st (S : List Nat) (w0 : World) (L : List Chunk) : Stable (fun w => St S w0 w L) := fun _ _ h hf => h.keep hf

def freeOp (o : Oper) : Bool := match o.op with | .move _ | .assign _ | .nilCheck _ | .fieldAddr .. | .pick .. | .extract .. => true | _ => false
/-- All that an operation waits for, directly or not. -/
def reachB (ops : Array Oper) : Nat → Nat → Nat → Bool
  | 0, _, _ => false
  | f + 1, j, i => match ops[j]? with | none => false | some o => (deps o).any fun d => d == i || reachB ops f d i
def sealB (ops : Array Oper) (listed : Array Bool) (j : Nat) : Bool :=
  (List.range ops.size).all fun i => !(listed.getD i false) || (match ops[i]? with | some o => freeOp o | none => true) || reachB ops ops.size j i

def Quiet1 (V : ValW) (D : World → Prop) (ops : Array Oper) (o : Oper) (a : Act) (v : Value) : Prop :=
  (Region.wanted o (yielded ops a.tmps) = true ∧ ∀ w, D w → V o a w (fun e w' => (e = fun a => a.put o.dst v) ∧ Fr [] w w')) ∨ (Region.wanted o (yielded ops a.tmps) = false ∧ v = undef)
def QuietD (V : ValW) (D : World → Prop) (ops : Array Oper) (o : Oper) (a : Act) (v : Value) : Prop :=
  Quiet1 V (fun _ => True) ops o a v ∨ (freeOp o = false ∧ Quiet1 V D ops o a v)

def stepM (V : ValW) (ops : Array Oper) (rec : (World → Prop) → Act → World → Prop) (D : World → Prop) (listed : Array Bool) (i : Nat) (a : Act) (w : World) : Prop :=
  ∃ o, ops[i]? = some o ∧
    ((∃ v, QuietD V D ops o a v ∧ rec D (a.put o.dst v) w) ∨
     (Region.wanted o (yielded ops a.tmps) = true ∧ ∀ w1, Fr [] w w1 → D w1 → V o a w1 (fun e w' => D w' ∧ rec D (e a) w')) ∨
     (Region.wanted o (yielded ops a.tmps) = true ∧ sealB ops listed i = true ∧ ∀ w1, Fr [] w w1 → D w1 → V o a w1 (fun e w' => ∃ D', Stable D' ∧ D' w' ∧ rec D' (e a) w')))

def anyM (V : ValW) (ops : Array Oper) (Q : Act → World → Prop) : Nat → Array Bool → (World → Prop) → Act → World → Prop
  | 0, listed, D, a, w => Region.ready .any ops listed = [] ∧ ∀ w', Fr [] w w' → D w' → Q a w'
  | fuel + 1, listed, D, a, w => (Region.ready .any ops listed = [] → ∀ w', Fr [] w w' → D w' → Q a w') ∧
    ∀ i ∈ Region.ready .any ops listed, stepM V ops (anyM V ops Q fuel (listed.setIfInBounds i true)) D listed i a w

theorem anyM_fr : ∀ (fuel : Nat) (listed : Array Bool) (D : World → Prop) (a : Act) (w w' : World), Fr [] w w' → anyM V ops Q fuel listed D a w → anyM V ops Q fuel listed D a w'
  | 0, listed, D, a, w, w', hf, h => ⟨h.1, fun w2 h2 hD => h.2 w2 (hf.trans h2) hD⟩
  | fuel + 1, listed, D, a, w, w', hf, h => by
    refine ⟨fun h0 w2 h2 hD => h.1 h0 w2 (hf.trans h2) hD, fun i hi => ?_⟩
    obtain ⟨o, ho, h1 | h1 | h1⟩ := h.2 i hi
    · obtain ⟨v, hq, hr⟩ := h1
      exact ⟨o, ho, .inl ⟨v, hq, anyM_fr fuel _ _ _ _ _ hf hr⟩⟩
    · exact ⟨o, ho, .inr (.inl ⟨h1.1, fun w1 hf1 hD => h1.2 w1 (hf.trans hf1) hD⟩)⟩
    · exact ⟨o, ho, .inr (.inr ⟨h1.1, h1.2.1, fun w1 hf1 hD => h1.2.2 w1 (hf.trans hf1) hD⟩)⟩

theorem Quiet1.put (hX : OpW V) {D : World → Prop} {oi oj : Oper} {e : Act → Act} {a : Act} {u : Value} (hs : ∀ cs b, oj.op ≠ .select cs b) (he : Eff oi e) (h1 : ∀ d, oi.dst = some d → d ∉ oj.looksAt ops) :
    Quiet1 V D ops oj (e a) u ↔ Quiet1 V D ops oj a u := by
  unfold Quiet1
  rw [he.wanted h1]
  simp only [hX.put (ops := ops) hs he h1]
theorem QuietD.put (hX : OpW V) {D : World → Prop} {oi oj : Oper} {e : Act → Act} {a : Act} {u : Value} (hs : ∀ cs b, oj.op ≠ .select cs b) (he : Eff oi e) (h1 : ∀ d, oi.dst = some d → d ∉ oj.looksAt ops) :
    QuietD V D ops oj (e a) u ↔ QuietD V D ops oj a u := by
  unfold QuietD
  rw [Quiet1.put hX hs he h1, Quiet1.put hX hs he h1]

theorem ready_iffM {j : Nat} {listed : Array Bool} : j ∈ Region.ready .any ops listed ↔ ∃ o, ops[j]? = some o ∧ listed.getD j true = false ∧ ∀ d ∈ deps o, listed.getD d false = true := ready_iff

/-- What is listed has all that it waits for listed. -/
def Closed (ops : Array Oper) (listed : Array Bool) : Prop := ∀ j o, ops[j]? = some o → listed.getD j false = true → ∀ d ∈ deps o, listed.getD d false = true
theorem Closed.set {listed : Array Bool} (h : Closed ops listed) {i : Nat} (hi : i ∈ Region.ready .any ops listed) : Closed ops (listed.setIfInBounds i true) := by
  obtain ⟨oi, hoi, _, hall⟩ := ready_iffM.1 hi
  intro j o hj hl d hd
  by_cases hij : i = j
  · subst hij
    have : o = oi := Option.some.inj (hj.symm.trans hoi)
    subst this
    exact getD_set_true (hall d hd)
  · rw [getD_set_ne false hij] at hl
    exact getD_set_true (h j o hj hl d hd)
theorem reach_listed {listed : Array Bool} (h : Closed ops listed) : ∀ (f j i : Nat), reachB ops f j i = true → (∀ o, ops[j]? = some o → ∀ d ∈ deps o, listed.getD d false = true) → listed.getD i false = true
  | 0, j, i, hr, _ => by cases hr
  | f + 1, j, i, hr, hj => by
    unfold reachB at hr
    cases ho : ops[j]? with
    | none => rw [ho] at hr; cases hr
    | some o =>
      rw [ho] at hr
      obtain ⟨d, hd, h2⟩ := List.any_eq_true.1 hr
      have hdl := hj o ho d hd
      simp only [Bool.or_eq_true, beq_iff_eq] at h2
      rcases h2 with rfl | h2
      · exact hdl
      · exact reach_listed h f d i h2 (fun o' ho' => h d o' ho' hdl)

theorem anyM_first (hX : OpW V) {i : Nat} {oi : Oper} {v : Value} (hi : ops[i]? = some oi) (hsel : ∀ (j : Nat) (o : Oper) cs b, ops[j]? = some o → o.op ≠ .select cs b) :
    ∀ (fuel : Nat) (listed : Array Bool) (D : World → Prop) (a : Act) (w : World), listed.size = ops.size → Closed ops listed →
      (∀ j oj, ops[j]? = some oj → j ≠ i → listed.getD j true = false → (∀ e ∈ oj.after, Region.binds .any e = true → e.on ≠ i) → oi.apart ops oj = true) →
      i ∈ Region.ready .any ops listed → QuietD V D ops oi a v →
      anyM V ops Q fuel (listed.setIfInBounds i true) D (a.put oi.dst v) w → anyM V ops Q (fuel + 1) listed D a w := by
  intro fuel
  induction fuel with
  | zero =>
    intro listed D a w hsz hcl _ hr hy H
    refine ⟨fun h => (by rw [h] at hr; cases hr), fun j hj => ?_⟩
    by_cases hji : j = i
    · subst hji; exact ⟨oi, hi, .inl ⟨v, hy, H⟩⟩
    · have := ready_mono hj hji
      rw [H.1] at this
      cases this
  | succ fuel ih =>
    intro listed D a w hsz hcl hfree hr hy H
    refine ⟨fun h => (by rw [h] at hr; cases hr), fun j hj => ?_⟩
    by_cases hji : j = i
    · subst hji; exact ⟨oi, hi, .inl ⟨v, hy, H⟩⟩
    · obtain ⟨oj, hoj, h1⟩ := H.2 j (ready_mono hj hji)
      obtain ⟨hjun, oj', hoj', hall⟩ := mem_ready.1 hj
      have : oj' = oj := Option.some.inj (hoj'.symm.trans hoj)
      subst this
      have hiun := (mem_ready.1 hr).1
      have hilt : i < ops.size := (Array.getElem?_eq_some_iff.1 hi).1
      have hnot : ∀ e ∈ oj'.after, Region.binds .any e = true → e.on ≠ i := fun e he hb heq => by
        have h1 := hall e he hb
        rw [heq, getD_both hiun] at h1
        cases h1
      have hap := hfree j oj' hoj hji hjun hnot
      obtain ⟨p1, p2, p3⟩ := Oper.apart_spec hap
      have hsi := fun cs b => hsel i oi cs b hi
      have hsj := fun cs b => hsel j oj' cs b hoj
      have ei : Eff oi (fun a => a.put oi.dst v) := .inl ⟨v, rfl⟩
      have hfree' : ∀ k ok, ops[k]? = some ok → k ≠ i → (listed.setIfInBounds j true).getD k true = false →
          (∀ e ∈ ok.after, Region.binds .any e = true → e.on ≠ i) → oi.apart ops ok = true := fun k ok hk hki hun hno => by
        refine hfree k ok hk hki ?_ hno
        by_cases hjk : j = k
        · subst hjk; exact hjun
        · rw [getD_set_ne true hjk] at hun; exact hun
      have hcl' := hcl.set hj
      have hr' := ready_mono hr (Ne.symm hji)
      have hsz' : (listed.setIfInBounds j true).size = ops.size := by simpa using hsz
      have hcomm : (listed.setIfInBounds i true).setIfInBounds j true = (listed.setIfInBounds j true).setIfInBounds i true := Array.setIfInBounds_comm _ _ (Ne.symm hji)
      rw [hcomm] at h1
      have hw : Region.wanted oj' (yielded ops (a.put oi.dst v).tmps) = Region.wanted oj' (yielded ops a.tmps) := ei.wanted p1 a
      have hV : ∀ w R, V oj' (a.put oi.dst v) w R = V oj' a w R := fun w R => hX.put (ops := ops) hsj ei p1
      have goOn : ∀ (D' : World → Prop) (e : Act → Act) (w' : World), Eff oj' e → QuietD V D' ops oi a v → anyM V ops Q fuel ((listed.setIfInBounds j true).setIfInBounds i true) D' (e (a.put oi.dst v)) w' →
          anyM V ops Q (fuel + 1) (listed.setIfInBounds j true) D' (e a) w' := by
        intro D' e w' he hq hh
        refine ih (listed.setIfInBounds j true) D' (e a) w' hsz' hcl' hfree' hr' ((QuietD.put hX hsi he p3).2 hq) ?_
        rw [he.swap p2] at hh
        exact hh
      refine ⟨oj', hoj, ?_⟩
      rcases h1 with ⟨u, hq, hr1⟩ | ⟨hw1, h1⟩ | ⟨hw1, hse, h1⟩
      · refine .inl ⟨u, (QuietD.put hX hsj ei p1).1 hq, ?_⟩
        exact goOn D (fun a => a.put oj'.dst u) w (.inl ⟨u, rfl⟩) hy hr1
      · refine .inr (.inl ⟨by rw [← hw]; exact hw1, fun w1 hf hD => ?_⟩)
        have h2 := h1 w1 hf hD
        rw [hV] at h2
        exact hX.mono (fun e w' he hk => ⟨hk.1, goOn D e w' he hy hk.2⟩) h2
      · by_cases hi2 : reachB ops ops.size j i = true
        · exfalso
          have := reach_listed hcl ops.size j i hi2 (fun o ho d hd => by
            have : o = oj' := Option.some.inj (ho.symm.trans hoj)
            subst this
            obtain ⟨e, he, rfl⟩ := List.mem_map.1 hd
            rw [List.mem_filter] at he
            exact hall e (by simpa using he.1) he.2)
          rw [getD_both hiun] at this
          cases this
        · have hse0 := List.all_eq_true.1 hse i (List.mem_range.2 hilt)
          have hli : (listed.setIfInBounds i true).getD i false = true := by
            simp [Array.getD, hsz, hilt]
          have hfi : freeOp oi = true := by
            simp only [hli, hi, Bool.not_true, Bool.false_or, Bool.or_eq_true] at hse0
            rcases hse0 with h | h
            · exact h
            · exact absurd h hi2
          have hyT : Quiet1 V (fun _ => True) ops oi a v := by
            rcases hy with h | h
            · exact h
            · rw [hfi] at h; cases h.1
          refine .inr (.inr ⟨by rw [← hw]; exact hw1, ?_, fun w1 hf hD => ?_⟩)
          · refine List.all_eq_true.2 fun k hk => ?_
            have := List.all_eq_true.1 hse k hk
            by_cases hki : k = i
            · subst hki
              rw [getD_both hiun]; rfl
            · rw [getD_set_ne false (Ne.symm hki)] at this
              exact this
          · have h2 := h1 w1 hf hD
            rw [hV] at h2
            exact hX.mono (fun e w' he hk => by
              obtain ⟨D', e1, e2, e3⟩ := hk
              exact ⟨D', e1, e2, goOn D' e w' he (.inl hyT) e3⟩) h2

/-- Down to the machine's own orders. -/
theorem anyG_of_anyM {Stp : Nat → (Act → World → Prop) → Act → World → Prop}
    (hquiet : ∀ i o v D K a w, ops[i]? = some o → Quiet1 V D ops o a v → D w → (∀ w', Fr [] w w' → K (a.put o.dst v) w') → Stp i K a w)
    (hact : ∀ i o K a w, ops[i]? = some o → Region.wanted o (yielded ops a.tmps) = true → V o a w (fun e w' => K (e a) w') → Stp i K a w) (hX : OpW V) :
    ∀ (fuel : Nat) (listed : Array Bool) (D : World → Prop) (a : Act) (w : World), Stable D → D w → anyM V ops Q fuel listed D a w → anyG ops Q Stp fuel listed a w
  | 0, listed, D, a, w, hS, hD, h => ⟨h.1, h.2 w (Fr.refl _ _) hD⟩
  | fuel + 1, listed, D, a, w, hS, hD, h => by
    refine ⟨fun h0 => h.1 h0 w (Fr.refl _ _) hD, fun i hi => ?_⟩
    obtain ⟨o, ho, h1 | h1 | h1⟩ := h.2 i hi
    · obtain ⟨v, hq, hr⟩ := h1
      have hk : ∀ w', Fr [] w w' → anyG ops Q Stp fuel (listed.setIfInBounds i true) (a.put o.dst v) w' := fun w' hf => anyG_of_anyM hquiet hact hX fuel _ D _ _ hS (hS _ _ hD hf) (anyM_fr fuel _ _ _ _ _ hf hr)
      rcases hq with hq | ⟨_, hq⟩
      · exact hquiet i o v _ _ a w ho hq trivial hk
      · exact hquiet i o v _ _ a w ho hq hD hk
    · exact hact i o _ a w ho h1.1 (hX.mono (fun e w' he hk => anyG_of_anyM hquiet hact hX fuel _ D _ _ hS hk.1 hk.2) (h1.2 w (Fr.refl _ _) hD))
    · exact hact i o _ a w ho h1.1 (hX.mono (fun e w' he hk => by
        obtain ⟨D', e1, e2, e3⟩ := hk
        exact anyG_of_anyM hquiet hact hX fuel _ D' _ _ e1 e2 e3) (h1.2.2 w (Fr.refl _ _) hD))
end

/-! ### The steps -/
section
variable {V : ValW} {ops : Array Oper} {Q : Act → World → Prop}

/-- One operation. -/
def One (V : ValW) (ops : Array Oper) (o : Oper) (a : Act) (w : World) (R : Act → World → Prop) : Prop :=
  (Region.wanted o (yielded ops a.tmps) = true ∧ V o a w (fun e w' => R (e a) w')) ∨ (Region.wanted o (yielded ops a.tmps) = false ∧ R (a.put o.dst undef) w)
/-- What is left of a region. -/
def Mix (V : ValW) (ops : Array Oper) (Q : Act → World → Prop) (fuel : Nat) (listed : Array Bool) (D : World → Prop) (a : Act) (w : World) : Prop :=
  listed.size = ops.size → Closed ops listed → Region.noSelect ops = true → Stable D → D w → anyM V ops Q fuel listed D a w
def takeB (ops : Array Oper) (listed : Array Bool) (i : Nat) : Bool := (Region.ready .any ops listed).contains i && Region.free .any ops listed i
def dstOk (o : Oper) (a : Act) : Bool := match o.dst with | some k => decide (k < a.tmps.size) | none => true

theorem One.quiet {D : World → Prop} {o : Oper} {a A : Act} (hX : OpW V) (hd : dstOk o a = true) (hA : A.defers = a.defers) (w0 : World) (hw0 : D w0) (hq : ∀ w, D w → One V ops o a w (fun a' w' => a' = A ∧ Fr [] w w')) :
    ∃ v, A = a.put o.dst v ∧ Quiet1 V D ops o a v ∨ (Region.wanted o (yielded ops a.tmps) = true ∧ ∀ w, D w → V o a w (fun _ _ => False)) := by
  by_cases hw : Region.wanted o (yielded ops a.tmps) = true
  · by_cases hAe : ∃ v, A = a.put o.dst v
    · obtain ⟨v0, hv0⟩ := hAe
      refine ⟨v0, .inl ⟨hv0, .inl ⟨hw, fun w hD => ?_⟩⟩⟩
      rcases hq w hD with ⟨_, h⟩ | ⟨h, _⟩
      · refine hX.mono (fun e w' he hk => ⟨?_, hk.2⟩) h
        rcases he with ⟨u, rfl⟩ | ⟨d, rfl⟩
        · have h1 : a.put o.dst u = a.put o.dst v0 := hk.1.trans hv0
          funext b
          cases hdst : o.dst with
          | none => rfl
          | some k =>
            have hk2 : k < a.tmps.size := by simpa [dstOk, hdst] using hd
            rw [hdst] at h1
            have h2 := congrArg (fun x : Act => x.tmps.getD k undef) h1
            simp [Act.put, Array.getD, hk2] at h2
            rw [h2]
        · exfalso
          have := congrArg Act.defers hk.1
          have h3 : ((({ a with defers := d :: a.defers } : Act).put o.dst undef)).defers = d :: a.defers := by cases o.dst <;> rfl
          rw [h3, hA] at this
          have := congrArg List.length this
          simp at this
      · rw [hw] at h; cases h
    · refine ⟨undef, .inr ⟨hw, fun w hD => ?_⟩⟩
      rcases hq w hD with ⟨_, h⟩ | ⟨h, _⟩
      · refine hX.mono (fun e w' he hk => ?_) h
        rcases he with ⟨u, rfl⟩ | ⟨d, rfl⟩
        · exact hAe ⟨u, hk.1.symm⟩
        · have := congrArg Act.defers hk.1
          have h3 : ((({ a with defers := d :: a.defers } : Act).put o.dst undef)).defers = d :: a.defers := by cases o.dst <;> rfl
          rw [h3, hA] at this
          have := congrArg List.length this
          simp at this
      · rw [hw] at h; cases h
  · have hw' : Region.wanted o (yielded ops a.tmps) = false := by simpa using hw
    rcases hq w0 hw0 with ⟨h, _⟩ | ⟨_, h⟩
    · exact absurd h hw
    · exact ⟨undef, .inl ⟨h.1.symm, .inr ⟨hw', rfl⟩⟩⟩

theorem Mix.step {fuel : Nat} {listed : Array Bool} {D : World → Prop} {a : Act} {w : World} (h : Region.ready .any ops listed ≠ [] ∧ ∀ i ∈ Region.ready .any ops listed, stepM V ops (anyM V ops Q fuel (listed.setIfInBounds i true)) D listed i a w) : anyM V ops Q (fuel + 1) listed D a w :=
  ⟨fun h0 => absurd h0 h.1, h.2⟩
theorem mixQ (hX : OpW V) (i : Nat) {o : Oper} {A : Act} {fuel : Nat} {listed : Array Bool} {D : World → Prop} {a : Act} {w : World} (ho : ops[i]? = some o) (ht : takeB ops listed i = true) (hf : freeOp o = false) (hd : dstOk o a = true) (hA : A.defers = a.defers)
    (hsome : ∀ w, V o a w (fun _ _ => False) → False)
    (hq : ∀ w, D w → One V ops o a w (fun a' w' => a' = A ∧ Fr [] w w')) (h : Mix V ops Q fuel (listed.setIfInBounds i true) D A w) : Mix V ops Q (fuel + 1) listed D a w := by
  intro hsz hcl hns hS hD
  simp only [takeB, Bool.and_eq_true] at ht
  have hr : i ∈ Region.ready .any ops listed := by simpa using ht.1
  obtain ⟨v, ⟨rfl, hy⟩ | ⟨_, hy⟩⟩ := One.quiet hX hd hA w hD hq
  · exact anyM_first hX ho (Region.noSelect_spec hns) fuel listed D a w hsz hcl (Region.free_spec ho ht.2) hr (.inr ⟨hf, hy⟩) (h (by simpa using hsz) (hcl.set hr) hns hS hD)
  · exact (hsome w (hy w hD)).elim
theorem mixF (hX : OpW V) (i : Nat) {o : Oper} {A : Act} {fuel : Nat} {listed : Array Bool} {D : World → Prop} {a : Act} {w : World} (ho : ops[i]? = some o) (ht : takeB ops listed i = true) (hd : dstOk o a = true) (hA : A.defers = a.defers)
    (hsome : ∀ w, V o a w (fun _ _ => False) → False)
    (hq : ∀ w, One V ops o a w (fun a' w' => a' = A ∧ Fr [] w w')) (h : Mix V ops Q fuel (listed.setIfInBounds i true) D A w) : Mix V ops Q (fuel + 1) listed D a w := by
  intro hsz hcl hns hS hD
  simp only [takeB, Bool.and_eq_true] at ht
  have hr : i ∈ Region.ready .any ops listed := by simpa using ht.1
  obtain ⟨v, ⟨rfl, hy⟩ | ⟨_, hy⟩⟩ := One.quiet (D := fun _ => True) hX hd hA w trivial (fun w _ => hq w)
  · exact anyM_first hX ho (Region.noSelect_spec hns) fuel listed D a w hsz hcl (Region.free_spec ho ht.2) hr (.inl hy) (h (by simpa using hsz) (hcl.set hr) hns hS hD)
  · exact (hsome w (hy w trivial)).elim
/-- What turns memory, where these may come: each. -/
theorem mixA (hX : OpW V) (is : List Nat) {fuel : Nat} {listed : Array Bool} {D : World → Prop} {a : Act} {w : World} (hr : Region.ready .any ops listed = is) (hne : is ≠ [])
    (h : D w → ∀ i ∈ is, ∃ o, ops[i]? = some o ∧ ∀ w1, Fr [] w w1 → D w1 → One V ops o a w1 (fun a' w' => D w' ∧ Mix V ops Q fuel (listed.setIfInBounds i true) D a' w')) : Mix V ops Q (fuel + 1) listed D a w := by
  intro hsz hcl hns hS hD
  refine Mix.step ⟨by rw [hr]; exact hne, fun i hi => ?_⟩
  have hi' : i ∈ is := hr ▸ hi
  obtain ⟨o, ho, h1⟩ := h hD i hi'
  have hsz' : (listed.setIfInBounds i true).size = ops.size := by simpa using hsz
  rcases h1 w (Fr.refl _ _) hD with ⟨hw, _⟩ | ⟨hw, hk⟩
  · refine ⟨o, ho, .inr (.inl ⟨hw, fun w1 hf hD1 => ?_⟩)⟩
    rcases h1 w1 hf hD1 with ⟨_, h2⟩ | ⟨h2, _⟩
    · exact hX.mono (fun e w' _ hk => ⟨hk.1, hk.2 hsz' (hcl.set hi) hns hS hk.1⟩) h2
    · rw [hw] at h2; cases h2
  · exact ⟨o, ho, .inl ⟨undef, .inl (.inr ⟨hw, rfl⟩), hk.2 hsz' (hcl.set hi) hns hS hD⟩⟩
/-- What turns memory that has been read, where all that read it have come. -/
theorem mixS (hX : OpW V) (i : Nat) {o : Oper} {fuel : Nat} {listed : Array Bool} {D : World → Prop} {a : Act} {w : World} (hr : Region.ready .any ops listed = [i]) (ho : ops[i]? = some o) (hse : sealB ops listed i = true)
    (h : D w → ∀ w1, Fr [] w w1 → D w1 → One V ops o a w1 (fun a' w' => ∃ D', Stable D' ∧ D' w' ∧ Mix V ops Q fuel (listed.setIfInBounds i true) D' a' w')) (hw : Region.wanted o (yielded ops a.tmps) = true) : Mix V ops Q (fuel + 1) listed D a w := by
  intro hsz hcl hns hS hD
  refine Mix.step ⟨by rw [hr]; simp, fun j hj => ?_⟩
  have hj' : j = i := by rw [hr] at hj; simpa using hj
  subst hj'
  have hsz' : (listed.setIfInBounds j true).size = ops.size := by simpa using hsz
  refine ⟨o, ho, .inr (.inr ⟨hw, hse, fun w1 hf hD1 => ?_⟩)⟩
  rcases h hD w1 hf hD1 with ⟨_, h2⟩ | ⟨h2, _⟩
  · exact hX.mono (fun e w' _ hk => by
      obtain ⟨D', e1, e2, e3⟩ := hk
      exact ⟨D', e1, e2, e3 hsz' (hcl.set hj) hns e1 e2⟩) h2
  · rw [hw] at h2; cases h2
theorem mixE {fuel : Nat} {listed : Array Bool} {D : World → Prop} {a : Act} {w : World} (hr : Region.ready .any ops listed = []) (h : ∀ w', Fr [] w w' → D w' → Q a w') : Mix V ops Q fuel listed D a w := by
  intro hsz hcl hns hS hD
  cases fuel with
  | zero => exact ⟨hr, h⟩
  | succ fuel => exact ⟨fun _ => h, fun i hi => by rw [hr] at hi; cases hi⟩
theorem closed_none (n : Nat) : Closed ops (Array.replicate n false) := by
  intro j o hj hl
  rw [getD_replicate_false] at hl
  cases hl
end

section
variable {P : Program} {ops : Array Oper} {Q : Exit → Act → World → Prop} {a : Act} {w : World} {id : Nat}
/-- A normal end alone. -/
def onlyN (R : Act → World → Prop) : Exit → Act → World → Prop
  | .normal, a, w => R a w
  | _, _, _ => False
theorem onlyN_let (R : Act → World → Prop) : ¬ LetsOut (onlyN R) := fun ⟨_, _, h⟩ => h
theorem one_of_list {o : Oper} {R : Act → World → Prop} (h : wpList P ops (onlyN R) [o] a w) : One (VP P) ops o a w R := by
  unfold wpList at h
  by_cases hw : Region.wanted o (yielded ops a.tmps) = true
  · rw [if_pos hw] at h
    rcases h with h | ⟨_, h⟩
    · exact .inl ⟨hw, vp_of_wp (fun c a w h => h) (onlyN_let R) h⟩
    · exact (onlyN_let R h).elim
  · rw [if_neg hw] at h
    exact .inr ⟨by simpa using hw, h⟩
theorem vp_some {o : Oper} {a : Act} {w : World} (hh : VP P o a w (fun _ _ => False)) : False := by
  unfold VP at hh
  generalize (execOp a.eval o).run P w = r at *
  cases r with
  | ok nx w' =>
    cases nx with
    | enter f args =>
      obtain ⟨e, w'', fr, hR, _⟩ := (show Calls P f args w' _ from hh) []
      cases e <;> exact hR.elim
    | row r args =>
      obtain ⟨v, w'', hR, _⟩ := (show Rows P r args w' _ from hh) default []
      exact hR.elim
    | _ => exact hh.elim
  | halt x w' => cases x <;> exact hh.elim

theorem St.sub {S : List Nat} {w W : World} {L L' : List Chunk} (h : St S w W L) (hs : L'.Sublist L) : St S w W L' := ⟨h.fr, h.sep.sublist hs, fun c hc => h.ok c (hs.subset hc)⟩
theorem mix_start (hm : P.follows .mixedOrders = true) {l : List Oper} (hns : Region.noSelect l.toArray = true) (D : World → Prop) (hS : Stable D) (hD : D w.drew)
    (h : Mix (VP P) l.toArray (Q .normal) l.length (Array.replicate l.length false) D a w.drew) : (Code.region id l.toArray true).wp P Q a w := by
  refine wp_region_any hm ?_
  rw [wpAny_eq]
  have h1 := h (by simp) (closed_none _) hns hS hD
  have h2 := anyG_of_anyM (V := VP P) (Stp := wpOp P l.toArray Q) (fun i o v D K a w ho hq hDw hk => ?_) (fun i o K a w ho hw hv => ?_) opW_plain l.length _ D a w.drew hS hD h1
  · simpa using h2
  · unfold wpOp
    rw [ho]
    rcases hq with ⟨hw, hq⟩ | ⟨hw, rfl⟩
    · simp only [hw, if_true]
      exact .inl (wp_of_vp (opW_plain.mono (fun e w' _ hk' => by rw [hk'.1]; exact hk w' hk'.2) (hq w hDw)))
    · simp only [hw]
      exact hk w (Fr.refl _ _)
  · unfold wpOp
    rw [ho]
    simp only [hw, if_true]
    exact .inl (wp_of_vp hv)
theorem mix_q (i : Nat) {l : List Oper} {o : Oper} {A : Act} {Q : Act → World → Prop} {fuel : Nat} {listed : Array Bool} {D : World → Prop} (ho : l[i]? = some o) (ht : takeB l.toArray listed i = true) (hf : freeOp o = false) (hd : dstOk o a = true)
    (hq : ∀ w, D w → wpList P l.toArray (onlyN fun a' w' => a' = A ∧ Fr [] w w') [o] a w) (hA : A.defers = a.defers) (h : Mix (VP P) l.toArray Q fuel (listed.setIfInBounds i true) D A w) : Mix (VP P) l.toArray Q (fuel + 1) listed D a w :=
  mixQ opW_plain i (by simpa using ho) ht hf hd hA (fun _ => vp_some) (fun w hw => one_of_list (hq w hw)) h
theorem mix_f (i : Nat) {l : List Oper} {o : Oper} {A : Act} {Q : Act → World → Prop} {fuel : Nat} {listed : Array Bool} {D : World → Prop} (ho : l[i]? = some o) (ht : takeB l.toArray listed i = true) (hd : dstOk o a = true)
    (hq : ∀ w, wpList P l.toArray (onlyN fun a' w' => a' = A ∧ Fr [] w w') [o] a w) (hA : A.defers = a.defers) (h : Mix (VP P) l.toArray Q fuel (listed.setIfInBounds i true) D A w) : Mix (VP P) l.toArray Q (fuel + 1) listed D a w :=
  mixF opW_plain i (by simpa using ho) ht hd hA (fun _ => vp_some) (fun w => one_of_list (hq w)) h
theorem mix_a (i : Nat) {l : List Oper} {o : Oper} {Q : Act → World → Prop} {fuel : Nat} {listed : Array Bool} {D : World → Prop} (hr : Region.ready .any l.toArray listed = [i]) (ho : l[i]? = some o)
    (h : D w → ∀ w1, Fr [] w w1 → D w1 → wpList P l.toArray (onlyN fun a' w' => D w' ∧ Mix (VP P) l.toArray Q fuel (listed.setIfInBounds i true) D a' w') [o] a w1) : Mix (VP P) l.toArray Q (fuel + 1) listed D a w :=
  mixA opW_plain [i] hr (by simp) (fun hD j hj => by
    have hj' : j = i := by simpa using hj
    subst hj'
    exact ⟨o, by simpa using ho, fun w1 hf hD1 => one_of_list (h hD w1 hf hD1)⟩)
theorem mix_2 (i j : Nat) {l : List Oper} {o p : Oper} {Q : Act → World → Prop} {fuel : Nat} {listed : Array Bool} {D : World → Prop} (hr : Region.ready .any l.toArray listed = [i, j]) (ho : l[i]? = some o) (hp : l[j]? = some p)
    (h : D w → ∀ w1, Fr [] w w1 → D w1 → wpList P l.toArray (onlyN fun a' w' => D w' ∧ Mix (VP P) l.toArray Q fuel (listed.setIfInBounds i true) D a' w') [o] a w1)
    (h2 : D w → ∀ w1, Fr [] w w1 → D w1 → wpList P l.toArray (onlyN fun a' w' => D w' ∧ Mix (VP P) l.toArray Q fuel (listed.setIfInBounds j true) D a' w') [p] a w1) : Mix (VP P) l.toArray Q (fuel + 1) listed D a w :=
  mixA opW_plain [i, j] hr (by simp) (fun hD k hk => by
    have hk' : k = i ∨ k = j := by simpa using hk
    rcases hk' with rfl | rfl
    · exact ⟨o, by simpa using ho, fun w1 hf hD1 => one_of_list (h hD w1 hf hD1)⟩
    · exact ⟨p, by simpa using hp, fun w1 hf hD1 => one_of_list (h2 hD w1 hf hD1)⟩)
theorem mix_s (i : Nat) {l : List Oper} {o : Oper} {Q : Act → World → Prop} {fuel : Nat} {listed : Array Bool} {D : World → Prop} (hr : Region.ready .any l.toArray listed = [i]) (ho : l[i]? = some o) (hse : sealB l.toArray listed i = true) (hw : Region.wanted o (yielded l.toArray a.tmps) = true)
    (h : D w → ∀ w1, Fr [] w w1 → D w1 → wpList P l.toArray (onlyN fun a' w' => ∃ D', Stable D' ∧ D' w' ∧ Mix (VP P) l.toArray Q fuel (listed.setIfInBounds i true) D' a' w') [o] a w1) : Mix (VP P) l.toArray Q (fuel + 1) listed D a w :=
  mixS opW_plain i hr (by simpa using ho) hse (fun hD w1 hf hD1 => one_of_list (h hD w1 hf hD1)) hw
end

section
variable {S : List Nat} {w W W' : World} {L L' : List Chunk}
theorem RdS.full {size : Nat} {A : Option Addr} {n c : Nat} {xs : List Value} (h : RdS W size (.slice A n c) n xs) : RdS W size (.slice A n n) n xs := by
  obtain ⟨h1, A', c', e, hc, h2⟩ := h
  cases e
  exact ⟨h1, A, n, rfl, Nat.le_refl _, h2⟩
/-- Behind append onto a full slice: the slice that is read. -/
theorem St.grewRd {e : TypeId} {size n m cp : Nat} {A : Option Addr} {v' : Value} {xs0 xs : List Value} (h : St S w W L) (hu : Upd L (rdS size (.slice A n cp) n xs0) (rdS size v' (n + m) xs) L') (hf : Fr [] W W') (hg : Grew W W' e size (.slice A n n) v' n m xs) : St S w W' L' := by
  refine h.step hu (hf.mono (by simp)) hg.1 (fun b hb => ?_)
  have hb' : v'.ownBlock = some b := by
    have : b ∈ v'.ownBlock.toList := hb
    simpa using this
  rcases hg.2 with ⟨rfl, rfl, rfl⟩ | ⟨hm, hv, ho⟩
  · have hb2 : b ∈ (rdS size (.slice A n cp) n xs0).fp := by
      show b ∈ (Value.ownBlock (.slice A n cp)).toList
      cases A with
      | none => simp [Value.ownBlock] at hb'
      | some ad => simp [Value.ownBlock] at hb' ⊢; exact hb'.symm
    exact ⟨((h.ok _ hu.mem).2 b hb2).1, .inl hb2⟩
  · rw [hv] at hb'
    cases hb'
    exact ⟨(ho.lt _ hv).2, .inr (Nat.le_refl _)⟩
end

/-! ### Parts of a slice that is read -/
section
variable {P : Program} {ops : Array Oper} {Q : Exit → Act → World → Prop} {a : Act} {S : List Nat} {w W : World} {L L' : List Chunk} {rest : List Oper}
  {dst : Option Tmp} {ty : TypeId} {pos : String} {after : Array Edge} {F : Fence} {fn : Nat}
theorem RdS.part {size n c l h : Nat} {A : Option Addr} {xs : List Value} (hr : RdS W size (.slice A n c) n xs) (h1 : l ≤ h) (h2 : h ≤ n) : RdS W size (sliced A l h c size) (h - l) ((xs.drop (l * size)).take ((h - l) * size)) := by
  obtain ⟨hl, A', c', e, hc, hx⟩ := hr
  cases e
  have hlen : ((xs.drop (l * size)).take ((h - l) * size)).length = (h - l) * size := by
    rw [List.length_take, List.length_drop, hl, ← Nat.sub_mul]
    exact Nat.min_eq_left (Nat.mul_le_mul_right _ (by omega))
  have hne : (xs.drop (l * size)).take ((h - l) * size) ≠ [] → xs ≠ [] := fun h e => by rw [e] at h; simp at h
  cases A with
  | none =>
    refine ⟨hlen, none, c - l, by simp [sliced], by omega, fun hx' => ?_⟩
    obtain ⟨b, o, e, _⟩ := hx (hne hx')
    cases e
  | some ad =>
    refine ⟨hlen, some (if c = l then ad else ad.add (l * size)), c - l, by simp only [sliced]; split <;> rfl, by omega, fun hx' => ?_⟩
    obtain ⟨b, o, e, hrd⟩ := hx (hne hx')
    cases e
    have hlt : l < h := by
      rcases Nat.lt_or_ge l h with h' | h'
      · exact h'
      · exfalso; apply hx'; rw [show h - l = 0 from by omega, Nat.zero_mul]; rfl
    rw [if_neg (by omega)]
    exact ⟨b, o + l * size, by rw [addr_add], (hrd.drop _).take _⟩
theorem sliced_block {size n c l h : Nat} {A : Option Addr} : (sliced A l h c size).ownBlock = Value.ownBlock (.slice A n c) := by
  cases A with
  | none => simp [sliced, Value.ownBlock]
  | some ad => simp only [sliced]; split <;> simp [Value.ownBlock, Addr.add]; split <;> rfl
theorem run_size {e : TypeId} {agg : Bool} {size : Nat} [h : Sz P e agg size] (W : World) : (sizeOf e).run P W = .ok size W := by
  have hs := h.size
  cases hi : P.info? e with
  | none => rw [hi] at hs; cases hs
  | some i =>
    rw [hi] at hs
    have : i.size = size := by simpa using hs
    simp [sizeOf, typeInfo, hi, this]
theorem l_sliceL {t e : TypeId} [he : El P t e] {agg : Bool} {size : Nat} [Sz P e agg size] {x lo : Operand} {k : IntKind} {A : Option Addr} {n c l : Nat} {xs : List Value} (hx : a.eval x = .slice A n c) (hlo : a.eval lo = .int k (l : Int)) (hl : l ≤ n)
    (hr : RdS W size (.slice A n c) n xs) (hk : ∀ v, RdS W size v (n - l) (xs.drop (l * size)) → v.ownBlock = Value.ownBlock (.slice A n c) → wpList P ops Q rest (a.put dst v) W) :
    wpList P ops Q (⟨dst, .slice t x (some lo) none none, ty, pos, after, none⟩ :: rest) a W := by
  have hel : P.elem t = e := by simp [Program.elem, he.el]
  have ht : P.underlying t = some (.slice (P.elem t)) := by rw [hel]; exact he.el
  have hp := hr.part (l := l) (h := n) hl (Nat.le_refl _)
  rw [List.take_of_length_le (by rw [List.length_drop, hr.1, ← Nat.sub_mul]; exact Nat.le_refl _)] at hp
  refine wpList_val rfl ?_ (hk _ hp sliced_block)
  have e1 := run_sliceAt_slice (P := P) W t (.slice A n c) (some (.int k (l : Int))) none none ht
  rw [run_slice_l (P := P) W t A n c ht k l (by omega) (by omega), hel, run_size (P := P) (e := e) (size := size)] at e1
  simp [execOp, hx, hlo, e1]
/-- A slice that is read has been cut. -/
theorem St.recut {size n n' : Nat} {v v' : Value} {xs xs' : List Value} (h : St S w W L) (hu : Upd L (rdS size v n xs) (rdS size v' n' xs') L') (hr : RdS W size v' n' xs') (hb : v'.ownBlock = v.ownBlock) : St S w W L' := by
  refine h.step hu (Fr.refl _ _) hr (fun b hb' => ?_)
  have hb2 : b ∈ (rdS size v n xs).fp := by
    show b ∈ v.ownBlock.toList
    rw [← hb]; exact hb'
  exact ⟨((h.ok _ hu.mem).2 b hb2).1, .inl hb2⟩
end

theorem splice_nil (cs : List Value) : splice cs 0 [] = cs := by cases cs <;> rfl

/-! ### Inside a fence -/
section
variable {P : Program} {F : Fence} {n : Nat} {ops : Array Oper} {Q : Exit → Act → World → Prop} {a : Act} {w : World} {id : Nat}
theorem Eff.semAt {ops : Array Oper} {o oi : Oper} {e : Act → Act} (he : Eff oi e) (hs : ∀ cs b, o.op ≠ .select cs b) (h : ∀ d, oi.dst = some d → d ∉ o.looksAt ops) (ro : Option Nat) (hd : ∀ c, o.op ≠ .defer c) (a : Act) : o.semAt ro (e a).eval = o.semAt ro a.eval := by
  rw [Oper.semAt_eq _ _ _ hd, Oper.semAt_eq _ _ _ hd, he.exec hs h]
/-- One operation inside a fence; of a defer statement nothing is said. -/
def VI (F : Fence) (n : Nat) (P : Program) : ValW := fun o a w R => (∀ c, o.op ≠ .defer c) ∧ (match (execOp a.eval o).run P w with
  | .ok (.value v) w' => R (fun a => a.put o.dst v) w'
  | .ok .skip w' => R (fun a => a.put o.dst undef) w'
  | .ok (.defer d) w' => R (fun a => ({ a with defers := d :: a.defers } : Act).put o.dst undef) w'
  | .ok (.enter f args) w' => (F.depth.isSome = true → 1 ≤ n) ∧ CallsIn F (n - 1) P f args w' fun e w'' => match e with | .returned v => R (fun a => a.put o.dst v) w'' | _ => False
  | .ok (.row row args) w' => (F.depth.isSome = true → 1 ≤ n) ∧ RowsIn F (n - 1) P row args w' fun v w'' => R (fun a => a.put o.dst v) w''
  | .ok (.round l f tmps assign body) w' => (F.depth.isSome = true → 1 ≤ n) ∧ RoundIn F (n - 1) P l f tmps assign body w' fun e w'' => match e with | .returned v => R (fun a => a.put o.dst v) w'' | _ => False
  | _ => False)
theorem opW_fenced : OpW (VI F n P) where
  mono := by
    intro o a w R R' h hh
    unfold VI at *
    refine ⟨hh.1, ?_⟩
    have hh := hh.2
    generalize (execOp a.eval o).run P w = r at *
    cases r with
    | ok nx w' =>
      cases nx with
      | value u => exact h _ _ (.inl ⟨_, rfl⟩) hh
      | skip => exact h _ _ (.inl ⟨_, rfl⟩) hh
      | defer d => exact h _ _ (.inr ⟨_, rfl⟩) hh
      | enter f args =>
        refine ⟨hh.1, CallsIn.mono hh.2 ?_⟩
        rintro e w'' he
        cases e with
        | returned u => exact h _ _ (.inl ⟨_, rfl⟩) he
        | panicked c => exact he
        | outgrown => exact he
      | round l f tmps assign body =>
        refine ⟨hh.1, RoundIn.mono hh.2 ?_⟩
        rintro e w'' he
        cases e with
        | returned u => exact h _ _ (.inl ⟨_, rfl⟩) he
        | panicked c => exact he
        | outgrown => exact he
      | row r args => exact ⟨hh.1, RowsIn.mono hh.2 fun u w'' he => h _ _ (.inl ⟨_, rfl⟩) he⟩
      | _ => exact hh
    | halt x w' => cases x <;> exact hh
  put := by
    intro ops o e oi a w R hs he h1
    unfold VI
    rw [he.exec hs h1]
theorem vi_of_wpIn {o : Oper} {K : Act → World → Prop} (hd : ∀ c, o.op ≠ .defer c) (hQ : ∀ c a w, ¬ Q (.panic c) a w) (hQ2 : ¬ LetsOut Q) (h : o.wpIn F n P a w K Q) : VI F n P o a w (fun e w' => K (e a) w') := by
  unfold Oper.wpIn at h
  have h := h.2
  rw [Oper.semAt_eq _ _ _ hd] at h
  unfold VI
  refine ⟨hd, ?_⟩
  generalize (execOp a.eval o).run P w = r at *
  cases r with
  | ok nx w' =>
    cases nx with
    | enter f args =>
      refine ⟨h.1, CallsIn.mono h.2 ?_⟩
      rintro e w'' he
      cases e with
      | returned u => exact he
      | panicked c => exact hQ _ _ _ he
      | outgrown => exact hQ2 he
    | round l f tmps assign body =>
      refine ⟨h.1, RoundIn.mono h.2 ?_⟩
      rintro e w'' he
      cases e with
      | returned u => exact he
      | panicked c => exact hQ _ _ _ he
      | outgrown => exact hQ2 he
    | _ => exact h
  | halt x w' => cases x <;> first | exact h | exact (hQ _ _ _ h).elim
theorem wpIn_of_vi (hF : ∀ f, F.fn f) {o : Oper} {K : Act → World → Prop} (h : VI F n P o a w (fun e w' => K (e a) w')) : o.wpIn F n P a w K Q := by
  unfold VI at h
  unfold Oper.wpIn
  refine ⟨fun f _ => hF f, ?_⟩
  rw [Oper.semAt_eq _ _ _ h.1]
  have h := h.2
  generalize (execOp a.eval o).run P w = r at *
  cases r with
  | ok nx w' =>
    cases nx with
    | enter f args =>
      refine ⟨h.1, CallsIn.mono h.2 ?_⟩
      rintro e w'' he
      cases e with
      | returned u => exact he
      | panicked c => exact he.elim
      | outgrown => exact he.elim
    | round l f tmps assign body =>
      refine ⟨h.1, RoundIn.mono h.2 ?_⟩
      rintro e w'' he
      cases e with
      | returned u => exact he
      | panicked c => exact he.elim
      | outgrown => exact he.elim
    | _ => exact h
  | halt x w' => cases x <;> exact h.elim
end

section
variable {P : Program} {F : Fence} {n : Nat} {ops : Array Oper} {a : Act} {w : World} {id : Nat}
theorem vi_some (hroom : ∀ k, F.room k) {o : Oper} {a : Act} {w : World} (hh : VI F n P o a w (fun _ _ => False)) : False := by
  unfold VI at hh
  have hh := hh.2
  generalize (execOp a.eval o).run P w = r at *
  cases r with
  | ok nx w' =>
    cases nx with
    | enter f args =>
      obtain ⟨e, w'', fr, hR, _⟩ := (show CallsIn F (n - 1) P f args w' _ from hh.2).2 [] (hroom _)
      cases e <;> exact hR.elim
    | round l f tmps assign body =>
      obtain ⟨e, w'', hR, _⟩ := (show RoundIn F (n - 1) P l f tmps assign body w' _ from hh.2).2 default [] (hroom _)
      cases e <;> exact hR.elim
    | row r args =>
      obtain ⟨v, w'', hR, _⟩ := (show RowsIn F (n - 1) P r args w' _ from hh.2) default [] (hroom _)
      exact hR.elim
    | _ => exact hh.elim
  | halt x w' => cases x <;> exact hh.elim
theorem one_of_listI {o : Oper} {R : Act → World → Prop} (hd : ∀ c, o.op ≠ .defer c) (h : wpListIn F n P ops (onlyN R) [o] a w) : One (VI F n P) ops o a w R := by
  unfold wpListIn at h
  by_cases hw : Region.wanted o (yielded ops a.tmps) = true
  · rw [if_pos hw] at h
    exact .inl ⟨hw, vi_of_wpIn hd (fun c a w h => h) (onlyN_let R) h⟩
  · rw [if_neg hw] at h
    exact .inr ⟨by simpa using hw, h.2⟩
theorem mix_startI {Q : Exit → Act → World → Prop} (hm : P.follows .mixedOrders = true) (hF : ∀ f, F.fn f) {l : List Oper} (hns : Region.noSelect l.toArray = true) (D : World → Prop) (hS : Stable D) (hD : D w.drew)
    (h : Mix (VI F n P) l.toArray (Q .normal) l.length (Array.replicate l.length false) D a w.drew) : (Code.region id l.toArray true).wpIn F n P Q a w := by
  refine wpIn_region_any hm ?_
  rw [wpAnyIn_eq]
  have h1 := h (by simp) (closed_none _) hns hS hD
  have h2 := anyG_of_anyM (V := VI F n P) (Stp := wpOpIn F n P l.toArray Q) (fun i o v D K a w ho hq hDw hk => ?_) (fun i o K a w ho hw hv => ?_) opW_fenced l.length _ D a w.drew hS hD h1
  · simpa using h2
  · unfold wpOpIn
    rw [ho]
    rcases hq with ⟨hw, hq⟩ | ⟨hw, rfl⟩
    · simp only [hw, if_true]
      exact wpIn_of_vi hF (opW_fenced.mono (fun e w' _ hk' => by rw [hk'.1]; exact hk w' hk'.2) (hq w hDw))
    · simp only [hw]
      exact ⟨fun f _ => hF f, hk w (Fr.refl _ _)⟩
  · unfold wpOpIn
    rw [ho]
    simp only [hw, if_true]
    exact wpIn_of_vi hF hv
theorem mix_qI (i : Nat) {l : List Oper} {o : Oper} {A : Act} {Q : Act → World → Prop} {fuel : Nat} {listed : Array Bool} {D : World → Prop} (ho : l[i]? = some o) (ht : takeB l.toArray listed i = true) (hf : freeOp o = false) (hd : dstOk o a = true) (hroom : ∀ k, F.room k) (hdf : ∀ c, o.op ≠ .defer c)
    (hq : ∀ w, D w → wpListIn F n P l.toArray (onlyN fun a' w' => a' = A ∧ Fr [] w w') [o] a w) (hA : A.defers = a.defers) (h : Mix (VI F n P) l.toArray Q fuel (listed.setIfInBounds i true) D A w) : Mix (VI F n P) l.toArray Q (fuel + 1) listed D a w :=
  mixQ opW_fenced i (by simpa using ho) ht hf hd hA (fun _ => vi_some hroom) (fun w hw => one_of_listI hdf (hq w hw)) h
theorem mix_fI (i : Nat) {l : List Oper} {o : Oper} {A : Act} {Q : Act → World → Prop} {fuel : Nat} {listed : Array Bool} {D : World → Prop} (ho : l[i]? = some o) (ht : takeB l.toArray listed i = true) (hd : dstOk o a = true) (hroom : ∀ k, F.room k) (hdf : ∀ c, o.op ≠ .defer c)
    (hq : ∀ w, wpListIn F n P l.toArray (onlyN fun a' w' => a' = A ∧ Fr [] w w') [o] a w) (hA : A.defers = a.defers) (h : Mix (VI F n P) l.toArray Q fuel (listed.setIfInBounds i true) D A w) : Mix (VI F n P) l.toArray Q (fuel + 1) listed D a w :=
  mixF opW_fenced i (by simpa using ho) ht hd hA (fun _ => vi_some hroom) (fun w => one_of_listI hdf (hq w)) h
theorem mix_aI (i : Nat) {l : List Oper} {o : Oper} {Q : Act → World → Prop} {fuel : Nat} {listed : Array Bool} {D : World → Prop} (hr : Region.ready .any l.toArray listed = [i]) (ho : l[i]? = some o) (hdf : ∀ c, o.op ≠ .defer c)
    (h : D w → ∀ w1, Fr [] w w1 → D w1 → wpListIn F n P l.toArray (onlyN fun a' w' => D w' ∧ Mix (VI F n P) l.toArray Q fuel (listed.setIfInBounds i true) D a' w') [o] a w1) : Mix (VI F n P) l.toArray Q (fuel + 1) listed D a w :=
  mixA opW_fenced [i] hr (by simp) (fun hD j hj => by
    have hj' : j = i := by simpa using hj
    subst hj'
    exact ⟨o, by simpa using ho, fun w1 hf hD1 => one_of_listI hdf (h hD w1 hf hD1)⟩)
theorem mix_sI (i : Nat) {l : List Oper} {o : Oper} {Q : Act → World → Prop} {fuel : Nat} {listed : Array Bool} {D : World → Prop} (hr : Region.ready .any l.toArray listed = [i]) (ho : l[i]? = some o) (hse : sealB l.toArray listed i = true) (hw : Region.wanted o (yielded l.toArray a.tmps) = true) (hdf : ∀ c, o.op ≠ .defer c)
    (h : D w → ∀ w1, Fr [] w w1 → D w1 → wpListIn F n P l.toArray (onlyN fun a' w' => ∃ D', Stable D' ∧ D' w' ∧ Mix (VI F n P) l.toArray Q fuel (listed.setIfInBounds i true) D' a' w') [o] a w1) : Mix (VI F n P) l.toArray Q (fuel + 1) listed D a w :=
  mixS opW_fenced i hr (by simpa using ho) hse (fun hD w1 hf hD1 => one_of_listI hdf (h hD w1 hf hD1)) hw
end

@[simp, go_sem] theorem wide_fn (f : FuncId) : Fence.wide.fn f = True := rfl
@[simp, go_sem] theorem wide_depth : Fence.wide.depth = none := rfl
end Go.Proofs.YtaejmginhkbbhaaGreatDoor
