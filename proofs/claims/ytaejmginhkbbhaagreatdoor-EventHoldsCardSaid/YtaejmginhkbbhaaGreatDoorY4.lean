/- No two events have the same bytes, in plain words; what an event's lines say. Conditions: as each theorem says. What the reader of an event's lines holds behind them, in plain words. Conditions: as each theorem says. -/
import Derived.Test.YtaejmginhkbbhaaGreatDoorY1
import Derived.Test.YtaejmginhkbbhaaGreatDoorL2
set_option linter.unusedSimpArgs false
set_option linter.unusedVariables false
set_option maxRecDepth 100000
set_option maxHeartbeats 1000000
namespace Go.Proofs.YtaejmginhkbbhaaGreatDoor
open Go Go.RowKit
/-- What the lines of an event say. -/
def fieldsP (e : Ev) : List Fd := ((someP e.id).map fun v => (⟨5, [105, 100], v⟩ : Fd)) ++ ((someP e.ty).map fun v => (⟨4, [101, 118, 101, 110, 116], v⟩ : Fd)) ++ ((splitP 10 e.da).map fun v => (⟨3, [100, 97, 116, 97], v⟩ : Fd))
theorem lines_of (e : Ev) : (linesP e).map ofP = fieldsP e := by
  unfold linesP fieldsP
  simp only [List.map_append, List.map_map]
  congr 1
  · congr 1
    · exact List.map_congr_left fun v _ => tl0_of v
    · exact List.map_congr_left fun v _ => tl1_of v
  · exact List.map_congr_left fun v _ => tl2_of v
theorem join_split (c : UInt8) : ∀ l : List UInt8, Lib.join (splitP c l) [c] = l
  | [] => by simp [splitP, Lib.join_one]
  | x :: l => by
    have ih := join_split c l
    simp only [splitP]
    split
    · rename_i hx
      subst hx
      cases h : splitP x l with
      | nil => exact absurd h (splitP_ne x l)
      | cons y r =>
        rw [h] at ih
        rw [Lib.join_cons, tail_join, ih]
        rfl
    · cases h : splitP c l with
      | nil => exact absurd h (splitP_ne c l)
      | cons y r =>
        rw [h] at ih
        simp only
        rw [Lib.join_cons] at ih ⊢
        rw [List.cons_append, ih]
theorem splitP_free (c : UInt8) : ∀ l : List UInt8, ∀ x ∈ splitP c l, c ∉ x
  | [], x, hx => by simp [splitP] at hx; subst hx; simp
  | y :: l, x, hx => by
    have ih := splitP_free c l
    simp only [splitP] at hx
    split at hx
    · rcases List.mem_cons.1 hx with rfl | hx
      · simp
      · exact ih x hx
    · rename_i hy
      split at hx
      · simp at hx; subst hx; simpa using fun h => hy h.symm
      · rename_i h t heq
        rw [heq] at ih
        rcases List.mem_cons.1 hx with rfl | hx
        · have := ih h (by simp)
          simp only [List.mem_cons, not_or]
          exact ⟨fun h => hy h.symm, this⟩
        · exact ih x (by simp [hx])
theorem split_bytes : ∀ ls : List (List UInt8), (∀ x ∈ ls, (10 : UInt8) ∉ x) → splitP 10 (bytesOf ls) = ls ++ [[], []]
  | [], _ => by rw [bytesOf_eq]; rfl
  | x :: ls, h => by
    have ih := split_bytes ls (fun y hy => h y (by simp [hy]))
    have e : bytesOf (x :: ls) = x ++ 10 :: bytesOf ls := by
      rw [bytesOf_eq, bytesOf_eq]
      simp [List.append_assoc]
    rw [e, splitP_at 10 _ x (h x (by simp)), ih]
    rfl
theorem hasP_not {l sg : List UInt8} {c : UInt8} (h : hasP l sg = false) (hc : c ∈ sg) : c ∉ l := by
  intro hm
  unfold hasP at h
  rw [List.any_eq_false] at h
  exact h c hm (by simpa using hc)
theorem tl_free (nm v : List UInt8) (h1 : (10 : UInt8) ∉ nm) (h2 : (10 : UInt8) ∉ v) : (10 : UInt8) ∉ (if v = [] then nm else nm ++ 58 :: 32 :: v) := by
  split
  · exact h1
  · simp [h1, h2]
theorem someP_mem {l x : List UInt8} (h : x ∈ someP l) : x = l := by
  unfold someP at h
  split at h
  · cases h
  · simpa using h
theorem lines_free (e : Ev) (h : rightQ e = true) : ∀ x ∈ linesP e, (10 : UInt8) ∉ x := by
  unfold rightQ textP at h
  simp only [Bool.and_eq_true, Bool.not_eq_true', decide_eq_true_eq] at h
  intro x hx
  unfold linesP at hx
  simp only [List.mem_append, List.mem_map] at hx
  rcases hx with (⟨y, hy, rfl⟩ | ⟨y, hy, rfl⟩) | ⟨y, hy, rfl⟩
  · rw [tl0_eq]
    exact tl_free _ _ (by decide) (by rw [someP_mem hy]; exact hasP_not h.1.1.2.1 (by simp))
  · rw [tl1_eq]
    exact tl_free _ _ (by decide) (by rw [someP_mem hy]; exact hasP_not h.1.2.1 (by simp))
  · rw [tl2_eq]
    exact tl_free _ _ (by decide) (splitP_free 10 _ y hy)
theorem someP_inj {a b : List UInt8} (h : someP a = someP b) : a = b := by
  unfold someP at h
  split at h <;> split at h <;> simp_all
theorem fields_inj (x y : Ev) (h : fieldsP x = fieldsP y) : x = y := by
  have hf : ∀ (k : Nat) (e : Ev), (fieldsP e).filter (fun f => f.kind == k) = ((((someP e.id).map fun v => (⟨5, [105, 100], v⟩ : Fd)).filter (fun f => f.kind == k)) ++ (((someP e.ty).map fun v => (⟨4, [101, 118, 101, 110, 116], v⟩ : Fd)).filter (fun f => f.kind == k))) ++ (((splitP 10 e.da).map fun v => (⟨3, [100, 97, 116, 97], v⟩ : Fd)).filter (fun f => f.kind == k)) := by
    intro k e
    unfold fieldsP
    rw [List.filter_append, List.filter_append]
  have all (j k : Nat) (nm : List UInt8) (l : List (List UInt8)) : ((l.map fun v => (⟨j, nm, v⟩ : Fd)).filter (fun f => f.kind == k)) = if j = k then l.map fun v => (⟨j, nm, v⟩ : Fd) else [] := by
    split
    · rename_i e
      rw [List.filter_eq_self]
      intro f hf
      obtain ⟨v, _, rfl⟩ := List.mem_map.1 hf
      simpa using e
    · rename_i e
      rw [List.filter_eq_nil_iff]
      intro f hf
      obtain ⟨v, _, rfl⟩ := List.mem_map.1 hf
      simpa using e
  have inj (j : Nat) (nm : List UInt8) (a b : List (List UInt8)) (h : (a.map fun v => (⟨j, nm, v⟩ : Fd)) = b.map fun v => (⟨j, nm, v⟩ : Fd)) : a = b := by
    have := congrArg (List.map Fd.val) h
    simpa [List.map_map, Function.comp_def] using this
  have h5 := (hf 5 x).symm.trans ((congrArg (List.filter fun f => f.kind == 5) h).trans (hf 5 y))
  have h4 := (hf 4 x).symm.trans ((congrArg (List.filter fun f => f.kind == 4) h).trans (hf 4 y))
  have h3 := (hf 3 x).symm.trans ((congrArg (List.filter fun f => f.kind == 3) h).trans (hf 3 y))
  simp only [all] at h5 h4 h3
  simp only [Nat.reduceEqDiff, if_true, if_false, List.append_nil, List.nil_append] at h5 h4 h3
  have e1 := someP_inj (inj _ _ _ _ h5)
  have e2 := someP_inj (inj _ _ _ _ h4)
  have e3 : x.da = y.da := by
    have := congrArg (fun l => Lib.join l [10]) (inj _ _ _ _ h3)
    simpa [join_split] using this
  cases x
  cases y
  simp_all
/-- No two events have the same bytes. -/
theorem enc_inj (x y : Ev) (hx : rightQ x = true) (hy : rightQ y = true) (h : encP x = encP y) : x = y := by
  unfold encP at h
  have h1 := congrArg (splitP 10) h
  rw [split_bytes _ (lines_free x hx), split_bytes _ (lines_free y hy)] at h1
  have h2 := List.append_cancel_right h1
  have h3 := congrArg (List.map ofP) h2
  rw [lines_of, lines_of] at h3
  exact fields_inj x y h3
/-- What the reader of lines holds. -/
structure Hs where
  id : List UInt8
  ty : List UInt8
  da : List UInt8
  parts : Nat
  ends : Nat
def stepH (s : Hs) (f : Fd) : Hs :=
  if f.kind = 5 then { s with id := f.val }
  else if f.kind = 4 then { s with ty := f.val }
  else if f.kind = 3 then { s with da := (if 0 < s.parts then s.da ++ [10] else s.da) ++ f.val, parts := s.parts + 1 }
  else { s with ends := s.ends + 1 }
def endF : Fd := ⟨1, [], []⟩
theorem ofP_nil : ofP [] = endF := by
  unfold ofP lineOf
  first | rfl | decide +kernel
/-- All the lines' fields. -/
def readP (e : Ev) : List Fd := fieldsP e ++ [endF]
theorem read_of (e : Ev) : (linesP e ++ [[]]).map ofP = readP e := by
  rw [List.map_append, lines_of]
  unfold readP
  simp [ofP_nil]
theorem fold_pieces (nm : List UInt8) : ∀ (l : List (List UInt8)) (s : Hs), 0 < s.parts →
    (l.map fun v => (⟨3, nm, v⟩ : Fd)).foldl stepH s = { s with da := s.da ++ Lib.joinTail [10] l, parts := s.parts + l.length } := by
  intro l
  induction l with
  | nil => intro s _; simp [Lib.joinTail]
  | cons x l ih =>
    intro s hs
    have h1 : stepH s ⟨3, nm, x⟩ = { s with da := s.da ++ [10] ++ x, parts := s.parts + 1 } := by
      unfold stepH
      simp [hs]
    rw [List.map_cons, List.foldl_cons, h1, ih _ (by simp)]
    simp [Lib.joinTail]
    omega
theorem fold_all (e : Ev) : (readP e).foldl stepH ⟨[], [], [], 0, 0⟩ = ⟨e.id, e.ty, e.da, (splitP 10 e.da).length, 1⟩ := by
  unfold readP fieldsP
  rw [List.foldl_append, List.foldl_append, List.foldl_append]
  have h1 : ((someP e.id).map fun v => (⟨5, [105, 100], v⟩ : Fd)).foldl stepH ⟨[], [], [], 0, 0⟩ = ⟨e.id, [], [], 0, 0⟩ := by
    unfold someP
    split
    · next h => rw [h]; rfl
    · rfl
  have h2 : ((someP e.ty).map fun v => (⟨4, [101, 118, 101, 110, 116], v⟩ : Fd)).foldl stepH ⟨e.id, [], [], 0, 0⟩ = ⟨e.id, e.ty, [], 0, 0⟩ := by
    unfold someP
    split
    · next h => rw [h]; rfl
    · rfl
  rw [h1, h2]
  have hj := join_split 10 e.da
  cases hp : splitP 10 e.da with
  | nil => exact absurd hp (splitP_ne 10 e.da)
  | cons x l =>
    rw [hp] at hj
    simp only [List.map_cons, List.foldl_cons, List.foldl_nil]
    have h3 : stepH ⟨e.id, e.ty, [], 0, 0⟩ ⟨3, [100, 97, 116, 97], x⟩ = ⟨e.id, e.ty, x, 1, 0⟩ := rfl
    rw [h3, fold_pieces _ _ _ Nat.zero_lt_one]
    have h4 : x ++ Lib.joinTail [10] l = e.da := by rw [← hj, Lib.join_cons]
    rw [h4]
    simp [stepH, endF]
    omega
theorem read_kinds (e : Ev) (n : Nat) (h0 : e.id.length ≤ n) (h1 : e.ty.length ≤ n) (h2 : e.da.length ≤ n) : ∀ f ∈ readP e, (f.kind = 5 ∨ f.kind = 4 ∨ f.kind = 3 ∨ f.kind = 1) ∧ f.val.length ≤ n := by
  intro f hf
  unfold readP fieldsP at hf
  simp only [List.mem_append, List.mem_map, List.mem_singleton] at hf
  rcases hf with ((⟨v, hv, rfl⟩ | ⟨v, hv, rfl⟩) | ⟨v, hv, rfl⟩) | rfl
  · exact ⟨.inl rfl, by show v.length ≤ n; have := someP_len _ v hv; omega⟩
  · exact ⟨.inr (.inl rfl), by show v.length ≤ n; have := someP_len _ v hv; omega⟩
  · exact ⟨.inr (.inr (.inl rfl)), by show v.length ≤ n; have := (splitP_len 10 e.da).1 v hv; omega⟩
  · exact ⟨.inr (.inr (.inr rfl)), by simp [endF]⟩
/-- The reader's state behind some of the lines. -/
noncomputable def heldP (pre : List (Nat × List UInt8)) : Hs := (pre.map fun p => ofP p.2).foldl stepH ⟨[], [], [], 0, 0⟩
theorem heldP_nil : heldP [] = ⟨[], [], [], 0, 0⟩ := rfl
theorem heldP_snoc (pre : List (Nat × List UInt8)) (x : Nat × List UInt8) : heldP (pre ++ [x]) = stepH (heldP pre) (ofP x.2) := by
  simp [heldP]
theorem heldP_all (e : Ev) : heldP (numL (linesP e ++ [[]])) = ⟨e.id, e.ty, e.da, (splitP 10 e.da).length, 1⟩ := by
  have h : ((numL (linesP e ++ [[]])).map fun p => ofP p.2) = readP e := by
    rw [← read_of]
    unfold numL
    rw [List.map_map]
    apply List.ext_getElem?
    intro i
    simp only [List.getElem?_map, List.getElem?_zipIdx]
    cases (linesP e ++ [[]])[i]? <;> rfl
  rw [heldP, h, fold_all]
/-- The state grows slowly. -/
theorem stepH_small (n : Nat) (s : Hs) (f : Fd) (hf : f.val.length ≤ n) : (stepH s f).da.length ≤ s.da.length + (n + 1) ∧ (stepH s f).parts ≤ s.parts + 1 ∧ (stepH s f).ends ≤ s.ends + 1 := by
  unfold stepH
  split
  · exact ⟨by show s.da.length ≤ _; omega, by show s.parts ≤ _; omega, by show s.ends ≤ _; omega⟩
  · split
    · exact ⟨by show s.da.length ≤ _; omega, by show s.parts ≤ _; omega, by show s.ends ≤ _; omega⟩
    · split
      · refine ⟨?_, by show s.parts + 1 ≤ _; omega, by show s.ends ≤ _; omega⟩
        show ((if 0 < s.parts then s.da ++ [10] else s.da) ++ f.val).length ≤ _
        split <;> simp <;> omega
      · exact ⟨by show s.da.length ≤ _; omega, by show s.parts ≤ _; omega, by show s.ends + 1 ≤ _; omega⟩
theorem fold_small (n : Nat) : ∀ (l : List Fd) (s : Hs), (∀ f ∈ l, f.val.length ≤ n) → (l.foldl stepH s).da.length ≤ s.da.length + l.length * (n + 1) ∧ (l.foldl stepH s).parts ≤ s.parts + l.length ∧ (l.foldl stepH s).ends ≤ s.ends + l.length := by
  intro l
  induction l with
  | nil => intro s _; simp
  | cons f l ih =>
    intro s h
    have h1 := stepH_small n s f (h f (by simp))
    have h2 := ih (stepH s f) (fun g hg => h g (by simp [hg]))
    rw [List.foldl_cons, List.length_cons, Nat.add_mul]
    exact ⟨by omega, by omega, by omega⟩
theorem heldP_small (n : Nat) (pre : List (Nat × List UInt8)) (h : ∀ x ∈ pre, (ofP x.2).val.length ≤ n) : (heldP pre).da.length ≤ pre.length * (n + 1) ∧ (heldP pre).parts ≤ pre.length ∧ (heldP pre).ends ≤ pre.length := by
  have h1 := fold_small n (pre.map fun p => ofP p.2) ⟨[], [], [], 0, 0⟩ (fun f hf => by
    obtain ⟨x, hx, rfl⟩ := List.mem_map.1 hf
    exact h x hx)
  simpa [heldP] using h1
end Go.Proofs.YtaejmginhkbbhaaGreatDoor
