/- The document's first point of bytes, by definition, is the first point that is told. Conditions: none; no program in sight. -/
import Derived.Test.YtaejmginhkbbhaaGreatDoorPs
set_option linter.unusedSimpArgs false
set_option linter.unusedVariables false
namespace Go.Proofs.YtaejmginhkbbhaaGreatDoor
/-- The least and the most point whose bytes begin so; the rest of them may be any. -/
def spanL : Nat → Nat → Nat → List UInt8 → Option (Nat × Nat)
  | 0, l, t, _ => some (l, t)
  | k + 1, l, t, [] => spanL k (64 * l) (64 * t + 63) []
  | k + 1, l, t, c :: r => if c.toNat < 128 ∨ 191 < c.toNat then none else spanL k (64 * l + c.toNat % 64) (64 * t + c.toNat % 64) r
def classP (c : Nat) : Option (Nat × Nat) := if c < 128 then some (1, c) else if 192 ≤ c ∧ c < 224 then some (2, c % 32) else if 224 ≤ c ∧ c < 240 then some (3, c % 16) else if 240 ≤ c ∧ c < 248 then some (4, c % 8) else none
def spanP : List UInt8 → Option (Nat × Nat × Nat)
  | [] => none
  | c :: r => match classP c.toNat with
    | none => none
    | some (m, l) => match spanL (m - 1) l l r with
      | none => none
      | some (a, t) => some (m, a, t)
def leastOf (m : Nat) : Nat := [0, 0, 128, 2048, 65536].getD m 0
def fitsP (m l t : Nat) : Bool := if m = 3 ∧ 55296 ≤ max l (leastOf m) ∧ min t 1114111 ≤ 57343 then false else decide (max l (leastOf m) ≤ min t 1114111)
def beginsP (b : List UInt8) : Nat × Bool := match spanP b with
  | none => (0, false)
  | some (m, l, t) => if m < b.length then (0, false) else (if m = 3 ∧ 55296 ≤ max l (leastOf m) ∧ min t 1114111 ≤ 57343 then 0 else m, fitsP m l t)
def leastP (b : List UInt8) : Nat := match spanP b with
  | none => 0
  | some (_, l, _) => l
def refStop (n : Nat) (b : List UInt8) : Nat × Nat × Bool := (65533, max 1 n, n == 0 || decide (n < b.length))
def refLoop : Nat → Nat → List UInt8 → Nat × Nat × Bool
  | 0, n, b => refStop n b
  | k + 1, n, b => if n < b.length then if (beginsP (b.take (n + 1))).2 = true then if n + 1 = (beginsP (b.take (n + 1))).1 then (leastP (b.take (n + 1)), n + 1, true) else refLoop k (n + 1) b else refStop n b else refStop n b
def refFirst (b : List UInt8) : Nat × Nat × Bool := refLoop 4 0 b

theorem begins_of {c : UInt8} {r : List UInt8} {m l a t : Nat} (h1 : classP c.toNat = some (m, l)) (h2 : spanL (m - 1) l l r = some (a, t)) (h3 : r.length + 1 ≤ m) (h4 : ¬ (m = 3 ∧ 55296 ≤ max a (leastOf m) ∧ min t 1114111 ≤ 57343)) : beginsP (c :: r) = (m, decide (max a (leastOf m) ≤ min t 1114111)) := by
  unfold beginsP spanP
  simp only [h1, h2]
  rw [if_neg (by simp; omega), if_neg h4]
  unfold fitsP
  rw [if_neg h4]
theorem begins_no {c : UInt8} {r : List UInt8} {m l a t : Nat} (h1 : classP c.toNat = some (m, l)) (h2 : spanL (m - 1) l l r = some (a, t)) (h4 : (m = 3 ∧ 55296 ≤ max a (leastOf m) ∧ min t 1114111 ≤ 57343)) : (beginsP (c :: r)).2 = false := by
  unfold beginsP spanP
  simp only [h1, h2]
  split
  · rfl
  · unfold fitsP
    rw [if_pos h4]
theorem begins_none {c : UInt8} {r : List UInt8} {m l : Nat} (h1 : classP c.toNat = some (m, l)) (h2 : spanL (m - 1) l l r = none) : (beginsP (c :: r)).2 = false := by
  unfold beginsP spanP
  simp only [h1, h2]
theorem least_of {c : UInt8} {r : List UInt8} {m l a t : Nat} (h1 : classP c.toNat = some (m, l)) (h2 : spanL (m - 1) l l r = some (a, t)) : leastP (c :: r) = a := by
  unfold leastP spanP
  simp only [h1, h2]
/-- One round of the search: it goes on. -/
theorem loop_on {k n m : Nat} {b : List UInt8} (h : n < b.length) (h1 : beginsP (b.take (n + 1)) = (m, true)) (h2 : n + 1 ≠ m) : refLoop (k + 1) n b = refLoop k (n + 1) b := by
  simp only [refLoop]
  rw [if_pos h, h1]
  simp [h2]
theorem loop_hit {k n m : Nat} {b : List UInt8} (h : n < b.length) (h1 : beginsP (b.take (n + 1)) = (m, true)) (h2 : n + 1 = m) : refLoop (k + 1) n b = (leastP (b.take (n + 1)), n + 1, true) := by
  simp only [refLoop]
  rw [if_pos h, h1]
  simp [h2]
theorem loop_no {k n : Nat} {b : List UInt8} (h : n < b.length) (h1 : (beginsP (b.take (n + 1))).2 = false) : refLoop (k + 1) n b = refStop n b := by
  simp only [refLoop]
  rw [if_pos h, h1]
  simp
theorem loop_end {k n : Nat} {b : List UInt8} (h : ¬ n < b.length) : refLoop k n b = refStop n b := by
  cases k with
  | zero => rfl
  | succ k => simp only [refLoop]; rw [if_neg h]
theorem contP_no (k many pt lo hi : Nat) (c : UInt8) (r : List UInt8) (h : c.toNat < lo ∨ hi < c.toNat) : contP (k + 1) many pt lo hi (c :: r) = (65533, many, true) := by
  simp only [contP]
  rw [if_pos h]
theorem contP_nil (k many pt lo hi : Nat) : contP (k + 1) many pt lo hi [] = (65533, many, false) := by simp only [contP]
theorem spanL_bad (k l t : Nat) (c : UInt8) (r : List UInt8) (h : c.toNat < 128 ∨ 191 < c.toNat) : spanL (k + 1) l t (c :: r) = none := by
  simp only [spanL]
  rw [if_pos h]
theorem spanL_ok (k l t : Nat) (c : UInt8) (r : List UInt8) (h : ¬ (c.toNat < 128 ∨ 191 < c.toNat)) : spanL (k + 1) l t (c :: r) = spanL k (64 * l + c.toNat % 64) (64 * t + c.toNat % 64) r := by
  simp only [spanL]
  rw [if_neg h]
theorem spanL_nil1 (l t : Nat) : spanL 1 l t [] = some (64 * l, 64 * t + 63) := rfl
theorem spanL_nil2 (l t : Nat) : spanL 2 l t [] = some (64 * (64 * l), 64 * (64 * t + 63) + 63) := rfl
theorem spanL_nil3 (l t : Nat) : spanL 3 l t [] = some (64 * (64 * (64 * l)), 64 * (64 * (64 * t + 63) + 63) + 63) := rfl
theorem spanL_zero (l t : Nat) (r : List UInt8) : spanL 0 l t r = some (l, t) := by cases r <;> rfl
theorem min3 (a b : Nat) : min a b = if a ≤ b then a else b := rfl
/-- Two bytes. -/
theorem first2 (c : UInt8) (r : List UInt8) (h1 : 192 ≤ c.toNat) (h2 : c.toNat < 224) : refFirst (c :: r) = firstP (c :: r) := by
  have hcl : classP c.toNat = some (2, c.toNat % 32) := by unfold classP; rw [if_neg (by omega), if_pos ⟨h1, h2⟩]
  have hb1 : beginsP [c] = (2, decide (max (64 * (c.toNat % 32)) (leastOf 2) ≤ min (64 * (c.toNat % 32) + 63) 1114111)) := begins_of hcl (spanL_nil1 _ _) (by simp) (by simp)
  have hc := c.toNat_lt
  by_cases h3 : c.toNat < 194
  · have hl : leadIdx c.toNat = none := by rw [lead_cls _ hc, if_neg (by omega), if_pos h3]
    have hf : firstP (c :: r) = (65533, 1, true) := by simp only [firstP, hl]
    rw [hf]
    unfold refFirst
    rw [loop_no (by simp) (by rw [List.take_succ_cons, List.take_zero, hb1]; simp only [decide_eq_false_iff_not]; simp [leastOf]; omega)]
    simp [refStop]
  · have hl : leadIdx c.toNat = some 1 := by rw [lead_cls _ hc, if_neg (by omega), if_neg h3, if_pos (by omega)]
    have hb1' : beginsP [c] = (2, true) := by
      rw [hb1]
      congr 1
      simp only [decide_eq_true_eq]
      simp [leastOf]
      omega
    rw [firstP_some _ _ 1 hl]
    unfold refFirst
    rw [loop_on (by simp) (by rw [List.take_succ_cons, List.take_zero]; exact hb1') (by decide)]
    simp only [ld, lds, List.getD_cons_succ, List.getD_cons_zero, Nat.reduceSub, Nat.reduceLT, if_true, Nat.reducePow]
    cases r with
    | nil => rw [contP_nil, loop_end (by simp)]; simp [refStop]
    | cons d r =>
      by_cases h4 : d.toNat < 128 ∨ 191 < d.toNat
      · rw [contP_no _ _ _ _ _ _ _ h4, loop_no (by simp) (by simp only [List.take_succ_cons, List.take_zero]; exact begins_none hcl (spanL_bad _ _ _ _ _ h4))]
        simp [refStop]
      · rw [contP_ok _ _ _ _ _ _ _ (by omega) (by omega), contP_zero]
        have hs : spanL 1 (c.toNat % 32) (c.toNat % 32) [d] = some (64 * (c.toNat % 32) + d.toNat % 64, 64 * (c.toNat % 32) + d.toNat % 64) := by rw [spanL_ok _ _ _ _ _ h4, spanL_zero]
        rw [loop_hit (m := 2) (by simp) (by
          simp only [List.take_succ_cons, List.take_zero]
          rw [begins_of hcl hs (by simp) (by simp)]
          congr 1
          simp only [decide_eq_true_eq]
          simp [leastOf]
          omega) rfl]
        simp only [List.take_succ_cons, List.take_zero]
        rw [least_of hcl hs]
        congr 1
        omega
theorem lead3 : ∀ c : Fin 256, 224 ≤ c.val → c.val < 240 → ∃ i : Fin 9, leadIdx c.val = some i.val ∧ (ld i.val).2.2.1 = 3 ∧ (ld i.val).2.2.2.1 = (if c.val = 224 then 160 else 128) ∧ (ld i.val).2.2.2.2 = (if c.val = 237 then 159 else 191) := by decide +kernel
theorem lead4 : ∀ c : Fin 256, 240 ≤ c.val → c.val < 245 → ∃ i : Fin 9, leadIdx c.val = some i.val ∧ (ld i.val).2.2.1 = 4 ∧ (ld i.val).2.2.2.1 = (if c.val = 240 then 144 else 128) ∧ (ld i.val).2.2.2.2 = (if c.val = 244 then 143 else 191) := by decide +kernel
theorem take1 {α : Type} (c : α) (r : List α) : (c :: r).take 1 = [c] := by simp
theorem take2 {α : Type} (c d : α) (r : List α) : (c :: d :: r).take 2 = [c, d] := by simp
theorem take3 {α : Type} (c d e : α) (r : List α) : (c :: d :: e :: r).take 3 = [c, d, e] := by simp
theorem take4 {α : Type} (c d e f : α) (r : List α) : (c :: d :: e :: f :: r).take 4 = [c, d, e, f] := by simp
theorem fit_t {m a t : Nat} (h : max a (leastOf m) ≤ min t 1114111) : (m, decide (max a (leastOf m) ≤ min t 1114111)) = (m, true) := by rw [decide_eq_true h]
theorem fit_f {m a t : Nat} (h : ¬ max a (leastOf m) ≤ min t 1114111) : (m, decide (max a (leastOf m) ≤ min t 1114111)).2 = false := by simp [h]
theorem least3 : leastOf 3 = 2048 := rfl
theorem least4 : leastOf 4 = 65536 := rfl
theorem sur3 (l x y : Nat) (hl : l < 16) (hx : x < 64) (hy : y < 64) (h5 : ¬ (l = 13 ∧ 32 ≤ x)) : ¬ (3 = 3 ∧ 55296 ≤ max (64 * (64 * l + x) + y) 2048 ∧ min (64 * (64 * l + x) + y) 1114111 ≤ 57343) := by
  rintro ⟨-, h1, h2⟩
  have h3 : 55296 ≤ 64 * (64 * l + x) + y := by
    rcases Nat.le_total (64 * (64 * l + x) + y) 2048 with h | h
    · rw [Nat.max_eq_right h] at h1; omega
    · rw [Nat.max_eq_left h] at h1; exact h1
  have h4 : 64 * (64 * l + x) + y ≤ 57343 := by
    rcases Nat.le_total (64 * (64 * l + x) + y) 1114111 with h | h
    · rw [Nat.min_eq_left h] at h2; exact h2
    · rw [Nat.min_eq_right h] at h2; omega
  omega
/-- Three bytes. -/
theorem first3 (c : UInt8) (r : List UInt8) (h1 : 224 ≤ c.toNat) (h2 : c.toNat < 240) : refFirst (c :: r) = firstP (c :: r) := by
  have hcl : classP c.toNat = some (3, c.toNat % 16) := by unfold classP; rw [if_neg (by omega), if_neg (by omega), if_pos ⟨h1, h2⟩]
  obtain ⟨i, hl, hm, hlo, hhi⟩ := lead3 ⟨c.toNat, c.toNat_lt⟩ h1 h2
  simp only at hl hlo hhi
  have hb1 : beginsP [c] = (3, true) := by
    rw [begins_of hcl (spanL_nil2 _ _) (by simp) (by rw [least3]; omega)]
    exact fit_t (by rw [least3]; omega)
  rw [firstP_some _ _ i.val hl, hm, hlo, hhi]
  unfold refFirst
  rw [loop_on (by simp) (by rw [take1]; exact hb1) (by decide)]
  simp only [Nat.reduceSub, Nat.reduceLT, if_true, Nat.reducePow]
  cases r with
  | nil => rw [contP_nil, loop_end (by simp)]; simp [refStop]
  | cons d r =>
    by_cases h4 : d.toNat < 128 ∨ 191 < d.toNat
    · rw [contP_no _ _ _ _ _ _ _ (by split <;> split <;> omega), loop_no (by simp) (by rw [take2]; exact begins_none hcl (spanL_bad _ _ _ _ _ h4))]
      simp [refStop]
    · have hs : spanL 2 (c.toNat % 16) (c.toNat % 16) [d] = some (64 * (64 * (c.toNat % 16) + d.toNat % 64), 64 * (64 * (c.toNat % 16) + d.toNat % 64) + 63) := by rw [spanL_ok _ _ _ _ _ h4, spanL_nil1]
      by_cases h5 : c.toNat = 237 ∧ 160 ≤ d.toNat
      · rw [contP_no _ _ _ _ _ _ _ (by rw [if_pos h5.1]; omega), loop_no (by simp) (by rw [take2]; exact begins_no hcl hs (by rw [least3]; omega))]
        simp [refStop]
      · have h5' : ¬ (c.toNat % 16 = 13 ∧ 32 ≤ d.toNat % 64) := fun hh => h5 ⟨by have := hh.1; clear hs hb1 hlo hhi h5; omega, by have := hh.2; clear hs hb1 hlo hhi h5; omega⟩
        have hsur : ¬ (3 = 3 ∧ 55296 ≤ max (64 * (64 * (c.toNat % 16) + d.toNat % 64)) (leastOf 3) ∧ min (64 * (64 * (c.toNat % 16) + d.toNat % 64) + 63) 1114111 ≤ 57343) := by rw [least3]; omega
        by_cases h6 : c.toNat = 224 ∧ d.toNat < 160
        · rw [contP_no _ _ _ _ _ _ _ (by rw [if_pos h6.1]; omega), loop_no (by simp) (by
            rw [take2, begins_of hcl hs (by simp) hsur]
            exact fit_f (by rw [least3]; omega))]
          simp [refStop]
        · rw [contP_ok _ _ _ _ _ _ _ (by split <;> omega) (by split <;> omega), loop_on (m := 3) (by simp) (by
            rw [take2, begins_of hcl hs (by simp) hsur]
            exact fit_t (by rw [least3]; omega)) (by decide)]
          cases r with
          | nil => rw [contP_nil, loop_end (by simp)]; simp [refStop]
          | cons e r =>
            by_cases h7 : e.toNat < 128 ∨ 191 < e.toNat
            · rw [contP_no _ _ _ _ _ _ _ (by omega), loop_no (by simp) (by rw [take3]; exact begins_none hcl (by rw [spanL_ok _ _ _ _ _ h4, spanL_bad _ _ _ _ _ h7]))]
              simp [refStop]
            · have hs3 : spanL 2 (c.toNat % 16) (c.toNat % 16) [d, e] = some (64 * (64 * (c.toNat % 16) + d.toNat % 64) + e.toNat % 64, 64 * (64 * (c.toNat % 16) + d.toNat % 64) + e.toNat % 64) := by rw [spanL_ok _ _ _ _ _ h4, spanL_ok _ _ _ _ _ h7, spanL_zero]
              rw [contP_ok _ _ _ _ _ _ _ (by omega) (by omega), contP_zero, loop_hit (m := 3) (by simp) (by
                rw [take3, begins_of hcl hs3 (by simp) (by rw [least3]; exact sur3 _ _ _ (Nat.mod_lt _ (by decide)) (Nat.mod_lt _ (by decide)) (Nat.mod_lt _ (by decide)) h5')]
                exact fit_t (by rw [least3]; omega)) rfl, take3, least_of hcl hs3]
              congr 1
              omega
/-- Four bytes. -/
theorem first4 (c : UInt8) (r : List UInt8) (h1 : 240 ≤ c.toNat) (h2 : c.toNat < 248) : refFirst (c :: r) = firstP (c :: r) := by
  have hcl : classP c.toNat = some (4, c.toNat % 8) := by unfold classP; rw [if_neg (by omega), if_neg (by omega), if_neg (by omega), if_pos ⟨h1, h2⟩]
  by_cases h3 : 245 ≤ c.toNat
  · have hl : leadIdx c.toNat = none := by rw [lead_cls _ c.toNat_lt]; repeat (first | rfl | (rw [if_neg (by omega)]))
    have hf : firstP (c :: r) = (65533, 1, true) := by simp only [firstP, hl]
    rw [hf]
    unfold refFirst
    rw [loop_no (by simp) (by
      rw [take1, begins_of hcl (spanL_nil3 _ _) (by simp) (by omega)]
      exact fit_f (by rw [least4]; omega))]
    simp [refStop]
  · obtain ⟨i, hl, hm, hlo, hhi⟩ := lead4 ⟨c.toNat, c.toNat_lt⟩ h1 (by simp only; omega)
    simp only at hl hlo hhi
    have hb1 : beginsP [c] = (4, true) := by
      rw [begins_of hcl (spanL_nil3 _ _) (by simp) (by omega)]
      exact fit_t (by rw [least4]; omega)
    rw [firstP_some _ _ i.val hl, hm, hlo, hhi]
    unfold refFirst
    rw [loop_on (by simp) (by rw [take1]; exact hb1) (by decide)]
    simp only [Nat.reduceSub, Nat.reduceLT, if_true, Nat.reducePow]
    cases r with
    | nil => rw [contP_nil, loop_end (by simp)]; simp [refStop]
    | cons d r =>
      by_cases h4 : d.toNat < 128 ∨ 191 < d.toNat
      · rw [contP_no _ _ _ _ _ _ _ (by split <;> split <;> omega), loop_no (by simp) (by rw [take2]; exact begins_none hcl (spanL_bad _ _ _ _ _ h4))]
        simp [refStop]
      · have hs : spanL 3 (c.toNat % 8) (c.toNat % 8) [d] = some (64 * (64 * (64 * (c.toNat % 8) + d.toNat % 64)), 64 * (64 * (64 * (c.toNat % 8) + d.toNat % 64) + 63) + 63) := by rw [spanL_ok _ _ _ _ _ h4, spanL_nil2]
        by_cases h5 : c.toNat = 240 ∧ d.toNat < 144 ∨ c.toNat = 244 ∧ 144 ≤ d.toNat
        · rw [contP_no _ _ _ _ _ _ _ (by split <;> split <;> omega), loop_no (by simp) (by
            rw [take2, begins_of hcl hs (by simp) (by omega)]
            exact fit_f (by rw [least4]; omega))]
          simp [refStop]
        · rw [contP_ok _ _ _ _ _ _ _ (by split <;> omega) (by split <;> omega), loop_on (m := 4) (by simp) (by
            rw [take2, begins_of hcl hs (by simp) (by omega)]
            exact fit_t (by rw [least4]; omega)) (by decide)]
          cases r with
          | nil => rw [contP_nil, loop_end (by simp)]; simp [refStop]
          | cons e r =>
            by_cases h7 : e.toNat < 128 ∨ 191 < e.toNat
            · rw [contP_no _ _ _ _ _ _ _ (by omega), loop_no (by simp) (by rw [take3]; exact begins_none hcl (by rw [spanL_ok _ _ _ _ _ h4, spanL_bad _ _ _ _ _ h7]))]
              simp [refStop]
            · have hs3 : spanL 3 (c.toNat % 8) (c.toNat % 8) [d, e] = some (64 * (64 * (64 * (c.toNat % 8) + d.toNat % 64) + e.toNat % 64), 64 * (64 * (64 * (c.toNat % 8) + d.toNat % 64) + e.toNat % 64) + 63) := by rw [spanL_ok _ _ _ _ _ h4, spanL_ok _ _ _ _ _ h7, spanL_nil1]
              rw [contP_ok _ _ _ _ _ _ _ (by omega) (by omega), loop_on (m := 4) (by simp) (by
                rw [take3, begins_of hcl hs3 (by simp) (by omega)]
                exact fit_t (by rw [least4]; omega)) (by decide)]
              cases r with
              | nil => rw [contP_nil, loop_end (by simp)]; simp [refStop]
              | cons f r =>
                by_cases h8 : f.toNat < 128 ∨ 191 < f.toNat
                · rw [contP_no _ _ _ _ _ _ _ (by omega), loop_no (by simp) (by rw [take4]; exact begins_none hcl (by rw [spanL_ok _ _ _ _ _ h4, spanL_ok _ _ _ _ _ h7, spanL_bad _ _ _ _ _ h8]))]
                  simp [refStop]
                · have hs4 : spanL 3 (c.toNat % 8) (c.toNat % 8) [d, e, f] = some (64 * (64 * (64 * (c.toNat % 8) + d.toNat % 64) + e.toNat % 64) + f.toNat % 64, 64 * (64 * (64 * (c.toNat % 8) + d.toNat % 64) + e.toNat % 64) + f.toNat % 64) := by rw [spanL_ok _ _ _ _ _ h4, spanL_ok _ _ _ _ _ h7, spanL_ok _ _ _ _ _ h8, spanL_zero]
                  rw [contP_ok _ _ _ _ _ _ _ (by omega) (by omega), contP_zero, loop_hit (m := 4) (by simp) (by
                    rw [take4, begins_of hcl hs4 (by simp) (by omega)]
                    exact fit_t (by rw [least4]; omega)) rfl, take4, least_of hcl hs4]
                  congr 1
                  omega
/-- The document's first point is the first point. -/
theorem refFirst_eq (b : List UInt8) (hb : b ≠ []) : refFirst b = firstP b := by
  cases b with
  | nil => exact absurd rfl hb
  | cons c r =>
    by_cases h1 : c.toNat < 128
    · have hcl : classP c.toNat = some (1, c.toNat) := by unfold classP; rw [if_pos h1]
      have hl : leadIdx c.toNat = some 0 := by rw [lead_cls _ c.toNat_lt, if_pos h1]
      rw [firstP_some _ _ 0 hl]
      unfold refFirst
      have hs : spanL (1 - 1) c.toNat c.toNat [] = some (c.toNat, c.toNat) := spanL_zero _ _ _
      rw [loop_hit (m := 1) (by simp) (by
        rw [take1, begins_of hcl hs (by simp) (by omega)]
        exact fit_t (by simp [leastOf]; omega)) rfl, take1, least_of hcl hs]
      simp [ld, lds, contP_zero]
    · by_cases h2 : 192 ≤ c.toNat ∧ c.toNat < 224
      · exact first2 c r h2.1 h2.2
      · by_cases h3 : 224 ≤ c.toNat ∧ c.toNat < 240
        · exact first3 c r h3.1 h3.2
        · by_cases h4 : 240 ≤ c.toNat ∧ c.toNat < 248
          · exact first4 c r h4.1 h4.2
          · have hcl : classP c.toNat = none := by unfold classP; rw [if_neg h1, if_neg h2, if_neg h3, if_neg h4]
            have hl : leadIdx c.toNat = none := by
              rw [lead_cls _ c.toNat_lt]
              by_cases h5 : c.toNat < 194
              · rw [if_neg h1, if_pos h5]
              · rw [if_neg h1, if_neg h5]; repeat (first | rfl | (rw [if_neg (by omega)]))
            have hf : firstP (c :: r) = (65533, 1, true) := by simp only [firstP, hl]
            rw [hf]
            unfold refFirst
            rw [loop_no (by simp) (by rw [take1]; unfold beginsP spanP; simp only [hcl])]
            simp [refStop]
end Go.Proofs.YtaejmginhkbbhaaGreatDoor
