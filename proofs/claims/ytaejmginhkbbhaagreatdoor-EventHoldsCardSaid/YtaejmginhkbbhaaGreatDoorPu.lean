/- What the bytes of points say, in plain words: the first point of some bytes, all of them, and when a text is sound. Conditions: none; no program in sight. -/
set_option linter.unusedSimpArgs false
set_option linter.unusedVariables false
namespace Go.Proofs.YtaejmginhkbbhaaGreatDoor

/-- What begins a point's bytes: from which byte on, to which, how many there are, the bounds of the second one. -/
def lds : List (Nat × Nat × Nat × Nat × Nat) :=
  [(0, 127, 1, 0, 0), (194, 223, 2, 128, 191), (224, 224, 3, 160, 191), (225, 236, 3, 128, 191), (237, 237, 3, 128, 159), (238, 239, 3, 128, 191), (240, 240, 4, 144, 191), (241, 243, 4, 128, 191), (244, 244, 4, 128, 143)]
def ld (i : Nat) : Nat × Nat × Nat × Nat × Nat := lds.getD i (0, 0, 0, 0, 0)
def inLead (c : Nat) (x : Nat × Nat × Nat × Nat × Nat) : Bool := decide (x.1 ≤ c) && decide (c ≤ x.2.1)
def leadFrom (c : Nat) : Nat → Nat → Option Nat
  | 0, _ => none
  | n + 1, i => if inLead c (ld i) = true then some i else leadFrom c n (i + 1)
def leadIdx (c : Nat) : Option Nat := leadFrom c 9 0
def contP : (left many pt lo hi : Nat) → List UInt8 → Nat × Nat × Bool
  | 0, many, pt, _, _, _ => (pt, many, true)
  | _ + 1, many, _, _, _, [] => (65533, many, false)
  | k + 1, many, pt, lo, hi, c :: r => if c.toNat < lo ∨ hi < c.toNat then (65533, many, true) else contP k (many + 1) (pt * 64 + c.toNat % 64) 128 191 r
/-- The point that is told first of bytes, how many bytes it is told of, whether these do not wait for others. -/
def firstP : List UInt8 → Nat × Nat × Bool
  | [] => (65533, 1, true)
  | c :: r => match leadIdx c.toNat with
    | none => (65533, 1, true)
    | some i => contP ((ld i).2.2.1 - 1) 1 (if 1 < (ld i).2.2.1 then c.toNat % 2 ^ (7 - (ld i).2.2.1) else c.toNat) (ld i).2.2.2.1 (ld i).2.2.2.2 r

theorem leadFrom_lt (c : Nat) : ∀ n i j, leadFrom c n i = some j → i ≤ j ∧ j < i + n
  | 0, i, j, h => by cases h
  | n + 1, i, j, h => by
    simp only [leadFrom] at h
    split at h
    · cases h; omega
    · have := leadFrom_lt c n (i + 1) j h; omega
theorem leadIdx_lt {c i : Nat} (h : leadIdx c = some i) : i < 9 := by have := leadFrom_lt c 9 0 i h; omega
theorem ld_many (i : Nat) (h : i < 9) : 1 ≤ (ld i).2.2.1 ∧ (ld i).2.2.1 ≤ 4 := by
  have : ∀ j : Fin 9, 1 ≤ (ld j).2.2.1 ∧ (ld j).2.2.1 ≤ 4 := by decide
  exact this ⟨i, h⟩
theorem ld_bytes (i : Nat) (h : i < 9) : (ld i).1 ≤ 255 ∧ (ld i).2.1 ≤ 255 ∧ (ld i).2.2.2.1 ≤ 255 ∧ (ld i).2.2.2.2 ≤ 255 := by
  have : ∀ j : Fin 9, (ld j).1 ≤ 255 ∧ (ld j).2.1 ≤ 255 ∧ (ld j).2.2.2.1 ≤ 255 ∧ (ld j).2.2.2.2 ≤ 255 := by decide
  exact this ⟨i, h⟩
/-- How many bytes a point takes: one at least, no more than there are, or it waits. -/
theorem contP_many : ∀ k many pt lo hi r, many ≤ (contP k many pt lo hi r).2.1 ∧ (contP k many pt lo hi r).2.1 ≤ many + r.length
  | 0, many, pt, lo, hi, r => by simp [contP]
  | k + 1, many, pt, lo, hi, [] => by simp [contP]
  | k + 1, many, pt, lo, hi, c :: r => by
    simp only [contP]
    split
    · simp
    · have := contP_many k (many + 1) (pt * 64 + c.toNat % 64) 128 191 r
      simp only [List.length_cons]
      omega
theorem firstP_many (b : List UInt8) (h : b ≠ []) : 1 ≤ (firstP b).2.1 ∧ (firstP b).2.1 ≤ b.length := by
  cases b with
  | nil => exact absurd rfl h
  | cons c r =>
    simp only [firstP]
    split
    · simp
    · have := contP_many ((ld ‹Nat›).2.2.1 - 1) 1 (if 1 < (ld ‹Nat›).2.2.1 then c.toNat % 2 ^ (7 - (ld ‹Nat›).2.2.1) else c.toNat) (ld ‹Nat›).2.2.2.1 (ld ‹Nat›).2.2.2.2 r
      simp only [List.length_cons]
      omega

/-- The points of bytes, each with where its bytes begin, and the bytes that wait for others. -/
def pointsN : Nat → Nat → List UInt8 → List (Nat × Nat) × List UInt8
  | 0, _, b => ([], b)
  | _ + 1, _, [] => ([], [])
  | n + 1, at_, c :: r => match firstP (c :: r) with
    | (p, many, true) => ((at_, p) :: (pointsN n (at_ + many) ((c :: r).drop many)).1, (pointsN n (at_ + many) ((c :: r).drop many)).2)
    | (_, _, false) => ([], c :: r)
def ptsAt (at_ : Nat) (b : List UInt8) : List (Nat × Nat) × List UInt8 := pointsN b.length at_ b
/-- The points that are told of bytes that end there, each with where it begins. -/
def toldAt (b : List UInt8) : List (Nat × Nat) := (ptsAt 0 b).1 ++ (if (ptsAt 0 b).2 = [] then [] else [(b.length - (ptsAt 0 b).2.length, 65533)])
def told (b : List UInt8) : List Nat := (toldAt b).map Prod.snd

theorem pointsN_fuel : ∀ n m at_ b, b.length ≤ n → b.length ≤ m → pointsN n at_ b = pointsN m at_ b
  | 0, 0, _, _, _, _ => rfl
  | 0, m + 1, at_, b, h, _ => by
    have : b = [] := List.eq_nil_of_length_eq_zero (by omega)
    subst this; rfl
  | n + 1, 0, at_, b, _, h => by
    have : b = [] := List.eq_nil_of_length_eq_zero (by omega)
    subst this; rfl
  | n + 1, m + 1, at_, [], _, _ => rfl
  | n + 1, m + 1, at_, c :: r, h1, h2 => by
    have hm := firstP_many (c :: r) (by simp)
    simp only [pointsN]
    rcases hf : firstP (c :: r) with ⟨p, many, w⟩
    rw [hf] at hm
    simp only at hm
    cases w with
    | false => rfl
    | true =>
      simp only
      rw [pointsN_fuel n m (at_ + many) ((c :: r).drop many) (by simp only [List.length_drop, List.length_cons] at *; omega) (by simp only [List.length_drop, List.length_cons] at *; omega)]
theorem ptsAt_nil (at_ : Nat) : ptsAt at_ [] = ([], []) := rfl
theorem ptsAt_cons (at_ : Nat) (c : UInt8) (r : List UInt8) : ptsAt at_ (c :: r) = if (firstP (c :: r)).2.2 = true then ((at_, (firstP (c :: r)).1) :: (ptsAt (at_ + (firstP (c :: r)).2.1) ((c :: r).drop (firstP (c :: r)).2.1)).1, (ptsAt (at_ + (firstP (c :: r)).2.1) ((c :: r).drop (firstP (c :: r)).2.1)).2) else ([], c :: r) := by
  have hm := firstP_many (c :: r) (by simp)
  show pointsN (r.length + 1) at_ (c :: r) = _
  simp only [pointsN]
  rcases hf : firstP (c :: r) with ⟨p, many, w⟩
  rw [hf] at hm
  simp only at hm
  cases w with
  | false => rfl
  | true =>
    simp only [if_true]
    unfold ptsAt
    rw [pointsN_fuel r.length ((c :: r).drop many).length (at_ + many) ((c :: r).drop many) (by simp only [List.length_drop, List.length_cons] at *; omega) (Nat.le_refl _)]

/-- A point, or what is told where none stands. -/
def validPt (p : Nat) : Prop := p ≤ 1114111 ∧ ¬ (55296 ≤ p ∧ p ≤ 57343)
theorem leadFrom_in (c : Nat) : ∀ n i j, leadFrom c n i = some j → inLead c (ld j) = true
  | 0, i, j, h => by cases h
  | n + 1, i, j, h => by
    simp only [leadFrom] at h
    split at h
    · rename_i hi; cases h; exact hi
    · exact leadFrom_in c n (i + 1) j h
theorem contP_range : ∀ k many pt lo hi r q m, contP k many pt lo hi r = (q, m, true) → q = 65533 ∨ (k = 0 ∧ q = pt) ∨ (∃ x j, lo ≤ x ∧ x ≤ hi ∧ k = j + 1 ∧ (pt * 64 + x % 64) * 64 ^ j ≤ q ∧ q + 1 ≤ (pt * 64 + x % 64) * 64 ^ j + 64 ^ j)
  | 0, many, pt, lo, hi, r, q, m, h => by
    simp only [contP, Prod.mk.injEq] at h
    exact .inr (.inl ⟨rfl, h.1.symm⟩)
  | k + 1, many, pt, lo, hi, [], q, m, h => by simp [contP] at h
  | k + 1, many, pt, lo, hi, c :: r, q, m, h => by
    simp only [contP] at h
    split at h
    · simp only [Prod.mk.injEq] at h; exact .inl h.1.symm
    · rename_i hc
      refine (contP_range k _ _ _ _ r q m h).imp_right fun h2 => .inr ⟨c.toNat, k, by omega, by omega, rfl, ?_⟩
      rcases h2 with ⟨rfl, rfl⟩ | ⟨x, j, h3, h4, rfl, h5, h6⟩
      · simp
      · rw [Nat.pow_succ]
        have e : (pt * 64 + c.toNat % 64) * (64 ^ j * 64) = ((pt * 64 + c.toNat % 64) * 64) * 64 ^ j := by rw [Nat.mul_comm (64 ^ j) 64, Nat.mul_assoc]
        have e2 : ((pt * 64 + c.toNat % 64) * 64 + x % 64) * 64 ^ j = ((pt * 64 + c.toNat % 64) * 64) * 64 ^ j + x % 64 * 64 ^ j := Nat.add_mul _ _ _
        have e3 : x % 64 * 64 ^ j + 64 ^ j ≤ 64 ^ j * 64 := by
          have : (x % 64 + 1) * 64 ^ j ≤ 64 * 64 ^ j := Nat.mul_le_mul_right _ (by omega)
          rw [Nat.add_mul] at this
          omega
        rw [e]
        omega
theorem firstP_valid (b : List UInt8) (h : (firstP b).2.2 = true) : validPt (firstP b).1 := by
  cases b with
  | nil => exact ⟨by decide, by decide⟩
  | cons c r =>
    cases hl : leadIdx c.toNat with
    | none => simp only [firstP, hl]; exact ⟨by decide, by decide⟩
    | some i =>
      have hi := leadIdx_lt hl
      have hin := leadFrom_in _ _ _ _ hl
      rcases hf : firstP (c :: r) with ⟨q, m, w⟩
      rw [hf] at h
      simp only at h
      subst h
      have hf' := hf
      simp only [firstP, hl] at hf'
      have hc := contP_range _ _ _ _ _ _ _ _ hf'
      simp only [inLead, Bool.and_eq_true, decide_eq_true_eq] at hin
      unfold validPt
      simp only
      have : ∀ n : Nat, n < 9 → n = 0 ∨ n = 1 ∨ n = 2 ∨ n = 3 ∨ n = 4 ∨ n = 5 ∨ n = 6 ∨ n = 7 ∨ n = 8 := by omega
      rcases hc with rfl | ⟨h1, h2⟩ | ⟨x, j, h1, h2, h3, h4, h5⟩
      · decide
      · rcases this i hi with rfl | rfl | rfl | rfl | rfl | rfl | rfl | rfl | rfl <;> simp [ld, lds] at h1 h2 hin <;> omega
      · rcases this i hi with rfl | rfl | rfl | rfl | rfl | rfl | rfl | rfl | rfl <;> simp [ld, lds] at h1 h2 h3 hin h4 h5 <;> (try subst h3) <;> (try (obtain rfl : j = 1 := by omega)) <;> (try (obtain rfl : j = 2 := by omega)) <;> simp at h4 h5 <;> omega
theorem pointsN_valid : ∀ n at_ b, ∀ x ∈ (pointsN n at_ b).1, validPt x.2
  | 0, _, _, x, h => by simp [pointsN] at h
  | n + 1, at_, [], x, h => by simp [pointsN] at h
  | n + 1, at_, c :: r, x, h => by
    simp only [pointsN] at h
    have hv := firstP_valid (c :: r)
    rcases hf : firstP (c :: r) with ⟨p, many, w⟩
    rw [hf] at h hv
    cases w with
    | false => simp at h
    | true =>
      simp only [List.mem_cons] at h
      rcases h with rfl | h
      · exact hv rfl
      · exact pointsN_valid n _ _ x h
theorem toldAt_valid (b : List UInt8) : ∀ x ∈ toldAt b, validPt x.2 := by
  intro x hx
  unfold toldAt at hx
  rcases List.mem_append.1 hx with h | h
  · exact pointsN_valid _ _ _ x h
  · split at h
    · cases h
    · simp at h; subst h; exact ⟨by simp, by simp⟩
theorem pointsN_len : ∀ n at_ b, (pointsN n at_ b).1.length + (pointsN n at_ b).2.length ≤ b.length ∧ (pointsN n at_ b).2 <:+ b
  | 0, _, b => by simp [pointsN]
  | n + 1, at_, [] => by simp [pointsN]
  | n + 1, at_, c :: r => by
    simp only [pointsN]
    have hm := firstP_many (c :: r) (by simp)
    rcases hf : firstP (c :: r) with ⟨p, many, w⟩
    rw [hf] at hm
    cases w with
    | false => simp
    | true =>
      have ih := pointsN_len n (at_ + many) ((c :: r).drop many)
      simp only [List.length_drop, List.length_cons] at *
      exact ⟨by omega, ih.2.trans (List.drop_suffix _ _)⟩
theorem toldAt_len (b : List UInt8) : (toldAt b).length ≤ b.length + 1 := by
  have := (pointsN_len b.length 0 b).1
  unfold toldAt ptsAt
  split
  · simp; omega
  · simp; omega
/-- A point's bytes. -/
def ptBytes (n : Nat) : List UInt8 :=
  if n < 128 then [UInt8.ofNat n]
  else if n < 2048 then [UInt8.ofNat (192 + n / 64), UInt8.ofNat (128 + n % 64)]
  else if n < 65536 then [UInt8.ofNat (224 + n / 4096), UInt8.ofNat (128 + n / 64 % 64), UInt8.ofNat (128 + n % 64)]
  else [UInt8.ofNat (240 + n / 262144), UInt8.ofNat (128 + n / 4096 % 64), UInt8.ofNat (128 + n / 64 % 64), UInt8.ofNat (128 + n % 64)]
def utf8Of (b : List UInt8) : List UInt8 := (told b).flatMap ptBytes
/-- Is a text sound? -/
def sound (b : List UInt8) : Bool := utf8Of b == b
end Go.Proofs.YtaejmginhkbbhaaGreatDoor
