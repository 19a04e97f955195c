/- Numbers' texts, and what is read of them, in plain words; a text cut at a byte. Conditions: none; no program in sight. -/
import Derived.Lib.ItoaNum
import Derived.Lib.IndexLaws
import Derived.Lib.IndexMore
set_option linter.unusedSimpArgs false
set_option linter.unusedVariables false
namespace Go.Proofs.YtaejmginhkbbhaaGreatDoor
theorem indexByte_at (c : UInt8) (r : List UInt8) : ∀ nm : List UInt8, c ∉ nm → Lib.indexByte (nm ++ c :: r) c = (nm.length : Int)
  | [], _ => by simp [Lib.indexByte]
  | b :: nm, h => by
    have ih := indexByte_at c r nm (fun hm => h (by simp [hm]))
    have hb : (b == c) = false := by
      simp only [beq_eq_false_iff_ne, ne_eq]
      rintro rfl
      exact h (by simp)
    simp only [List.cons_append, Lib.indexByte, hb, ih]
    have : ((nm.length : Int) == -1) = false := by
      simp only [beq_eq_false_iff_ne, ne_eq]
      omega
    simp [this]
theorem indexByte_no (c : UInt8) : ∀ l : List UInt8, c ∉ l → Lib.indexByte l c = -1
  | [], _ => rfl
  | b :: l, h => by
    have ih := indexByte_no c l (fun hm => h (by simp [hm]))
    have hb : (b == c) = false := by
      simp only [beq_eq_false_iff_ne, ne_eq]
      rintro rfl
      exact h (by simp)
    simp [Lib.indexByte, hb, ih]
theorem cut_at (c : UInt8) (nm r : List UInt8) (h : c ∉ nm) : Lib.cut (nm ++ c :: r) [c] = (nm, r, true) := by
  unfold Lib.cut
  rw [Lib.index_one, indexByte_at c r nm h, if_pos (by omega)]
  simp
theorem cut_no (c : UInt8) (l : List UInt8) (h : c ∉ l) : Lib.cut l [c] = (l, [], false) := by
  unfold Lib.cut
  rw [Lib.index_one, indexByte_no c l h, if_neg (by decide)]

/-- Is a byte a digit? -/
def digB (c : UInt8) : Bool := decide (48 ≤ c.toNat) && decide (c.toNat ≤ 57)
/-- Digits behind a number. -/
def foldD : Nat → List UInt8 → Option Nat
  | n, [] => some n
  | n, c :: r => if n * 10 + (c.toNat - 48) < 18446744073709551616 then foldD (n * 10 + (c.toNat - 48)) r else none
/-- What digits say, and an error's number. -/
def digitsP (l : List UInt8) : Nat × Int := if l = [] ∨ l.all digB = false then (0, 110) else match foldD 0 l with
  | some n => (n, 0)
  | none => (0, 111)
/-- What a number's text says, and an error's number. -/
def parseP (l : List UInt8) : Nat × Int := if 1 < l.length ∧ l.head? = some 48 then (0, 110) else digitsP l

theorem foldD_append : ∀ (a : List UInt8) (n : Nat) (c : UInt8), foldD n (a ++ [c]) = (foldD n a).bind fun m => if m * 10 + (c.toNat - 48) < 18446744073709551616 then some (m * 10 + (c.toNat - 48)) else none
  | [], n, c => by simp [foldD]
  | x :: a, n, c => by
    simp only [List.cons_append, foldD]
    split
    · exact foldD_append a _ c
    · rfl
theorem u8_ofNat {n : Nat} (h : n < 256) : (UInt8.ofNat n).toNat = n := by
  rw [UInt8.toNat_ofNat']
  exact Nat.mod_eq_of_lt h
theorem dec_ne (u : Nat) : Lib.decDigits u ≠ [] := by
  intro h
  have := congrArg List.length h
  rw [Lib.decDigits_length] at this
  have := Lib.nDigits_pos u
  simp at *
  omega
theorem dec_all (u : Nat) : (Lib.decDigits u).all digB = true := by
  induction u using Nat.strongRecOn with
  | _ u ih =>
    rw [Lib.decDigits]
    split
    · simp [digB, u8_ofNat (show 48 + u < 256 by omega)]; omega
    · rw [List.all_append, ih (u / 10) (by omega)]
      simp [digB, u8_ofNat (show 48 + u % 10 < 256 by omega)]; omega
theorem dec_fold (u : Nat) (hu : u < 18446744073709551616) : foldD 0 (Lib.decDigits u) = some u := by
  induction u using Nat.strongRecOn with
  | _ u ih =>
    rw [Lib.decDigits]
    split
    · simp [foldD, u8_ofNat (show 48 + u < 256 by omega)]; omega
    · rw [foldD_append, ih (u / 10) (by omega) (by omega), Option.bind_some, u8_ofNat (show 48 + u % 10 < 256 by omega)]
      have : u / 10 * 10 + (48 + u % 10 - 48) = u := by omega
      rw [this, if_pos hu]
theorem dec_head (u : Nat) (h : 1 ≤ u) : (Lib.decDigits u).head? ≠ some 48 := by
  induction u using Nat.strongRecOn with
  | _ u ih =>
    rw [Lib.decDigits]
    split
    · intro h2
      have h3 : UInt8.ofNat (48 + u) = 48 := by simpa using h2
      have := congrArg UInt8.toNat h3
      rw [u8_ofNat (by omega)] at this
      have e : (48 : UInt8).toNat = 48 := rfl
      omega
    · have hne := dec_ne (u / 10)
      have hi := ih (u / 10) (by omega) (by omega)
      cases hd : Lib.decDigits (u / 10) with
      | nil => exact absurd hd hne
      | cons x l => rw [hd] at hi; simpa using hi
/-- A number's text says the number. -/
theorem parse_dec (u : Nat) (hu : u < 18446744073709551616) : parseP (Lib.decDigits u) = (u, 0) := by
  unfold parseP
  rw [if_neg ?_]
  · unfold digitsP
    rw [if_neg (by simp [dec_ne, dec_all]), dec_fold u hu]
  · rintro ⟨h1, h2⟩
    by_cases h : u < 10
    · rw [Lib.decDigits_one h] at h1; simp at h1
    · exact dec_head u (by omega) h2
theorem dec_no (u : Nat) (c : UInt8) (h : digB c = false) : c ∉ Lib.decDigits u := by
  intro hm
  have := List.all_eq_true.1 (dec_all u) c hm
  rw [h] at this
  cases this
end Go.Proofs.YtaejmginhkbbhaaGreatDoor
