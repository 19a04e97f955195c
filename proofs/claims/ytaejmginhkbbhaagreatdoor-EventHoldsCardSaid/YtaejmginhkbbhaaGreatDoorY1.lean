/- What Encode and Comment tell, in plain words: lines' bytes, the lines of an event; which events may be. Conditions: as each theorem says. -/
import Derived.Test.YtaejmginhkbbhaaGreatDoorW8
import Derived.Test.YtaejmginhkbbhaaGreatDoorPd
import Derived.Test.YtaejmginhkbbhaaGreatDoorPs
set_option linter.unusedSimpArgs false
set_option linter.unusedVariables false
set_option maxRecDepth 100000
set_option maxHeartbeats 1000000
namespace Go.Proofs.YtaejmginhkbbhaaGreatDoor
open Go Go.RowKit
theorem trim_sp (v : List UInt8) : Lib.trimPrefix (32 :: v) [32] = v := by
  simp [Lib.trimPrefix, Lib.hasPrefix]
theorem trim_nil : Lib.trimPrefix ([] : List UInt8) [32] = [] := by
  simp [Lib.trimPrefix, Lib.hasPrefix]
theorem of_name (k : Nat) (nm v : List UInt8) (hk : kindP nm = k) (h2 : k ≠ 2) (hne : nm ≠ []) (hc : (58 : UInt8) ∉ nm) : lineP ⟨k, nm, v⟩ = (if v = [] then nm else nm ++ 58 :: 32 :: v) ∧ ofP (lineP ⟨k, nm, v⟩) = ⟨k, nm, v⟩ := by
  cases v with
  | nil =>
    have hl : lineP ⟨k, nm, []⟩ = nm := by simp [lineP, h2]
    have ho : ofP nm = ⟨k, nm, []⟩ := by
      unfold ofP
      rw [cut_no 58 nm hc]
      simp [lineOf, hne, hk, trim_nil]
    rw [hl, ho]
    simp
  | cons x v =>
    have hl : lineP ⟨k, nm, x :: v⟩ = nm ++ 58 :: 32 :: x :: v := by simp [lineP, h2]
    have ho : ofP (nm ++ 58 :: 32 :: x :: v) = ⟨k, nm, x :: v⟩ := by
      unfold ofP
      rw [cut_at 58 nm _ hc]
      simp [lineOf, hne, hk, trim_sp]
    rw [hl, ho]
    simp
theorem told_name (k : Nat) (nm v : List UInt8) (hk : kindP nm = k) (h2 : k ≠ 2) (hne : nm ≠ []) (hc : (58 : UInt8) ∉ nm) : toldP ⟨k, nm, v⟩ = (if v = [] then nm else nm ++ 58 :: 32 :: v) ∧ ofP (toldP ⟨k, nm, v⟩) = ⟨k, nm, v⟩ := by
  have h := of_name k nm v hk h2 hne hc
  unfold toldP
  rw [if_pos h.2]
  exact h
theorem tl0_eq (l : List UInt8) : tl0 l = if l = [] then [105, 100] else [105, 100] ++ 58 :: 32 :: l := (told_name 5 [105, 100] l (by decide) (by decide) (by decide) (by decide)).1
theorem tl0_of (l : List UInt8) : ofP (tl0 l) = ⟨5, [105, 100], l⟩ := (told_name 5 [105, 100] l (by decide) (by decide) (by decide) (by decide)).2
theorem tl1_eq (l : List UInt8) : tl1 l = if l = [] then [101, 118, 101, 110, 116] else [101, 118, 101, 110, 116] ++ 58 :: 32 :: l := (told_name 4 [101, 118, 101, 110, 116] l (by decide) (by decide) (by decide) (by decide)).1
theorem tl1_of (l : List UInt8) : ofP (tl1 l) = ⟨4, [101, 118, 101, 110, 116], l⟩ := (told_name 4 [101, 118, 101, 110, 116] l (by decide) (by decide) (by decide) (by decide)).2
theorem tl2_eq (l : List UInt8) : tl2 l = if l = [] then [100, 97, 116, 97] else [100, 97, 116, 97] ++ 58 :: 32 :: l := (told_name 3 [100, 97, 116, 97] l (by decide) (by decide) (by decide) (by decide)).1
theorem tl2_of (l : List UInt8) : ofP (tl2 l) = ⟨3, [100, 97, 116, 97], l⟩ := (told_name 3 [100, 97, 116, 97] l (by decide) (by decide) (by decide) (by decide)).2
theorem comL_eq (l : List UInt8) : comL l = 58 :: 32 :: l := by
  have hl : lineP ⟨2, [], 32 :: l⟩ = 58 :: 32 :: l := by simp [lineP]
  have ho : ofP (58 :: 32 :: l) = ⟨2, [], 32 :: l⟩ := by
    unfold ofP
    rw [show (58 :: 32 :: l : List UInt8) = [] ++ 58 :: 32 :: l from rfl, cut_at 58 [] _ (by simp)]
    simp [lineOf]
  unfold comL toldP
  rw [hl, ho]
  simp
theorem tail_join (sep y : List UInt8) (r : List (List UInt8)) : Lib.joinTail sep (y :: r) = sep ++ Lib.join (y :: r) sep := by
  rw [Lib.join_cons]
  simp [Lib.joinTail, List.append_assoc]
theorem bytesOf_eq : ∀ ls : List (List UInt8), bytesOf ls = ls.flatMap (fun l => l ++ [10]) ++ [10]
  | [] => by
    unfold bytesOf
    rw [List.nil_append, Lib.join_cons]
    simp [Lib.joinTail]
  | x :: ls => by
    have ih := bytesOf_eq ls
    unfold bytesOf at ih ⊢
    rw [List.cons_append, Lib.join_cons]
    cases h : ls ++ [[], []] with
    | nil => simp at h
    | cons y r =>
      rw [h] at ih
      rw [tail_join, ih]
      simp [List.append_assoc]
theorem flat_len (B : Nat) : ∀ ls : List (List UInt8), (∀ x ∈ ls, x.length ≤ B) → (ls.flatMap (fun l => l ++ [10])).length ≤ ls.length * (B + 1)
  | [], _ => by simp
  | x :: ls, h => by
    have ih := flat_len B ls (fun y hy => h y (by simp [hy]))
    have h1 := h x (by simp)
    rw [List.flatMap_cons, List.length_append, List.length_append, show (x :: ls).length = ls.length + 1 from rfl, Nat.add_mul]
    simp only [List.length_cons, List.length_nil]
    omega
theorem bytesOf_com (l : List UInt8) : bytesOf [comL l] = 58 :: 32 :: (l ++ [10, 10]) := by
  rw [bytesOf_eq, comL_eq]
  simp
/-- No line of an event is too long. -/
theorem linesP_len (e : Ev) (h : e.id.length + e.ty.length + e.da.length ≤ 65536) : (linesP e).length ≤ 65540 ∧ ∀ x ∈ linesP e, x.length ≤ 65550 := by
  have hs := splitP_len 10 e.da
  have h0 : (someP e.id).length ≤ 1 := by unfold someP; split <;> simp
  have h1 : (someP e.ty).length ≤ 1 := by unfold someP; split <;> simp
  refine ⟨by unfold linesP; simp; omega, fun x hx => ?_⟩
  unfold linesP at hx
  simp only [List.mem_append, List.mem_map] at hx
  rcases hx with (⟨y, hy, rfl⟩ | ⟨y, hy, rfl⟩) | ⟨y, hy, rfl⟩
  · have := someP_len _ y hy
    rw [tl0_eq]; split <;> simp; omega
  · have := someP_len _ y hy
    rw [tl1_eq]; split <;> simp; omega
  · have := hs.1 y hy
    rw [tl2_eq]; split <;> simp; omega
theorem encP_len (e : Ev) (h : e.id.length + e.ty.length + e.da.length ≤ 65536) : (encP e).length ≤ 140737488355328 := by
  have h1 := linesP_len e h
  have h2 := flat_len 65550 (linesP e) h1.2
  have h3 : (linesP e).length * (65550 + 1) ≤ 65540 * (65550 + 1) := Nat.mul_le_mul_right _ h1.1
  unfold encP
  rw [bytesOf_eq, List.length_append]
  have h4 : ([10] : List UInt8).length = 1 := rfl
  omega
theorem checkP_small {e : Ev} (h : checkP e = true) : e.id.length + e.ty.length + e.da.length ≤ 65536 := by
  unfold checkP at h
  simp only [Bool.and_eq_true, decide_eq_true_eq] at h
  exact h.1.1.1.1
/-- Encode, where the event may be. -/
theorem encode_t (w0 : World) (hG : Glob w0) (e : Ev) (hch : checkP e = true) :
    Calls Tryz.prog 47 #[e.v] w0 fun en w' => ∃ v, en = .returned (.tuple #[v, .int .i64 0]) ∧ St [] w0 w' [rdS 1 v (encP e).length (bv (encP e))] := by
  have hs := checkP_small hch
  exact encode_y w0 hG e hs hch (by have := (linesP_len e hs).1; omega) (encP_len e hs)
/-- What stands between bytes of a kind, at the first one. -/
theorem splitP_at (c : UInt8) (b : List UInt8) : ∀ a : List UInt8, c ∉ a → splitP c (a ++ c :: b) = a :: splitP c b
  | [], _ => by simp [splitP]
  | x :: a, h => by
    have ih := splitP_at c b a (fun hm => h (by simp [hm]))
    have hx : x ≠ c := by rintro rfl; exact h (by simp)
    simp only [List.cons_append, splitP, if_neg hx, ih]
theorem splitP_no (c : UInt8) : ∀ l : List UInt8, c ∉ l → splitP c l = [l]
  | [], _ => rfl
  | x :: a, h => by
    have ih := splitP_no c a (fun hm => h (by simp [hm]))
    have hx : x ≠ c := by rintro rfl; exact h (by simp)
    simp only [splitP, if_neg hx, ih]
theorem splitP_sound (c : UInt8) (hc : c.toNat < 128) : ∀ (n : Nat) (l : List UInt8), l.length ≤ n → sound l = true → ∀ x ∈ splitP c l, sound x = true ∧ ∀ y ∈ x, y ∈ l
  | 0, l, hl, hs, x, hx => by
    have : l = [] := List.eq_nil_of_length_eq_zero (by omega)
    subst this
    simp [splitP] at hx
    subst hx
    exact ⟨hs, fun y hy => hy⟩
  | n + 1, l, hl, hs, x, hx => by
    by_cases hm : c ∈ l
    · obtain ⟨a, b, rfl, ha⟩ := List.eq_append_cons_of_mem hm
      rw [splitP_at c b a ha] at hx
      obtain ⟨ps, hv, hp⟩ := sound_pts _ hs
      have h2 := sound_split c hc ps a b hv hp
      rcases List.mem_cons.1 hx with rfl | hx
      · exact ⟨h2.1, fun y hy => by simp [hy]⟩
      · have h3 := splitP_sound c hc n b (by simp at hl; omega) h2.2 x hx
        exact ⟨h3.1, fun y hy => by simp [h3.2 y hy]⟩
    · rw [splitP_no c l hm] at hx
      simp at hx
      subst hx
      exact ⟨hs, fun y hy => hy⟩
theorem hasP_sub {a b sg : List UInt8} (h : ∀ y ∈ a, y ∈ b) (hb : hasP b sg = false) : hasP a sg = false := by
  unfold hasP at hb ⊢
  rw [List.any_eq_false] at hb ⊢
  exact fun x hx => hb x (h x hx)
/-- May an event be? As the document says. -/
def rightQ (e : Ev) : Bool := decide (e.id.length + e.ty.length + e.da.length ≤ 65536) && textP [0, 13, 10] e.id && textP [13, 10] e.ty && textP [13] e.da
theorem sound_nil : sound [] = true := rfl
theorem someP_all (sg l : List UInt8) : (someP l).all (textP sg) = textP sg l := by
  unfold someP
  split
  · rename_i h
    subst h
    simp [textP, hasP, sound_nil]
  · simp
theorem checkP_eq (e : Ev) : checkP e = rightQ e := by
  unfold checkP rightQ
  rw [someP_all, someP_all]
  cases h : textP [13] e.da with
  | false => simp
  | true =>
    have h2 : (splitP 10 e.da).all (textP [13]) = true := by
      rw [List.all_eq_true]
      intro x hx
      unfold textP at h ⊢
      simp only [Bool.and_eq_true, Bool.not_eq_true'] at h ⊢
      have h3 := splitP_sound 10 (by decide) _ _ (Nat.le_refl _) h.2 x hx
      exact ⟨hasP_sub h3.2 h.1, h3.1⟩
    rw [h2]
    simp
end Go.Proofs.YtaejmginhkbbhaaGreatDoor
