/- Sound texts, in plain words: they are the bytes of points; ASCII texts are sound; pieces of a sound text are sound. Conditions: none; no program in sight. -/
import Derived.Test.YtaejmginhkbbhaaGreatDoorPu
import Derived.Test.YtaejmginhkbbhaaGreatDoorPd
set_option linter.unusedSimpArgs false
set_option linter.unusedVariables false
namespace Go.Proofs.YtaejmginhkbbhaaGreatDoor
theorem lead_fin : ∀ L : Fin 256, leadIdx L.val = (if L.val < 128 then some 0 else if L.val < 194 then none else if L.val < 224 then some 1 else if L.val = 224 then some 2 else if L.val < 237 then some 3 else if L.val = 237 then some 4 else if L.val < 240 then some 5 else if L.val = 240 then some 6 else if L.val < 244 then some 7 else if L.val = 244 then some 8 else none) := by decide +kernel
theorem lead_cls (L : Nat) (h : L < 256) : leadIdx L = (if L < 128 then some 0 else if L < 194 then none else if L < 224 then some 1 else if L = 224 then some 2 else if L < 237 then some 3 else if L = 237 then some 4 else if L < 240 then some 5 else if L = 240 then some 6 else if L < 244 then some 7 else if L = 244 then some 8 else none) := lead_fin ⟨L, h⟩
theorem firstP_some (c : UInt8) (r : List UInt8) (i : Nat) (h : leadIdx c.toNat = some i) : firstP (c :: r) = contP ((ld i).2.2.1 - 1) 1 (if 1 < (ld i).2.2.1 then c.toNat % 2 ^ (7 - (ld i).2.2.1) else c.toNat) (ld i).2.2.2.1 (ld i).2.2.2.2 r := by
  simp only [firstP, h]
theorem contP_ok (k many pt lo hi : Nat) (c : UInt8) (r : List UInt8) (h1 : lo ≤ c.toNat) (h2 : c.toNat ≤ hi) : contP (k + 1) many pt lo hi (c :: r) = contP k (many + 1) (pt * 64 + c.toNat % 64) 128 191 r := by
  simp only [contP]
  rw [if_neg (by omega)]
theorem contP_zero (many pt lo hi : Nat) (r : List UInt8) : contP 0 many pt lo hi r = (pt, many, true) := by cases r <;> rfl
/-- The first point of a point's bytes is the point. -/
theorem firstP_pt (p : Nat) (hv : validPt p) (r : List UInt8) : firstP (ptBytes p ++ r) = (p, (ptBytes p).length, true) := by
  obtain ⟨hv1, hv2⟩ := hv
  unfold ptBytes
  split
  · rename_i h
    have e := u8_ofNat (show p < 256 by omega)
    rw [List.singleton_append, firstP_some _ _ 0 (by rw [e, lead_cls p (by omega)]; simp [h]), e]
    simp [ld, lds, contP_zero]
  · split
    · rename_i h1 h2
      have e := u8_ofNat (show 192 + p / 64 < 256 by omega)
      have e2 := u8_ofNat (show 128 + p % 64 < 256 by omega)
      have hl : leadIdx (192 + p / 64) = some 1 := by
        rw [lead_cls _ (by omega), if_neg (by omega), if_neg (by omega), if_pos (by omega)]
      rw [List.cons_append, firstP_some _ _ 1 (by rw [e]; exact hl), e]
      simp only [ld, lds, List.getD_cons_succ, List.getD_cons_zero, List.singleton_append, Nat.reduceSub, Nat.reduceLT, if_true, Nat.reducePow]
      rw [contP_ok 0 _ _ _ _ _ _ (by rw [e2]; omega) (by rw [e2]; omega), contP_zero, e2]
      rw [Prod.mk.injEq]
      exact ⟨by omega, rfl⟩
    · split
      · rename_i h1 h2 h3
        have e := u8_ofNat (show 224 + p / 4096 < 256 by omega)
        have e2 := u8_ofNat (show 128 + p / 64 % 64 < 256 by omega)
        have e3 := u8_ofNat (show 128 + p % 64 < 256 by omega)
        have hl : ∃ i, leadIdx (224 + p / 4096) = some i ∧ (ld i).2.2.1 = 3 ∧ (ld i).2.2.2.1 ≤ 128 + p / 64 % 64 ∧ 128 + p / 64 % 64 ≤ (ld i).2.2.2.2 := by
          rw [lead_cls _ (by omega), if_neg (by omega), if_neg (by omega), if_neg (by omega)]
          by_cases c1 : 224 + p / 4096 = 224
          · rw [if_pos c1]; exact ⟨2, rfl, rfl, by simp [ld, lds]; omega, by simp [ld, lds]; omega⟩
          · rw [if_neg c1]
            by_cases c2 : 224 + p / 4096 < 237
            · rw [if_pos c2]; exact ⟨3, rfl, rfl, by simp [ld, lds], by simp [ld, lds]; omega⟩
            · rw [if_neg c2]
              by_cases c3 : 224 + p / 4096 = 237
              · rw [if_pos c3]; exact ⟨4, rfl, rfl, by simp [ld, lds], by simp [ld, lds]; omega⟩
              · rw [if_neg c3, if_pos (by omega)]
                exact ⟨5, rfl, rfl, by simp [ld, lds], by simp [ld, lds]; omega⟩
        obtain ⟨i, hl, hm, hlo, hhi⟩ := hl
        rw [List.cons_append, firstP_some _ _ i (by rw [e]; exact hl), e, hm]
        simp only [List.cons_append, List.nil_append, Nat.reduceSub, Nat.reduceLT, if_true, Nat.reducePow]
        rw [contP_ok 1 _ _ _ _ _ _ (by rw [e2]; exact hlo) (by rw [e2]; exact hhi), contP_ok 0 _ _ _ _ _ _ (by rw [e3]; omega) (by rw [e3]; omega), contP_zero, e2, e3]
        rw [Prod.mk.injEq]
        exact ⟨by omega, rfl⟩
      · rename_i h1 h2 h3
        have e := u8_ofNat (show 240 + p / 262144 < 256 by omega)
        have e2 := u8_ofNat (show 128 + p / 4096 % 64 < 256 by omega)
        have e3 := u8_ofNat (show 128 + p / 64 % 64 < 256 by omega)
        have e4 := u8_ofNat (show 128 + p % 64 < 256 by omega)
        have hl : ∃ i, leadIdx (240 + p / 262144) = some i ∧ (ld i).2.2.1 = 4 ∧ (ld i).2.2.2.1 ≤ 128 + p / 4096 % 64 ∧ 128 + p / 4096 % 64 ≤ (ld i).2.2.2.2 := by
          rw [lead_cls _ (by omega), if_neg (by omega), if_neg (by omega), if_neg (by omega), if_neg (by omega), if_neg (by omega), if_neg (by omega), if_neg (by omega)]
          by_cases c1 : 240 + p / 262144 = 240
          · rw [if_pos c1]; exact ⟨6, rfl, rfl, by simp [ld, lds]; omega, by simp [ld, lds]; omega⟩
          · rw [if_neg c1]
            by_cases c2 : 240 + p / 262144 < 244
            · rw [if_pos c2]; exact ⟨7, rfl, rfl, by simp [ld, lds], by simp [ld, lds]; omega⟩
            · rw [if_neg c2, if_pos (by omega)]
              exact ⟨8, rfl, rfl, by simp [ld, lds], by simp [ld, lds]; omega⟩
        obtain ⟨i, hl, hm, hlo, hhi⟩ := hl
        rw [List.cons_append, firstP_some _ _ i (by rw [e]; exact hl), e, hm]
        simp only [List.cons_append, List.nil_append, Nat.reduceSub, Nat.reduceLT, if_true, Nat.reducePow]
        rw [contP_ok 2 _ _ _ _ _ _ (by rw [e2]; exact hlo) (by rw [e2]; exact hhi), contP_ok 1 _ _ _ _ _ _ (by rw [e3]; omega) (by rw [e3]; omega), contP_ok 0 _ _ _ _ _ _ (by rw [e4]; omega) (by rw [e4]; omega), contP_zero, e2, e3, e4]
        rw [Prod.mk.injEq]
        exact ⟨by omega, rfl⟩
theorem ptBytes_ne (p : Nat) : ptBytes p ≠ [] := by
  unfold ptBytes
  split
  · simp
  · split
    · simp
    · split <;> simp
/-- The points of points' bytes. -/
theorem pts_bytes : ∀ (ps : List Nat) (at_ : Nat), (∀ p ∈ ps, validPt p) → (ptsAt at_ (ps.flatMap ptBytes)).1.map Prod.snd = ps ∧ (ptsAt at_ (ps.flatMap ptBytes)).2 = []
  | [], at_, _ => ⟨rfl, rfl⟩
  | p :: ps, at_, h => by
    have hf := firstP_pt p (h p (by simp)) (ps.flatMap ptBytes)
    have ih := pts_bytes ps (at_ + (ptBytes p).length) (fun q hq => h q (by simp [hq]))
    rw [List.flatMap_cons]
    cases hb : ptBytes p with
    | nil => exact absurd hb (ptBytes_ne p)
    | cons c t =>
      rw [hb] at hf ih
      rw [List.cons_append] at hf ⊢
      rw [ptsAt_cons, hf]
      simp only [if_true, List.map_cons]
      have e : (c :: (t ++ ps.flatMap ptBytes)).drop (c :: t).length = ps.flatMap ptBytes := by
        rw [← List.cons_append, List.drop_left]
      rw [e]
      exact ⟨by rw [ih.1], ih.2⟩
theorem sound_of (ps : List Nat) (h : ∀ p ∈ ps, validPt p) : sound (ps.flatMap ptBytes) = true := by
  have h1 := pts_bytes ps 0 h
  unfold sound utf8Of told toldAt
  rw [h1.2]
  simp [h1.1]
theorem sound_pts (b : List UInt8) (h : sound b = true) : ∃ ps : List Nat, (∀ p ∈ ps, validPt p) ∧ b = ps.flatMap ptBytes := by
  refine ⟨told b, fun p hp => ?_, ?_⟩
  · obtain ⟨x, hx, rfl⟩ := List.mem_map.1 hp
    exact toldAt_valid b x hx
  · have : utf8Of b = b := by simpa [sound] using h
    exact this.symm
/-- ASCII texts are sound. -/
theorem sound_ascii (b : List UInt8) (h : ∀ c ∈ b, c.toNat < 128) : sound b = true := by
  have e : b = (b.map UInt8.toNat).flatMap ptBytes := by
    induction b with
    | nil => rfl
    | cons c b ih =>
      have h1 := h c (by simp)
      rw [List.map_cons, List.flatMap_cons, ← ih (fun d hd => h d (by simp [hd]))]
      simp [ptBytes, h1]
  rw [e]
  refine sound_of _ (fun p hp => ?_)
  obtain ⟨c, hc, rfl⟩ := List.mem_map.1 hp
  have := h c hc
  exact ⟨by omega, by omega⟩
theorem ptBytes_high (p : Nat) (hv : validPt p) (c : UInt8) (hc : c ∈ ptBytes p) (h : c.toNat < 128) : ptBytes p = [c] := by
  obtain ⟨hv1, hv2⟩ := hv
  unfold ptBytes at hc ⊢
  split at hc
  · rename_i h1
    rw [if_pos h1]
    simp at hc
    rw [hc]
  · exfalso
    split at hc
    · simp only [List.mem_cons, List.not_mem_nil, or_false] at hc
      rcases hc with rfl | rfl <;> rw [u8_ofNat (by omega)] at h <;> omega
    · split at hc
      · simp only [List.mem_cons, List.not_mem_nil, or_false] at hc
        rcases hc with rfl | rfl | rfl <;> rw [u8_ofNat (by omega)] at h <;> omega
      · simp only [List.mem_cons, List.not_mem_nil, or_false] at hc
        rcases hc with rfl | rfl | rfl | rfl <;> rw [u8_ofNat (by omega)] at h <;> omega
/-- What stands on either side of an ASCII byte of a sound text is sound. -/
theorem sound_split (x : UInt8) (hx : x.toNat < 128) : ∀ (ps : List Nat) (a b : List UInt8), (∀ p ∈ ps, validPt p) → a ++ x :: b = ps.flatMap ptBytes → sound a = true ∧ sound b = true
  | [], a, b, _, h => by simp at h
  | p :: ps, a, b, hv, h => by
    rw [List.flatMap_cons] at h
    have hvp := hv p (by simp)
    have hvs : ∀ q ∈ ps, validPt q := fun q hq => hv q (by simp [hq])
    by_cases hm : x ∈ ptBytes p
    · have e := ptBytes_high p hvp x hm hx
      rw [e] at h
      cases a with
      | nil =>
        simp at h
        exact ⟨rfl, by rw [h]; exact sound_of ps hvs⟩
      | cons y a =>
        simp only [List.cons_append, List.nil_append, List.cons.injEq] at h
        obtain ⟨rfl, h⟩ := h
        have ih := sound_split y hx ps a b hvs h
        refine ⟨?_, ih.2⟩
        obtain ⟨qs, hq, rfl⟩ := sound_pts a ih.1
        have : y :: qs.flatMap ptBytes = (p :: qs).flatMap ptBytes := by rw [List.flatMap_cons, e]; rfl
        rw [this]
        exact sound_of _ (fun q hq2 => by
          rcases List.mem_cons.1 hq2 with rfl | h3
          · exact hvp
          · exact hq q h3)
    · rcases List.append_eq_append_iff.1 h with ⟨as, h1, h2⟩ | ⟨bs, h1, h2⟩
      · cases as with
        | nil =>
          rw [List.append_nil] at h1
          have ih := sound_split x hx ps [] b hvs (by simpa using h2)
          refine ⟨?_, ih.2⟩
          rw [← h1]
          have := sound_of [p] (by simpa using hvp)
          simpa using this
        | cons z t =>
          simp only [List.cons_append, List.cons.injEq] at h2
          exact absurd (by rw [h1, ← h2.1]; simp) hm
      · have ih := sound_split x hx ps bs b hvs h2.symm
        refine ⟨?_, ih.2⟩
        obtain ⟨qs, hq, rfl⟩ := sound_pts bs ih.1
        have : a = (p :: qs).flatMap ptBytes := by rw [List.flatMap_cons, h1]
        rw [this]
        exact sound_of _ (fun q hq2 => by
          rcases List.mem_cons.1 hq2 with rfl | h3
          · exact hvp
          · exact hq q h3)
end Go.Proofs.YtaejmginhkbbhaaGreatDoor
