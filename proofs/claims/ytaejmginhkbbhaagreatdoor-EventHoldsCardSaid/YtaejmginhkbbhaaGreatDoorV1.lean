/- Texts gone over rune by rune, and the walks through package event, first part (F121, F191, F122). Conditions: as each contract says. -/
import Derived.Test.YtaejmginhkbbhaaGreatDoorU6
import Derived.Lib.OthersKept
import Derived.Laws.RangeAny
set_option linter.unusedSimpArgs false
set_option linter.unusedVariables false
set_option maxRecDepth 100000
set_option maxHeartbeats 1000000
namespace Go.Proofs.YtaejmginhkbbhaaGreatDoor
open Go Go.RowKit

section
variable {P : Program} {ops : Array Oper} {Q : Exit → Act → World → Prop} {a : Act} {S : List Nat} {w W : World} {L L' : List Chunk} {rest : List Oper}
  {dst : Option Tmp} {ty : TypeId} {pos : String} {after : Array Edge} {F : Fence} {fn : Nat}
theorem St.iter {b : Nat} {s : ByteArray} {p p' : Nat} (h : St S w W L) (hu : Upd L (blk b (.stringIter s p)) (blk b (.stringIter s p')) L') : St S w (W.iterAt b s p') L' := by
  have hc : W.heap[b]? = some (.stringIter s p) := (h.ok _ hu.mem).1
  have h1 := Lib.iterAt_heap W b s p p' hc
  have hlt := (Array.getElem?_eq_some_iff.1 hc).1
  refine h.step hu ⟨rfl, rfl, rfl, ?_, fun k hk hn => ?_⟩ h1 (fun x hx => ?_)
  · simp [World.iterAt]
  · have hne : k ≠ b := by simpa [blk] using hn
    simp [World.iterAt, Array.getElem?_setIfInBounds, Ne.symm hne]
  · have hxb : x = b := by simpa [blk] using hx
    subst hxb
    exact ⟨(Array.getElem?_eq_some_iff.1 h1).1, .inl (by simp [blk])⟩
theorem l_range {t : TypeId} [hs : Str P t] {x : Operand} {l : List UInt8} (hS : St S w W L) (hx : a.eval x = txt l)
    (hk : ∀ b W', St S w W' (blk b (.stringIter ⟨l.toArray⟩ 0) :: L) → wpList P ops Q rest (a.put dst (.pointer (some ⟨b, 0, none⟩))) W') : wpList P ops Q (⟨dst, .range t x, ty, pos, after, none⟩ :: rest) a W := by
  refine wpList_val rfl ?_ (hk W.heap.size (W.alloc (.stringIter ⟨l.toArray⟩ 0)) (hS.allocObj _))
  have h := run_range_string (P := P) W t ⟨l.toArray⟩ hs.str
  simp only [execOp, hx, Sem.run_bind, h]
  rfl
theorem l_nextS {x : Operand} {b p r wd : Nat} {l : List UInt8} (hS : St S w W L) (hx : a.eval x = .pointer (some ⟨b, 0, none⟩)) (hu : Upd L (blk b (.stringIter ⟨l.toArray⟩ p)) (blk b (.stringIter ⟨l.toArray⟩ (p + wd))) L') (hp : p < l.length) (hd : Hid (Utf8.decode ⟨l.toArray⟩ p = (r, wd)))
    (hk : ∀ W', St S w W' L' → wpList P ops Q rest (a.put dst (.tuple #[.bool true, .int .i64 (p : Int), .int .i32 (r : Int)])) W') : wpList P ops Q (⟨dst, .next x true, ty, pos, after, none⟩ :: rest) a W := by
  have hc : W.heap[b]? = some (.stringIter ⟨l.toArray⟩ p) := (hS.ok _ hu.mem).1
  have h := Lib.run_next_any_at (P := P) W b ⟨l.toArray⟩ p ty hc (by rw [size_mk]; exact hp)
  rw [hd.out] at h
  refine wpList_val rfl ?_ (hk _ (hS.iter hu))
  simp only [execOp, hx, Sem.run_bind, h]
  rfl
theorem l_nextE {x : Operand} {b p : Nat} {l : List UInt8} (hS : St S w W L) (hx : a.eval x = .pointer (some ⟨b, 0, none⟩)) (hc : Has L (blk b (.stringIter ⟨l.toArray⟩ p))) (hp : l.length ≤ p)
    (hk : wpList P ops Q rest (a.put dst (.tuple #[.bool false])) W) : wpList P ops Q (⟨dst, .next x true, ty, pos, after, none⟩ :: rest) a W := by
  have h := Lib.run_next_end_at (P := P) W b ⟨l.toArray⟩ p ty (hS.get hc) (by rw [size_mk]; omega)
  refine wpList_val rfl ?_ hk
  simp only [execOp, hx, Sem.run_bind, h]
  rfl
end

theorem get_mk (l : List UInt8) (i : Nat) (h : i < l.length) : (ByteArray.mk l.toArray).get! i = l.getD i 0 := by
  simp [ByteArray.get!, List.getD, h]
/-- What a rune's bytes are: an ASCII byte is itself; else all of them are none. -/
theorem decode_skip (l : List UInt8) (p : Nat) (h : p < l.length) :
    ((l.getD p 0).toNat < 128 ∧ Utf8.decode ⟨l.toArray⟩ p = ((l.getD p 0).toNat, 1)) ∨
    (128 ≤ (l.getD p 0).toNat ∧ 128 ≤ (Utf8.decode ⟨l.toArray⟩ p).1 ∧ 1 ≤ (Utf8.decode ⟨l.toArray⟩ p).2 ∧ ∀ j, p < j → j < p + (Utf8.decode ⟨l.toArray⟩ p).2 → j < l.length ∧ 128 ≤ (l.getD j 0).toNat) := by
  have hs : (ByteArray.mk l.toArray).size = l.length := size_mk l
  have h0 : ((ByteArray.mk l.toArray)[p]'(by rw [hs]; exact h)) = l.getD p 0 := by
    have := get_mk l p h
    simp [List.getD, h]
    rfl
  by_cases ha : (l.getD p 0).toNat < 128
  · left
    refine ⟨ha, ?_⟩
    have := decode_ascii ⟨l.toArray⟩ p (by rw [hs]; exact h) (by rw [h0]; exact ha)
    rw [this, h0]
  · right
    have hh := decode_high ⟨l.toArray⟩ p (by rw [hs]; exact h) (by rw [h0]; omega)
    refine ⟨by omega, hh.1, hh.2, ?_⟩
    intro j hj hj2
    have hcont : ∀ k, (decide (p + k < (ByteArray.mk l.toArray).size) && ((ByteArray.mk l.toArray).get! (p + k)).toNat / 64 == 2) = true → p + k < l.length ∧ 128 ≤ (l.getD (p + k) 0).toNat := by
      intro k hk
      rw [hs] at hk
      simp only [Bool.and_eq_true, decide_eq_true_eq, beq_iff_eq] at hk
      refine ⟨hk.1, ?_⟩
      rw [get_mk l _ hk.1] at hk
      omega
    simp only [Utf8.decode] at hj2
    clear h0 hh ha h
    repeat' split at hj2
    all_goals simp only [Bool.and_eq_true, decide_eq_true_eq, beq_iff_eq] at *
    all_goals (try (exfalso; omega))
    all_goals
      have h3 : j = p + 1 ∨ j = p + 2 ∨ j = p + 3 := by omega
      rcases h3 with rfl | rfl | rfl
    all_goals first
      | (exfalso; omega)
      | (refine hcont 1 ⟨?_, ?_⟩ <;> omega)
      | (refine hcont 2 ⟨?_, ?_⟩ <;> omega)
      | (refine hcont 3 ⟨?_, ?_⟩ <;> omega)
/-- Is one of some bytes in a text? -/
def hasP (l sg : List UInt8) : Bool := l.any fun c => sg.contains c
theorem hasP_skip (sg : List UInt8) : ∀ (w p : Nat) (l : List UInt8), (∀ j, p ≤ j → j < p + w → j < l.length ∧ sg.contains (l.getD j 0) = false) → hasP (l.drop p) sg = hasP (l.drop (p + w)) sg
  | 0, p, l, _ => rfl
  | w + 1, p, l, h => by
    obtain ⟨h1, h2⟩ := h p (Nat.le_refl _) (by omega)
    rw [List.drop_eq_getElem_cons h1]
    have h3 : l.getD p 0 = l[p] := by simp [List.getD, h1]
    rw [h3] at h2
    have := hasP_skip sg w (p + 1) l (fun j hj hj2 => h j (by omega) (by omega))
    rw [show p + 1 + w = p + (w + 1) from by omega] at this
    rw [← this]
    simp only [hasP, List.any_cons, h2, Bool.false_or]
theorem hasP_hit (sg : List UInt8) (p : Nat) (l : List UInt8) (h : p < l.length) (hc : sg.contains (l.getD p 0) = true) : hasP (l.drop p) sg = true := by
  rw [List.drop_eq_getElem_cons h]
  have h3 : l.getD p 0 = l[p] := by simp [List.getD, h]
  rw [h3] at hc
  simp only [hasP, List.any_cons, hc, Bool.true_or]
theorem not_contains {sg : List UInt8} {c : UInt8} (h : ∀ i, i < sg.length → (sg.getD i 0).toNat ≠ c.toNat) : sg.contains c = false := by
  rw [Bool.eq_false_iff]
  intro hc
  have hm : c ∈ sg := by simpa using hc
  obtain ⟨i, hi, rfl⟩ := List.mem_iff_getElem.1 hm
  exact h i hi (by simp [List.getD, hi])

theorem hasAny_c (w0 : World) (l sg : List UInt8) (hsg : ∀ c ∈ sg, c.toNat < 128) (hl : l.length ≤ 140737488355328) :
    Calls Tryz.prog 191 #[txt l, txt sg] w0 fun e w' => e = .returned (.bool (hasP l sg)) ∧ Fr [] w0 w' := by
  obtain ⟨R, hR⟩ : ∃ R, R = hasP l sg := ⟨_, rfl⟩
  rw [← hR]
  have HR := Lib.hid hR
  have Hsg := Lib.hid hsg
  clear hR hsg
  go_enter Tryz.func191, Tryz.ntmps191
  have hS := St.start [] w0
  go_wp2_with (first | ((with_reducible apply l_want); rfl) | ((with_reducible apply l_range); assumption; rfl; clear hS; intro b0 w hS) | ((with_reducible apply l_alloc); assumption; rfl; clear hS; intro b w hS) | ((with_reducible apply l_box); assumption; rfl; clear hS; intro b w hS) | ((with_reducible apply l_load); assumption; rfl; (repeat (first | exact Has.head | apply Has.tail)); (first | rfl | (simp [takeV]; done))) | ((with_reducible apply l_build); rfl; (simp [fillL, splice, Value.cells, Act.eval]; rfl)) | ((with_reducible apply l_buildA); rfl; (simp [fillL, splice, Value.cells, Act.eval]; rfl)) | ((with_reducible apply l_bslice); assumption; rfl; rfl; (simp [fillL, splice, zeros, Value.cells, Act.eval]; rfl); clear hS; intro b w hS) | ((with_reducible apply l_storeF); assumption; rfl; rfl; (repeat (first | exact Upd.head | apply Upd.tail)); rfl; clear hS; intro w hS) | ((with_reducible apply l_store); assumption; rfl; rfl; (repeat (first | exact Upd.head | apply Upd.tail)); rfl; clear hS; intro w hS; simp only [splice] at hS; try rw [splice_nil] at hS))
  try go_frame
  go_loopg [6] l.length (fun g c wr => ∃ p : Nat, p + g = l.length ∧ Hid (R = hasP (l.drop p) sg) ∧ St [] w0 wr [blk b0 (.stringIter ⟨l.toArray⟩ p)])
  case atStart => exact ⟨0, by omega, HR, hS⟩
  case round =>
    obtain ⟨p, hpg, HRp, hS⟩ := hrel
    by_cases hp : p < l.length
    · obtain ⟨r, wd, hdd⟩ : ∃ r wd, Utf8.decode ⟨l.toArray⟩ p = (r, wd) := ⟨_, _, rfl⟩
      have hsk := decode_skip l p hp
      rw [hdd] at hsk
      have Hdd := Lib.hid hdd
      have Hsk := Lib.hid hsk
      clear hdd hsk
      go_wp2_with (first | ((with_reducible apply l_want); rfl) | ((with_reducible apply l_nextS); assumption; rfl; (repeat (first | exact Upd.head | apply Upd.tail)); assumption; assumption; clear hS; intro w hS) | ((with_reducible apply l_range); assumption; rfl; clear hS; intro b1 w hS) | ((with_reducible apply l_alloc); assumption; rfl; clear hS; intro b w hS) | ((with_reducible apply l_box); assumption; rfl; clear hS; intro b w hS) | ((with_reducible apply l_load); assumption; rfl; (repeat (first | exact Has.head | apply Has.tail)); (first | rfl | (simp [takeV]; done))) | ((with_reducible apply l_build); rfl; (simp [fillL, splice, Value.cells, Act.eval]; rfl)) | ((with_reducible apply l_buildA); rfl; (simp [fillL, splice, Value.cells, Act.eval]; rfl)) | ((with_reducible apply l_bslice); assumption; rfl; rfl; (simp [fillL, splice, zeros, Value.cells, Act.eval]; rfl); clear hS; intro b w hS) | ((with_reducible apply l_storeF); assumption; rfl; rfl; (repeat (first | exact Upd.head | apply Upd.tail)); rfl; clear hS; intro w hS) | ((with_reducible apply l_store); assumption; rfl; rfl; (repeat (first | exact Upd.head | apply Upd.tail)); rfl; clear hS; intro w hS; simp only [splice] at hS; try rw [splice_nil] at hS))
      try go_frame
      go_loopg [8] sg.length (fun g d wr => ∃ q : Nat, q + g = sg.length ∧ Hid (∀ i, i < q → (sg.getD i 0).toNat ≠ r) ∧ St [] w0 wr [blk b1 (.stringIter ⟨sg.toArray⟩ q), blk b0 (.stringIter ⟨l.toArray⟩ (p + wd))])
      case atStart => exact ⟨0, by omega, Lib.hid (fun i hi => by omega), hS⟩
      case round =>
        obtain ⟨q, hqg, HN, hS⟩ := hrel
        by_cases hq : q < sg.length
        · have hsk := decode_skip sg q hq
          have hsa := Hsg.out (sg.getD q 0) (by simp [List.getD, hq])
          obtain ⟨d, hd⟩ : ∃ d, d = (sg.getD q 0).toNat := ⟨_, rfl⟩
          have hdd : Utf8.decode ⟨sg.toArray⟩ q = (d, 1) := by
            rcases hsk with h | h
            · rw [hd]; exact h.2
            · omega
          have Hd2 := Lib.hid hdd
          have Hd := Lib.hid hd
          have hd128 : d < 128 := by omega
          clear hdd hd hsk hsa
          by_cases hrd : r = d
          · have Hrd := Lib.hid hrd
            subst hrd
            go_wp2_with (first | ((with_reducible apply l_want); rfl) | ((with_reducible apply l_nextS); assumption; rfl; (repeat (first | exact Upd.head | apply Upd.tail)); assumption; exact Hd2; clear hS; intro w hS) | ((with_reducible apply l_alloc); assumption; rfl; clear hS; intro b w hS) | ((with_reducible apply l_box); assumption; rfl; clear hS; intro b w hS) | ((with_reducible apply l_load); assumption; rfl; (repeat (first | exact Has.head | apply Has.tail)); (first | rfl | (simp [takeV]; done))) | ((with_reducible apply l_build); rfl; (simp [fillL, splice, Value.cells, Act.eval]; rfl)) | ((with_reducible apply l_buildA); rfl; (simp [fillL, splice, Value.cells, Act.eval]; rfl)) | ((with_reducible apply l_bslice); assumption; rfl; rfl; (simp [fillL, splice, zeros, Value.cells, Act.eval]; rfl); clear hS; intro b w hS) | ((with_reducible apply l_storeF); assumption; rfl; rfl; (repeat (first | exact Upd.head | apply Upd.tail)); rfl; clear hS; intro w hS) | ((with_reducible apply l_store); assumption; rfl; rfl; (repeat (first | exact Upd.head | apply Upd.tail)); rfl; clear hS; intro w hS; simp only [splice] at hS; try rw [splice_nil] at hS))
            go_ret
            have hR1 : R = true := by
              rw [HRp.out]
              refine hasP_hit sg p l hp ?_
              rcases Hsk.out with h | h
              · have e1 : (l.getD p 0).toNat = (sg.getD q 0).toNat := by
                  have := (Prod.mk.inj h.2).1
                  have := Hd.out
                  omega
                have e2 : l.getD p 0 = sg.getD q 0 := UInt8.toNat_inj.1 e1
                rw [e2]
                simp [List.getD, hq]
              · have := h.2.1
                omega
            exact ⟨congrArg (fun x => Ending.returned (.bool x)) hR1.symm, hS.fr⟩
          · have hne : ((r : Int) == (d : Int)) = false := by simp; omega
            go_wp2_with (first | ((with_reducible apply l_want); rfl) | ((with_reducible apply l_nextS); assumption; rfl; (repeat (first | exact Upd.head | apply Upd.tail)); assumption; exact Hd2; clear hS; intro w hS) | ((with_reducible apply l_alloc); assumption; rfl; clear hS; intro b w hS) | ((with_reducible apply l_box); assumption; rfl; clear hS; intro b w hS) | ((with_reducible apply l_load); assumption; rfl; (repeat (first | exact Has.head | apply Has.tail)); (first | rfl | (simp [takeV]; done))) | ((with_reducible apply l_build); rfl; (simp [fillL, splice, Value.cells, Act.eval]; rfl)) | ((with_reducible apply l_buildA); rfl; (simp [fillL, splice, Value.cells, Act.eval]; rfl)) | ((with_reducible apply l_bslice); assumption; rfl; rfl; (simp [fillL, splice, zeros, Value.cells, Act.eval]; rfl); clear hS; intro b w hS) | ((with_reducible apply l_storeF); assumption; rfl; rfl; (repeat (first | exact Upd.head | apply Upd.tail)); rfl; clear hS; intro w hS) | ((with_reducible apply l_store); assumption; rfl; rfl; (repeat (first | exact Upd.head | apply Upd.tail)); rfl; clear hS; intro w hS; simp only [splice] at hS; try rw [splice_nil] at hS))
            go_roundg (sg.length - (q + 1))
            case measure => omega
            case rel =>
              refine ⟨q + 1, by omega, Lib.hid fun i hi => ?_, hS⟩
              by_cases hiq : i = q
              · subst hiq
                rw [← Hd.out]
                exact fun e => hrd e.symm
              · exact HN.out i (by omega)
        · have hqe : sg.length ≤ q := by omega
          go_wp2_with (first | ((with_reducible apply l_want); rfl) | ((with_reducible apply l_nextE); assumption; rfl; (repeat (first | exact Has.head | apply Has.tail)); assumption) | ((with_reducible apply l_alloc); assumption; rfl; clear hS; intro b w hS) | ((with_reducible apply l_box); assumption; rfl; clear hS; intro b w hS) | ((with_reducible apply l_load); assumption; rfl; (repeat (first | exact Has.head | apply Has.tail)); (first | rfl | (simp [takeV]; done))) | ((with_reducible apply l_build); rfl; (simp [fillL, splice, Value.cells, Act.eval]; rfl)) | ((with_reducible apply l_buildA); rfl; (simp [fillL, splice, Value.cells, Act.eval]; rfl)) | ((with_reducible apply l_bslice); assumption; rfl; rfl; (simp [fillL, splice, zeros, Value.cells, Act.eval]; rfl); clear hS; intro b w hS) | ((with_reducible apply l_storeF); assumption; rfl; rfl; (repeat (first | exact Upd.head | apply Upd.tail)); rfl; clear hS; intro w hS) | ((with_reducible apply l_store); assumption; rfl; rfl; (repeat (first | exact Upd.head | apply Upd.tail)); rfl; clear hS; intro w hS; simp only [splice] at hS; try rw [splice_nil] at hS))
          have hwd : p + wd ≤ l.length ∧ 1 ≤ wd := by
            rcases Hsk.out with h | h
            · have := (Prod.mk.inj h.2).2
              omega
            · refine ⟨?_, h.2.2.1⟩
              have h3 := h.2.2.1
              rcases Nat.lt_or_ge p (p + wd - 1) with h4 | h4
              · have := (h.2.2.2 (p + wd - 1) h4 (by omega)).1
                omega
              · omega
          go_roundg (l.length - (p + wd))
          case measure => omega
          case rel =>
            refine ⟨p + wd, by omega, Lib.hid ?_, hS.drop⟩
            rw [HRp.out]
            refine hasP_skip sg wd p l fun j hj hj2 => ?_
            have hN : ∀ i, i < sg.length → (sg.getD i 0).toNat ≠ r := fun i hi => HN.out i (by omega)
            rcases Hsk.out with h | h
            · have h2 := Prod.mk.inj h.2
              have hjp : j = p := by omega
              subst hjp
              refine ⟨hp, not_contains fun i hi => ?_⟩
              rw [← h2.1]
              exact hN i hi
            · have h3 : j < l.length ∧ 128 ≤ (l.getD j 0).toNat := by
                by_cases hjp : j = p
                · subst hjp; exact ⟨hp, h.1⟩
                · exact h.2.2.2 j (by omega) hj2
              refine ⟨h3.1, ?_⟩
              rw [Bool.eq_false_iff]
              intro hc
              have hm : l.getD j 0 ∈ sg := by simpa using hc
              have := Hsg.out _ hm
              omega
    · have hpe : l.length ≤ p := by omega
      have hR0 : R = false := by rw [HRp.out, List.drop_eq_nil_of_le hpe]; rfl
      subst hR0
      go_wp2_with (first | ((with_reducible apply l_want); rfl) | ((with_reducible apply l_nextE); assumption; rfl; (repeat (first | exact Has.head | apply Has.tail)); assumption) | ((with_reducible apply l_alloc); assumption; rfl; clear hS; intro b w hS) | ((with_reducible apply l_box); assumption; rfl; clear hS; intro b w hS) | ((with_reducible apply l_load); assumption; rfl; (repeat (first | exact Has.head | apply Has.tail)); (first | rfl | (simp [takeV]; done))) | ((with_reducible apply l_build); rfl; (simp [fillL, splice, Value.cells, Act.eval]; rfl)) | ((with_reducible apply l_buildA); rfl; (simp [fillL, splice, Value.cells, Act.eval]; rfl)) | ((with_reducible apply l_bslice); assumption; rfl; rfl; (simp [fillL, splice, zeros, Value.cells, Act.eval]; rfl); clear hS; intro b w hS) | ((with_reducible apply l_storeF); assumption; rfl; rfl; (repeat (first | exact Upd.head | apply Upd.tail)); rfl; clear hS; intro w hS) | ((with_reducible apply l_store); assumption; rfl; rfl; (repeat (first | exact Upd.head | apply Upd.tail)); rfl; clear hS; intro w hS; simp only [splice] at hS; try rw [splice_nil] at hS))
      go_ret
      exact ⟨rfl, hS.fr⟩
end Go.Proofs.YtaejmginhkbbhaaGreatDoor
