/- The seat's own program logic, fifth part: append onto a slice that is full (its capacity is its length), of a slice or of a text. Conditions: none; over any program. -/
import Derived.Test.YtaejmginhkbbhaaGreatDoorK
set_option linter.unusedSimpArgs false
set_option linter.unusedVariables false
set_option maxRecDepth 100000
set_option maxHeartbeats 1000000
namespace Go.Proofs.YtaejmginhkbbhaaGreatDoor
open Go Go.RowKit

/-- What append takes its new cells from. -/
def Src (P : Program) (u : TypeId) (size : Nat) (W : World) (y : Value) (m : Nat) (news : List Value) : Prop :=
  (∃ ut, P.underlying u = some ut ∧ (∀ k, ut ≠ .int k)) ∧ news.length = m * size ∧ (∀ x ∈ news, x.oneCell' = true) ∧
    ∀ W', W'.heap = W.heap → (Builtin.lenOf y).run P W' = .ok m W' ∧ (Builtin.firstCells size m y).run P W' = .ok news.toArray W'

section
variable {P : Program} {W : World}
theorem firstCells_rd {size m : Nat} {y : Value} {news : List Value} (h : RdS W size y m news) (W' : World) (hW : W'.heap = W.heap) : (Builtin.lenOf y).run P W' = .ok m W' ∧ (Builtin.firstCells size m y).run P W' = .ok news.toArray W' := by
  obtain ⟨hl, A, c, rfl, hc, hr⟩ := h
  refine ⟨by simp [Builtin.lenOf], ?_⟩
  cases A with
  | none =>
    have : news = [] := by
      cases news with
      | nil => rfl
      | cons x l => obtain ⟨b, o, h, _⟩ := hr (by simp); cases h
    subst this
    simp [Builtin.firstCells]
  | some ad =>
    refine run_firstCells_some (P := P) W' size m ad m c news hl (fun j v hj => ?_)
    obtain ⟨b, o, h, hrd⟩ := hr (fun e => by subst e; simp at hj)
    cases h
    rw [addr_add]
    have := hrd j v hj
    unfold World.cell? at this ⊢
    rw [hW]; exact this
theorem Src.of_rd {t e : TypeId} [he : El P t e] {size m : Nat} {y : Value} {news : List Value} (h : RdS W size y m news) (h1 : ∀ x ∈ news, x.oneCell' = true) : Src P t size W y m news :=
  ⟨⟨_, he.el, fun k e => by cases e⟩, h.1, h1, fun W' hW => firstCells_rd h W' hW⟩
theorem Src.of_txt {u : TypeId} [hs : Str P u] (l : List UInt8) : Src P u 1 W (txt l) l.length (bv l) := by
  refine ⟨⟨_, hs.str, fun k e => by cases e⟩, by simp [bv], bv_one l, fun W' _ => ⟨by simp [Builtin.lenOf, ByteArray.size], ?_⟩⟩
  have h : (ByteArray.mk l.toArray).extract 0 l.length = ByteArray.mk l.toArray := by
    apply ByteArray.ext
    simp [ByteArray.extract, ByteArray.copySlice]
  simp [Builtin.firstCells, h, bv]

theorem run_append_full {t u e : TypeId} [he : El P t e] {agg : Bool} {size bytes : Nat} {z : Value} [Sz P e agg size] [Zr P e z] [By P e bytes] (hzs : z.cells.size = size) (hsz : 0 < size) (ty : TypeId)
    {A : Option Addr} {n : Nat} {xs : List Value} (hv : RdS W size (.slice A n n) n xs) {y : Value} {m : Nat} {news : List Value} (hy : Src P u size W y m news)
    (hb : n + m ≤ 140737488355328) (hbytes : (n + m) * bytes ≤ 140737488355328) :
    ∃ v' W', (Builtin.append_ #[t, u] ty #[.slice A n n, y]).run P W = .ok v' W' ∧ RdS W' size v' (n + m) (xs ++ news) ∧ Fr [] W W' ∧
      ((m = 0 ∧ v' = .slice A n n ∧ W' = W) ∨ (0 < m ∧ v'.ownBlock = some W.heap.size ∧ W'.ownsRow W.heap.size e size v' (n + m) (xs ++ news))) := by
  obtain ⟨i, hi, hiz, his, hib⟩ := info_of (P := P) (e := e) (agg := agg) (size := size) (bytes := bytes) (z := z)
  obtain ⟨⟨ut, hu, hui⟩, hl, h1, hrun⟩ := hy
  obtain ⟨r1, r2⟩ := hrun W rfl
  by_cases hm : m = 0
  · subst hm
    have hn : news = [] := List.eq_nil_of_length_eq_zero (by simpa using hl)
    subst hn
    refine ⟨.slice A n n, W, ?_, by simpa using hv, Fr.refl _ _, .inl ⟨rfl, rfl, rfl⟩⟩
    have hz : (match ut with | .int _ => true | _ => false) = false := by
      cases ut <;> first | rfl | exact absurd rfl (hui _)
    cases A <;> simp [Builtin.append_, run_underlying he.el, run_underlying hu, sizeOf, typeInfo, hi, his, hz, r1, r2, storeCells]
  · have hge := grownCap_ge W (n + m) n e
    have hcm : grownCap W (n + m) n e ≤ maxLen := grownCap_le_maxLen W (n + m) n e (by simp only [maxLen]; omega)
    have hn : ¬ (n + m ≤ n) := by omega
    have h63' : ¬ (9223372036854775807 < ((n : Int) + (m : Int))) := by omega
    have hfit : Builtin.nextslicecap (n + m) n * i.bytes ≤ 281474976710656 := by rw [hib]; exact growslice_fits (by omega) hbytes
    have h48' : ¬ (281474976710656 < Builtin.nextslicecap (n + m) n * i.bytes) := by omega
    obtain ⟨q1, q2⟩ := hrun W.drew rfl
    have hz : (match ut with | .int _ => true | _ => false) = false := by
      cases ut <;> first | rfl | exact absurd rfl (hui _)
    have hfo : (Builtin.firstCells size n (.slice A n n)).run P W.drew = .ok xs.toArray W.drew := (firstCells_rd hv W.drew rfl).2
    have hr : (Builtin.append_ #[t, u] ty #[.slice A n n, y]).run P W = .ok (.slice (some ⟨W.heap.size, 0, none⟩) (n + m) (grownCap W (n + m) n e))
        (W.drew.alloc (.cells (xs.toArray ++ news.toArray ++ Builtin.zeroCells z.cells (grownCap W (n + m) n e - (n + m))) e)) := by
      simp [Builtin.append_, run_underlying he.el, run_underlying hu, sizeOf, typeInfo, zeroValue, hi, hiz, his, hz, r1, hm, hn, h63', h48', Question.forced, hfo, q2, newRow, grownCap]
      try (congr 2; apply Array.ext'; simp [List.append_assoc])
    have hlen : (xs ++ news).length = (n + m) * size := by rw [List.length_append, hv.1, hl, Nat.add_mul]
    have ho : (W.drew.alloc (.cells (xs.toArray ++ news.toArray ++ Builtin.zeroCells z.cells (grownCap W (n + m) n e - (n + m))) e)).ownsRow W.heap.size e size (.slice (some ⟨W.heap.size, 0, none⟩) (n + m) (grownCap W (n + m) n e)) (n + m) (xs ++ news) := by
      refine ⟨hlen, .inr ⟨W.heap.size, _, _, rfl, Nat.le_refl _, heap_alloc_new W.drew _, hge, hcm, ?_, ?_⟩⟩
      · simp only [Array.size_append, List.size_toArray, size_zeroCells, hzs, hv.1, hl, ← Nat.add_mul]
        congr 1
        omega
      · simp only [Array.toList_append, List.append_assoc]
        rw [← List.append_assoc, ← hlen]
        exact List.take_left
    exact ⟨_, _, hr, RdS.of_owns ho, ⟨rfl, rfl, rfl, by simp, fun k hk _ => Below.heap_alloc W.drew _ k hk⟩, .inr ⟨by omega, rfl, ho⟩⟩
end

section
variable {P : Program} {ops : Array Oper} {Q : Exit → Act → World → Prop} {a : Act} {S : List Nat} {w W : World} {L : List Chunk} {rest : List Oper}
  {dst : Option Tmp} {ty : TypeId} {pos : String} {after : Array Edge} {F : Fence} {fn : Nat}

/-- What append onto a full slice leaves. -/
def Grew (W W' : World) (e : TypeId) (size : Nat) (v v' : Value) (n m : Nat) (xs : List Value) : Prop :=
  RdS W' size v' (n + m) xs ∧ ((m = 0 ∧ v' = v ∧ W' = W) ∨ (0 < m ∧ v'.ownBlock = some W.heap.size ∧ W'.ownsRow W.heap.size e size v' (n + m) xs))
theorem l_appendF {t u e : TypeId} [El P t e] {agg : Bool} {size bytes : Nat} {z : Value} [Sz P e agg size] [Zr P e z] [By P e bytes] {x y : Operand} {A : Option Addr} {yv : Value} {n m : Nat} {xs news : List Value} (hS : St S w W L)
    (hx : a.eval x = .slice A n n) (hy : a.eval y = yv) (hzs : (decide (z.cells.size = size) && decide (0 < size)) = true)
    (hv : RdS W size (.slice A n n) n xs) (hr : Src P u size W yv m news) (hb : n + m ≤ 140737488355328) (hbytes : (n + m) * bytes ≤ 140737488355328)
    (hk : ∀ v' W', St S w W' L → Fr [] W W' → Grew W W' e size (.slice A n n) v' n m (xs ++ news) → wpList P ops Q rest (a.put dst v') W') :
    wpList P ops Q (⟨dst, .call ⟨.builtin .append, #[x, y], #[t, u]⟩, ty, pos, after, none⟩ :: rest) a W := by
  simp only [Bool.and_eq_true, decide_eq_true_eq] at hzs
  obtain ⟨v', W', hrun, g1, g2, g3⟩ := run_append_full (P := P) (t := t) hzs.1 hzs.2 ty hv hr hb hbytes
  exact wpList_val rfl (exec_append _ _ _ _ _ _ (by rw [hx, hy]; exact hrun)) (hk v' W' (hS.keep g2) g2 ⟨g1, g3⟩)
end
end Go.Proofs.YtaejmginhkbbhaaGreatDoor
