/- The walks through package event, third part: its parts (F201, F245 to F252 but Split). Conditions: as each contract says. -/
import Derived.Test.YtaejmginhkbbhaaGreatDoorV2
import Derived.Test.YtaejmginhkbbhaaGreatDoorShelf
set_option linter.unusedSimpArgs false
set_option linter.unusedVariables false
set_option maxRecDepth 100000
set_option maxHeartbeats 1000000
namespace Go.Proofs.YtaejmginhkbbhaaGreatDoor
open Go Go.RowKit
/-- An event, a field. -/
structure Ev where
  id : List UInt8
  ty : List UInt8
  da : List UInt8
deriving DecidableEq
structure Fd where
  kind : Nat
  name : List UInt8
  val : List UInt8
deriving DecidableEq
def Ev.cs (e : Ev) : List Value := [txt e.id, txt e.ty, txt e.da]
def Ev.v (e : Ev) : Value := .agg ⟨e.cs⟩
def Fd.cs (f : Fd) : List Value := [.int .i64 (f.kind : Int), txt f.name, txt f.val]
def Fd.v (f : Fd) : Value := .agg ⟨f.cs⟩
abbrev fnv (n : Nat) : Value := .func (.func n) #[] #[]
def partsV : Value := .agg ⟨[txt [0, 13, 10], fnv 245, fnv 247, txt [13, 10], fnv 248, fnv 249, txt [13], fnv 250, fnv 252]⟩
theorem parts_c (w0 : World) : Calls Tryz.prog 201 #[] w0 fun e w' => e = .returned partsV ∧ Fr [] w0 w' := by
  go_enter Tryz.func201, Tryz.ntmps201
  have hS := St.start [] w0
  go_wp2_with (first | ((with_reducible apply l_want); rfl) | ((with_reducible apply l_alloc); assumption; rfl; clear hS; intro b w hS) | ((with_reducible apply l_box); assumption; rfl; clear hS; intro b w hS) | ((with_reducible apply l_load); assumption; rfl; (repeat (first | exact Has.head | apply Has.tail)); (first | rfl | (simp [takeV]; done))) | ((with_reducible apply l_build); rfl; (simp [fillL, splice, Value.cells, Act.eval]; rfl)) | ((with_reducible apply l_buildA); rfl; (simp [fillL, splice, Value.cells, Act.eval]; rfl)) | ((with_reducible apply l_bslice); assumption; rfl; rfl; (first | (simp [fillL, splice, zeros, Value.cells, Act.eval]; rfl) | rfl); clear hS; intro b w hS) | ((with_reducible apply l_storeF); assumption; rfl; rfl; (repeat (first | exact Upd.head | apply Upd.tail)); rfl; clear hS; intro w hS) | ((with_reducible apply l_store); assumption; rfl; rfl; (repeat (first | exact Upd.head | apply Upd.tail)); rfl; clear hS; intro w hS; simp only [splice] at hS; try rw [splice_nil] at hS))
  refine bodyPost_ret (results_c1 (k := 9) (agg := true) rfl hS rfl (by repeat (first | exact Has.head | apply Has.tail)) rfl) rfl ⟨rfl, hS.fr⟩
/-- Texts as cells. -/
def sv (l : List (List UInt8)) : List Value := l.map fun x => txt x
theorem sv_length (l : List (List UInt8)) : (sv l).length = l.length := by simp [sv]
theorem sv_one (l : List (List UInt8)) : ∀ u ∈ sv l, u.oneCell' = true := by
  intro u hu
  obtain ⟨c, _, rfl⟩ := List.mem_map.1 hu
  rfl
theorem sv_append (a b : List (List UInt8)) : sv (a ++ b) = sv a ++ sv b := by simp [sv]
def someP (l : List UInt8) : List (List UInt8) := if l = [] then [] else [l]
theorem some_c (w0 : World) (l : List UInt8) : Calls Tryz.prog 246 #[txt l] w0 fun e w' => ∃ v, e = .returned v ∧ St [] w0 w' [rdS 1 v (someP l).length (sv (someP l))] := by
  cases l with
  | nil =>
    go_enter Tryz.func246, Tryz.ntmps246
    have hS := St.start [] w0
    go_wp2_with (first | ((with_reducible apply l_want); rfl) | ((with_reducible apply l_alloc); assumption; rfl; clear hS; intro b w hS) | ((with_reducible apply l_box); assumption; rfl; clear hS; intro b w hS) | ((with_reducible apply l_load); assumption; rfl; (repeat (first | exact Has.head | apply Has.tail)); (first | rfl | (simp [takeV]; done))) | ((with_reducible apply l_build); rfl; (simp [fillL, splice, Value.cells, Act.eval]; rfl)) | ((with_reducible apply l_buildA); rfl; (simp [fillL, splice, Value.cells, Act.eval]; rfl)) | ((with_reducible apply l_bslice); assumption; rfl; rfl; (first | (simp [fillL, splice, zeros, Value.cells, Act.eval]; rfl) | rfl); clear hS; intro b w hS) | ((with_reducible apply l_storeF); assumption; rfl; rfl; (repeat (first | exact Upd.head | apply Upd.tail)); rfl; clear hS; intro w hS) | ((with_reducible apply l_store); assumption; rfl; rfl; (repeat (first | exact Upd.head | apply Upd.tail)); rfl; clear hS; intro w hS; simp only [splice] at hS; try rw [splice_nil] at hS))
    go_ret
    exact ⟨_, rfl, hS.addNil (RdS.nil _ _ _ _) rfl⟩
  | cons x l =>
    go_enter Tryz.func246, Tryz.ntmps246
    have hS := St.start [] w0
    go_wp2_with (first | ((with_reducible apply l_want); rfl) | ((with_reducible apply l_alloc); assumption; rfl; clear hS; intro b w hS) | ((with_reducible apply l_box); assumption; rfl; clear hS; intro b w hS) | ((with_reducible apply l_load); assumption; rfl; (repeat (first | exact Has.head | apply Has.tail)); (first | rfl | (simp [takeV]; done))) | ((with_reducible apply l_build); rfl; (simp [fillL, splice, Value.cells, Act.eval]; rfl)) | ((with_reducible apply l_buildA); rfl; (simp [fillL, splice, Value.cells, Act.eval]; rfl)) | ((with_reducible apply l_bslice); assumption; rfl; rfl; (first | (simp [fillL, splice, zeros, Value.cells, Act.eval]; rfl) | rfl); clear hS; intro b w hS) | ((with_reducible apply l_storeF); assumption; rfl; rfl; (repeat (first | exact Upd.head | apply Upd.tail)); rfl; clear hS; intro w hS) | ((with_reducible apply l_store); assumption; rfl; rfl; (repeat (first | exact Upd.head | apply Upd.tail)); rfl; clear hS; intro w hS; simp only [splice] at hS; try rw [splice_nil] at hS))
    go_ret
    have h := RdS.of_row (size := 1) (hS.get (by exact Has.head)) 1 1 rfl (Nat.le_refl _)
    exact ⟨_, rfl, hS.recast (c := row b 9 [txt (x :: l)]) (c' := rdS 1 (.slice (some ⟨b, 0, none⟩) 1 1) 1 [txt (x :: l)]) (by exact Upd.head) h rfl⟩
theorem texts0_c (w0 : World) (e : Ev) : Calls Tryz.prog 245 #[e.v] w0 fun en w' => ∃ v, en = .returned v ∧ St [] w0 w' [rdS 1 v (someP e.id).length (sv (someP e.id))] := by
  go_enter Tryz.func245, Tryz.ntmps245
  have hS := St.start [] w0
  go_wp2_with (first | ((with_reducible apply l_want); rfl) | (go_at_call 246; go_must (refine (some_c _ _).mono ?_); rintro en w1 ⟨v, rfl, hT⟩; have hf1 := hT.fr) | ((with_reducible apply l_alloc); assumption; rfl; clear hS; intro b w hS) | ((with_reducible apply l_box); assumption; rfl; clear hS; intro b w hS) | ((with_reducible apply l_load); assumption; rfl; (repeat (first | exact Has.head | apply Has.tail)); (first | rfl | (simp [takeV]; done))) | ((with_reducible apply l_build); rfl; (simp [fillL, splice, Value.cells, Act.eval]; rfl)) | ((with_reducible apply l_buildA); rfl; (simp [fillL, splice, Value.cells, Act.eval]; rfl)) | ((with_reducible apply l_bslice); assumption; rfl; rfl; (first | (simp [fillL, splice, zeros, Value.cells, Act.eval]; rfl) | rfl); clear hS; intro b w hS) | ((with_reducible apply l_storeF); assumption; rfl; rfl; (repeat (first | exact Upd.head | apply Upd.tail)); rfl; clear hS; intro w hS) | ((with_reducible apply l_store); assumption; rfl; rfl; (repeat (first | exact Upd.head | apply Upd.tail)); rfl; clear hS; intro w hS; simp only [splice] at hS; try rw [splice_nil] at hS))
  go_ret
  exact ⟨_, rfl, (hS.join hT).sub (by (repeat (first | exact List.Sublist.slnil | exact List.Sublist.refl _ | apply List.Sublist.cons_cons | apply List.Sublist.cons)))⟩
theorem texts1_c (w0 : World) (e : Ev) : Calls Tryz.prog 248 #[e.v] w0 fun en w' => ∃ v, en = .returned v ∧ St [] w0 w' [rdS 1 v (someP e.ty).length (sv (someP e.ty))] := by
  go_enter Tryz.func248, Tryz.ntmps248
  have hS := St.start [] w0
  go_wp2_with (first | ((with_reducible apply l_want); rfl) | (go_at_call 246; go_must (refine (some_c _ _).mono ?_); rintro en w1 ⟨v, rfl, hT⟩; have hf1 := hT.fr) | ((with_reducible apply l_alloc); assumption; rfl; clear hS; intro b w hS) | ((with_reducible apply l_box); assumption; rfl; clear hS; intro b w hS) | ((with_reducible apply l_load); assumption; rfl; (repeat (first | exact Has.head | apply Has.tail)); (first | rfl | (simp [takeV]; done))) | ((with_reducible apply l_build); rfl; (simp [fillL, splice, Value.cells, Act.eval]; rfl)) | ((with_reducible apply l_buildA); rfl; (simp [fillL, splice, Value.cells, Act.eval]; rfl)) | ((with_reducible apply l_bslice); assumption; rfl; rfl; (first | (simp [fillL, splice, zeros, Value.cells, Act.eval]; rfl) | rfl); clear hS; intro b w hS) | ((with_reducible apply l_storeF); assumption; rfl; rfl; (repeat (first | exact Upd.head | apply Upd.tail)); rfl; clear hS; intro w hS) | ((with_reducible apply l_store); assumption; rfl; rfl; (repeat (first | exact Upd.head | apply Upd.tail)); rfl; clear hS; intro w hS; simp only [splice] at hS; try rw [splice_nil] at hS))
  go_ret
  exact ⟨_, rfl, (hS.join hT).sub (by (repeat (first | exact List.Sublist.slnil | exact List.Sublist.refl _ | apply List.Sublist.cons_cons | apply List.Sublist.cons)))⟩
/-- What the named variables of the library hold. -/
structure Glob (w : World) : Prop where
  maxLen : ∃ m, w.cell? ⟨0, 0, none⟩ = some (.int .i64 m)
theorem Glob.fr {w W : World} {S : List Nat} (h : Glob w) (hf : Fr S w W) (h0 : 0 ∉ S) : Glob W := by
  obtain ⟨m, hm⟩ := h.maxLen
  exact ⟨m, hf.cell h0 hm⟩
theorem Glob.keep {w W : World} (h : Glob w) (hf : Fr [] w W) : Glob W := h.fr hf (by simp)
/-- What stands between bytes of a kind. -/
def splitP (c : UInt8) : List UInt8 → List (List UInt8)
  | [] => [[]]
  | x :: l => if x = c then [] :: splitP c l else match splitP c l with
    | [] => [[x]]
    | h :: t => (x :: h) :: t
theorem splitP_ne (c : UInt8) (l : List UInt8) : splitP c l ≠ [] := by
  cases l with
  | nil => simp [splitP]
  | cons x l =>
    simp only [splitP]
    split
    · simp
    · split <;> simp
theorem extract_mk (l : List UInt8) (i j : Nat) : (ByteArray.mk l.toArray).extract i j = ByteArray.mk ((l.take j).drop i).toArray := by
  have h := Lib.extract_data ⟨l.toArray⟩ i j
  apply ByteArray.ext
  apply Array.ext'
  rw [h]
  simp [List.drop_take]
theorem splitP_miss (c : UInt8) : ∀ (l : List UInt8), (∀ k : Nat, l[k]? ≠ some c) → splitP c l = [l]
  | [], _ => rfl
  | x :: l, h => by
    have h0 : x ≠ c := by have := h 0; simpa using this
    have ih := splitP_miss c l (fun k => by have := h (k + 1); simpa using this)
    simp only [splitP, if_neg h0, ih]
theorem splitP_hit (c : UInt8) : ∀ (i : Nat) (l : List UInt8), l[i]? = some c → (∀ k : Nat, k < i → l[k]? ≠ some c) → splitP c l = l.take i :: splitP c (l.drop (i + 1))
  | i, [], h, _ => by simp at h
  | 0, x :: l, h, _ => by
    have : x = c := by simpa using h
    subst this
    simp [splitP]
  | i + 1, x :: l, h, hn => by
    have h0 : x ≠ c := by have := hn 0 (by omega); simpa using this
    have ih := splitP_hit c i l (by simpa using h) (fun k hk => by have := hn (k + 1) (by omega); simpa using this)
    simp only [splitP, if_neg h0, ih]
    simp
theorem splitB_eq' (c : UInt8) : ∀ (n : Nat) (l : List UInt8), l.length ≤ n → (Lib.splitB ⟨#[c]⟩ 0 (Lib.countB ⟨l.toArray⟩ ⟨#[c]⟩) ⟨l.toArray⟩).map Value.string = sv (splitP c l) := by
  intro n
  induction n with
  | zero =>
    intro l hl
    have : l = [] := List.eq_nil_of_length_eq_zero (by omega)
    subst this
    have h : Lib.indexB ⟨([] : List UInt8).toArray⟩ ⟨#[c]⟩ = -1 := rfl
    rw [Lib.splitB_miss _ _ _ _ h]
    rfl
  | succ n ih =>
    intro l hl
    have hone : Lib.indexB ⟨l.toArray⟩ ⟨#[c]⟩ = Lib.indexByte l c := Lib.index_one l c
    rcases Lib.indexB_cases ⟨l.toArray⟩ ⟨#[c]⟩ with h | ⟨i, hi, hr⟩
    · rw [Lib.splitB_miss _ _ _ _ h, splitP_miss c l (Lib.indexByte_none (hone ▸ h))]
      rfl
    · have h2 := Lib.indexByte_some (hone ▸ hi)
      rw [size_mk] at hr
      have hr' : i + 1 ≤ l.length := hr
      rw [Lib.countB_hit ⟨l.toArray⟩ ⟨#[c]⟩ i (Nat.le_refl 1) hi, Nat.add_comm 1, Lib.splitB_hit _ _ _ _ i hi, splitP_hit c i l h2.1 h2.2]
      have e1 : (ByteArray.mk l.toArray).extract (i + (ByteArray.mk #[c]).size) (ByteArray.mk l.toArray).size = ByteArray.mk (l.drop (i + 1)).toArray := by
        rw [extract_mk, List.take_of_length_le (by rw [size_mk]; exact Nat.le_refl _)]
        rfl
      rw [e1, extract_mk]
      simp only [List.map_cons, sv, List.drop_zero, Nat.add_zero]
      have := ih (l.drop (i + 1)) (by simp; omega)
      rw [this]
      rfl
theorem splitB_eq (c : UInt8) (l : List UInt8) : (Lib.splitB ⟨#[c]⟩ 0 (Lib.countB ⟨l.toArray⟩ ⟨#[c]⟩) ⟨l.toArray⟩).map Value.string = sv (splitP c l) := splitB_eq' c l.length l (Nat.le_refl _)
theorem splitB_len (c : UInt8) (l : List UInt8) : Lib.countB ⟨l.toArray⟩ ⟨#[c]⟩ + 1 = (splitP c l).length := by
  have h1 := Lib.splitB_all ⟨#[c]⟩ (Nat.le_refl 1) 0 _ ⟨l.toArray⟩ rfl
  have h2 := congrArg List.length (splitB_eq c l)
  rw [List.length_map, sv_length] at h2
  omega
theorem split_c (w0 : World) (hG : Glob w0) (c : UInt8) (l : List UInt8) (hl : l.length < 4294967281) : Calls Tryz.prog 251 #[txt l, txt [c]] w0 fun en w' => ∃ v, en = .returned v ∧ St [] w0 w' [rdS 1 v (splitP c l).length (sv (splitP c l))] := by
  obtain ⟨m, hm⟩ := hG.maxLen
  refine (Tryz.strings_Split ⟨l.toArray⟩ ⟨#[c]⟩ m w0 (by rw [size_mk]; exact hl) hm (Nat.le_refl 1)).mono ?_
  rintro e w' ⟨rfl, rfl⟩
  rw [splitB_eq, splitB_len]
  have hS := (St.start [] w0).alloc 9 (sv (splitP c l))
  have h := RdS.of_row (size := 1) (hS.get (by exact Has.head)) (splitP c l).length (splitP c l).length (by rw [sv_length]; omega) (Nat.le_refl _)
  exact ⟨_, rfl, hS.recast (c := row w0.heap.size 9 (sv (splitP c l))) (c' := rdS 1 (.slice (some ⟨w0.heap.size, 0, none⟩) (splitP c l).length (splitP c l).length) (splitP c l).length (sv (splitP c l))) (by exact Upd.head) h rfl⟩
theorem texts2_c (w0 : World) (hG : Glob w0) (e : Ev) (hl : e.da.length < 4294967281) : Calls Tryz.prog 250 #[e.v] w0 fun en w' => ∃ v, en = .returned v ∧ St [] w0 w' [rdS 1 v (splitP 10 e.da).length (sv (splitP 10 e.da))] := by
  go_enter Tryz.func250, Tryz.ntmps250
  have hS := St.start [] w0
  go_wp2_with (first | ((with_reducible apply l_want); rfl) | (go_at_call 251; go_must (refine (split_c _ (hG.keep hS.fr) 10 _ hl).mono ?_); rintro en w1 ⟨v, rfl, hT⟩; have hf1 := hT.fr) | ((with_reducible apply l_alloc); assumption; rfl; clear hS; intro b w hS) | ((with_reducible apply l_box); assumption; rfl; clear hS; intro b w hS) | ((with_reducible apply l_load); assumption; rfl; (repeat (first | exact Has.head | apply Has.tail)); (first | rfl | (simp [takeV]; done))) | ((with_reducible apply l_build); rfl; (simp [fillL, splice, Value.cells, Act.eval]; rfl)) | ((with_reducible apply l_buildA); rfl; (simp [fillL, splice, Value.cells, Act.eval]; rfl)) | ((with_reducible apply l_bslice); assumption; rfl; rfl; (first | (simp [fillL, splice, zeros, Value.cells, Act.eval]; rfl) | rfl); clear hS; intro b w hS) | ((with_reducible apply l_storeF); assumption; rfl; rfl; (repeat (first | exact Upd.head | apply Upd.tail)); rfl; clear hS; intro w hS) | ((with_reducible apply l_store); assumption; rfl; rfl; (repeat (first | exact Upd.head | apply Upd.tail)); rfl; clear hS; intro w hS; simp only [splice] at hS; try rw [splice_nil] at hS))
  go_ret
  exact ⟨_, rfl, (hS.join hT).sub (by (repeat (first | exact List.Sublist.slnil | exact List.Sublist.refl _ | apply List.Sublist.cons_cons | apply List.Sublist.cons)))⟩
theorem field0_c (w0 : World) (l : List UInt8) : Calls Tryz.prog 247 #[txt l] w0 fun en w' => en = .returned (Fd.v ⟨5, [105, 100], l⟩) ∧ Fr [] w0 w' := by
  go_enter Tryz.func247, Tryz.ntmps247
  have hS := St.start [] w0
  go_wp2_with (first | ((with_reducible apply l_want); rfl) | ((with_reducible apply l_alloc); assumption; rfl; clear hS; intro b w hS) | ((with_reducible apply l_box); assumption; rfl; clear hS; intro b w hS) | ((with_reducible apply l_load); assumption; rfl; (repeat (first | exact Has.head | apply Has.tail)); (first | rfl | (simp [takeV]; done))) | ((with_reducible apply l_build); rfl; (simp [fillL, splice, Value.cells, Act.eval]; rfl)) | ((with_reducible apply l_buildA); rfl; (simp [fillL, splice, Value.cells, Act.eval]; rfl)) | ((with_reducible apply l_bslice); assumption; rfl; rfl; (first | (simp [fillL, splice, zeros, Value.cells, Act.eval]; rfl) | rfl); clear hS; intro b w hS) | ((with_reducible apply l_storeF); assumption; rfl; rfl; (repeat (first | exact Upd.head | apply Upd.tail)); rfl; clear hS; intro w hS) | ((with_reducible apply l_store); assumption; rfl; rfl; (repeat (first | exact Upd.head | apply Upd.tail)); rfl; clear hS; intro w hS; simp only [splice] at hS; try rw [splice_nil] at hS))
  refine bodyPost_ret (results_c1 (k := 3) (agg := true) rfl hS rfl (by repeat (first | exact Has.head | apply Has.tail)) rfl) rfl ⟨rfl, hS.fr⟩
theorem field1_c (w0 : World) (l : List UInt8) : Calls Tryz.prog 249 #[txt l] w0 fun en w' => en = .returned (Fd.v ⟨4, [101, 118, 101, 110, 116], l⟩) ∧ Fr [] w0 w' := by
  go_enter Tryz.func249, Tryz.ntmps249
  have hS := St.start [] w0
  go_wp2_with (first | ((with_reducible apply l_want); rfl) | ((with_reducible apply l_alloc); assumption; rfl; clear hS; intro b w hS) | ((with_reducible apply l_box); assumption; rfl; clear hS; intro b w hS) | ((with_reducible apply l_load); assumption; rfl; (repeat (first | exact Has.head | apply Has.tail)); (first | rfl | (simp [takeV]; done))) | ((with_reducible apply l_build); rfl; (simp [fillL, splice, Value.cells, Act.eval]; rfl)) | ((with_reducible apply l_buildA); rfl; (simp [fillL, splice, Value.cells, Act.eval]; rfl)) | ((with_reducible apply l_bslice); assumption; rfl; rfl; (first | (simp [fillL, splice, zeros, Value.cells, Act.eval]; rfl) | rfl); clear hS; intro b w hS) | ((with_reducible apply l_storeF); assumption; rfl; rfl; (repeat (first | exact Upd.head | apply Upd.tail)); rfl; clear hS; intro w hS) | ((with_reducible apply l_store); assumption; rfl; rfl; (repeat (first | exact Upd.head | apply Upd.tail)); rfl; clear hS; intro w hS; simp only [splice] at hS; try rw [splice_nil] at hS))
  refine bodyPost_ret (results_c1 (k := 3) (agg := true) rfl hS rfl (by repeat (first | exact Has.head | apply Has.tail)) rfl) rfl ⟨rfl, hS.fr⟩
theorem field2_c (w0 : World) (l : List UInt8) : Calls Tryz.prog 252 #[txt l] w0 fun en w' => en = .returned (Fd.v ⟨3, [100, 97, 116, 97], l⟩) ∧ Fr [] w0 w' := by
  go_enter Tryz.func252, Tryz.ntmps252
  have hS := St.start [] w0
  go_wp2_with (first | ((with_reducible apply l_want); rfl) | ((with_reducible apply l_alloc); assumption; rfl; clear hS; intro b w hS) | ((with_reducible apply l_box); assumption; rfl; clear hS; intro b w hS) | ((with_reducible apply l_load); assumption; rfl; (repeat (first | exact Has.head | apply Has.tail)); (first | rfl | (simp [takeV]; done))) | ((with_reducible apply l_build); rfl; (simp [fillL, splice, Value.cells, Act.eval]; rfl)) | ((with_reducible apply l_buildA); rfl; (simp [fillL, splice, Value.cells, Act.eval]; rfl)) | ((with_reducible apply l_bslice); assumption; rfl; rfl; (first | (simp [fillL, splice, zeros, Value.cells, Act.eval]; rfl) | rfl); clear hS; intro b w hS) | ((with_reducible apply l_storeF); assumption; rfl; rfl; (repeat (first | exact Upd.head | apply Upd.tail)); rfl; clear hS; intro w hS) | ((with_reducible apply l_store); assumption; rfl; rfl; (repeat (first | exact Upd.head | apply Upd.tail)); rfl; clear hS; intro w hS; simp only [splice] at hS; try rw [splice_nil] at hS))
  refine bodyPost_ret (results_c1 (k := 3) (agg := true) rfl hS rfl (by repeat (first | exact Has.head | apply Has.tail)) rfl) rfl ⟨rfl, hS.fr⟩
end Go.Proofs.YtaejmginhkbbhaaGreatDoor
