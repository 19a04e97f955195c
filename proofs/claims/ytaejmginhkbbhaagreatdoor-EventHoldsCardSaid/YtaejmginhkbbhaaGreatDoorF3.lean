/- An event, a text among a law's arguments: opened, shut again. Conditions: as each theorem says. -/
import Derived.Test.YtaejmginhkbbhaaGreatDoorF1
import Derived.Test.YtaejmginhkbbhaaGreatDoorW8
import Derived.ChangeMaps5
import Derived.ChangeSame
import Derived.ChangeArms
set_option linter.unusedSimpArgs false
set_option linter.unusedVariables false
set_option maxRecDepth 100000
set_option maxHeartbeats 1000000
namespace Go.Proofs.YtaejmginhkbbhaaGreatDoor
open Go Go.RowKit
open Go.ChangeShapes Go.WideShapes Go.ChangeAt Go.RowKit Go.ChangeMaps
def Ev.d {H : Type} (e : Ev) : DataW H := .agg [.lit (.string e.id), .lit (.string e.ty), .lit (.string e.da)]
theorem cells34 : Tryz.prog.cellsOf 34 = 3 := by kernel_rfl
theorem cells9 : Tryz.prog.cellsOf 9 = 1 := by kernel_rfl
theorem u64_wf {x : Int} (h : (Lit.int .u64 x).wf = true) : ∃ n : Nat, x = (n : Int) ∧ n < 18446744073709551616 := by
  have h2 : 0 ≤ x ∧ x ≤ 18446744073709551615 := by simpa [Lit.wf, IntKind.min, IntKind.max, IntKind.signed, IntKind.bits] using h
  exact ⟨x.toNat, by omega, by omega⟩
theorem bl_len (s : ByteArray) : s.data.toList.length = s.size := Array.length_toList
theorem txt_of (s : ByteArray) : Value.string s = txt s.data.toList := by
  cases s
  simp
section
variable {H : Type} {enc : TypeId × Value → H} {W : World} {base : Nat} {sp : Nat → Bool} {held : Bool}
theorem open_txt {r : Reach} {b0 : Nat} {v : Value} {d : DataW H} {ps : List MemPlace} (hval : Value.okWide Tryz.prog W r b0 9 v) (hd : DataW.Trod enc Tryz.prog W base sp held 9 v d ps) :
    ∃ l : List UInt8, v = txt l ∧ d = .lit (.string l) ∧ ps = [] ∧ l.length ≤ maxLen := by
  obtain ⟨s, rfl, rfl, rfl, hs⟩ := open_string Tryz.underlying9 hval hd
  exact ⟨s.data.toList, txt_of s, rfl, rfl, by rw [bl_len]; exact hs⟩
theorem shut_txt (l : List UInt8) (h : l.length ≤ maxLen) : DataW.Trod enc Tryz.prog W base sp held 9 (txt l) (.lit (.string l)) [] := by
  have := shut_string (enc := enc) (w := W) (base := base) (sp := sp) (held := held) (s := ⟨l.toArray⟩) Tryz.underlying9 (by rw [size_mk]; exact h)
  simpa using this
theorem open_ev {r : Reach} {b0 : Nat} {v : Value} {d : DataW H} {ps : List MemPlace} (hval : Value.okWide Tryz.prog W r b0 34 v) (hd : DataW.Trod enc Tryz.prog W base sp held 34 v d ps) :
    ∃ e : Ev, v = e.v ∧ d = e.d ∧ ps = [] ∧ e.id.length ≤ maxLen ∧ e.ty.length ≤ maxLen ∧ e.da.length ≤ maxLen := by
  obtain ⟨fuel, hf⟩ := hd
  unfold Value.okWide at hval
  rw [Tryz.underlying34] at hval
  obtain ⟨cs, rfl, hsz, -⟩ := hval
  rw [cells34] at hsz
  obtain ⟨xs, n, -, hx, -, hlen, hfi⟩ := DataW.trod_struct Tryz.underlying34 hf
  obtain ⟨c⟩ := cs
  have hc3 : c.length = 3 := hsz
  match c, hc3, xs, hlen with
  | [c0, c1, c2], _, [y0, y1, y2], _ =>
    have h0 : DataW.trod enc Tryz.prog W base sp held n 9 (([c0, c1, c2].drop 0).take (Tryz.prog.cellsOf 9)) = some y0 := hfi 0 _ rfl
    have h1 : DataW.trod enc Tryz.prog W base sp held n 9 (([c0, c1, c2].drop 1).take (Tryz.prog.cellsOf 9)) = some y1 := hfi 1 _ rfl
    have h2 : DataW.trod enc Tryz.prog W base sp held n 9 (([c0, c1, c2].drop 2).take (Tryz.prog.cellsOf 9)) = some y2 := hfi 2 _ rfl
    rw [cells9] at h0 h1 h2
    obtain ⟨s0, e0, f0, g0⟩ := DataW.trod_string Tryz.underlying9 (show DataW.trod enc Tryz.prog W base sp held n 9 [c0] = some y0 from h0)
    obtain ⟨s1, e1, f1, g1⟩ := DataW.trod_string Tryz.underlying9 (show DataW.trod enc Tryz.prog W base sp held n 9 [c1] = some y1 from h1)
    obtain ⟨s2, e2, f2, g2⟩ := DataW.trod_string Tryz.underlying9 (show DataW.trod enc Tryz.prog W base sp held n 9 [c2] = some y2 from h2)
    simp only [List.cons.injEq, and_true] at e0 e1 e2
    subst e0 e1 e2 f0 f1 f2
    simp only [List.map_cons, List.map_nil, List.flatMap_cons, List.flatMap_nil, List.append_nil, Prod.mk.injEq] at hx
    obtain ⟨rfl, rfl⟩ := hx
    refine ⟨⟨s0.data.toList, s1.data.toList, s2.data.toList⟩, ?_, rfl, rfl, by simp only [bl_len]; exact g0, by simp only [bl_len]; exact g1, by simp only [bl_len]; exact g2⟩
    simp only [Ev.v, Ev.cs, ← txt_of]
theorem shut_ev (e : Ev) (h0 : e.id.length ≤ maxLen) (h1 : e.ty.length ≤ maxLen) (h2 : e.da.length ≤ maxLen) : DataW.Trod enc Tryz.prog W base sp held 34 e.v e.d [] := by
  have a0 : DataW.trod enc Tryz.prog W base sp held 1 9 [txt e.id] = some (.lit (.string e.id), []) := by simp [DataW.trod, Tryz.underlying9, size_mk, h0]
  have a1 : DataW.trod enc Tryz.prog W base sp held 1 9 [txt e.ty] = some (.lit (.string e.ty), []) := by simp [DataW.trod, Tryz.underlying9, size_mk, h1]
  have a2 : DataW.trod enc Tryz.prog W base sp held 1 9 [txt e.da] = some (.lit (.string e.da), []) := by simp [DataW.trod, Tryz.underlying9, size_mk, h2]
  refine ⟨2, ?_⟩
  have := trod_struct_mk (enc := enc) (w := W) (base := base) (spare := sp) (held := held) (n := 1) (cs := e.v.cells.toList) (xs := [(.lit (.string e.id), []), (.lit (.string e.ty), []), (.lit (.string e.da), [])]) Tryz.underlying34 (by rw [cells34]; rfl) (by
    simp only [cells9, List.mapM_cons, List.mapM_nil, Ev.v, Ev.cs, Value.cells, List.drop_zero, List.drop_succ_cons, List.take_succ_cons, List.take_zero, a0, a1, a2]
    rfl)
  exact this
end
end Go.Proofs.YtaejmginhkbbhaaGreatDoor
