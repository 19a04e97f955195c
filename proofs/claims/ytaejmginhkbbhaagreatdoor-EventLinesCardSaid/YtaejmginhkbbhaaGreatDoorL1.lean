/- The walks through package event, ninth part: an event's lines, gone over (F221, F169). Conditions: as each contract says. -/
import Derived.Test.YtaejmginhkbbhaaGreatDoorY1
import Derived.Test.YtaejmginhkbbhaaGreatDoorU6
import Derived.Sort.LoopGhostIn
set_option linter.unusedSimpArgs false
set_option linter.unusedVariables false
set_option maxRecDepth 100000
set_option maxHeartbeats 1000000
namespace Go.Proofs.YtaejmginhkbbhaaGreatDoor
open Go Go.RowKit
attribute [local go_sem] Oper.semAt_some
/-- Texts, each with its number. -/
def numL (ls : List (List UInt8)) : List (Nat × List UInt8) := ls.zipIdx.map fun p => (p.2, p.1)
theorem numL_len (ls : List (List UInt8)) : (numL ls).length = ls.length := by simp [numL]
theorem numL_get {ls : List (List UInt8)} {i : Nat} {x : List UInt8} (h : ls[i]? = some x) : (numL ls)[i]? = some (i, x) := by
  simp [numL, List.getElem?_zipIdx, h]
theorem numL_take {ls : List (List UInt8)} {i : Nat} {x : List UInt8} (h : ls[i]? = some x) : (numL ls).take (i + 1) = (numL ls).take i ++ [(i, x)] := by
  have h1 := map_take id (numL ls) i (i, x) (numL_get h)
  simpa using h1
abbrev argsL (x : Nat × List UInt8) : Array Value := #[.int .i64 (x.1 : Int), txt x.2]
/-- What an event's lines hand on. -/
noncomputable def seqP (e : Ev) : List (Nat × List UInt8) := if rightQ e then numL (linesP e ++ [[]]) else []

theorem eachP_s (eb : Nat) (e : Ev) (w : World) (hG : Glob w) (hb : (row eb 34 e.cs).ok w) (hq : rightQ e = true) :
    SeqC Tryz.prog 221 #[.pointer (some ⟨eb, 0, none⟩)] argsL (numL (linesP e ++ [[]])) [0, eb] w := by
  intro l c I Ix T W hfr hT hcr h0 hok hlt hY
  have hch : checkP e = true := by rw [checkP_eq, hq]
  have hsm := checkP_small hch
  have hok1 : okNo (rightP e) = 0 := by unfold rightP; rw [hch]; rfl
  have hGW : ∀ W', Fr c.fp W W' → Glob W' := fun W' h => (hG.fr hfr (hT 0 (by simp))).fr h (fun h => hcr _ h (by simp))
  have hb0 : ∀ W', Fr c.fp W W' → Rd W' eb 0 [txt e.id, txt e.ty, txt e.da] := fun W' h => ((Rd.of_row hb).fr hfr (hT eb (by simp))).fr h (fun h => hcr _ h (by simp))
  have hS : St c.fp W W [c] := ⟨Fr.refl _ _, by simp, fun d hd => by
    have : d = c := by simpa using hd
    subst this
    exact ⟨hok, fun b hb => ⟨hlt b hb, .inr hb⟩⟩⟩
  have hck := fun W' (hW : Glob W') => check_c W' hW e (by omega) (by omega) (by omega)
  rw [hok1] at hck
  have hly := fun W' (hW : Glob W') => lines_y W' hW e hsm hch
  have hll := (linesP_len e hsm).1
  obtain ⟨X, hX⟩ : ∃ X, X = linesP e := ⟨_, rfl⟩
  rw [← hX] at hY hly hll ⊢
  have e1 : sv X ++ [txt []] = sv (X ++ [[]]) := by rw [sv_append]; rfl
  have hlY : (X ++ [[]]).length = X.length + 1 := by simp
  obtain ⟨Y, hYd⟩ : ∃ Y, Y = X ++ [[]] := ⟨_, rfl⟩
  rw [← hYd] at hY e1 hlY ⊢
  have He1 := Lib.hid e1
  have Hb := Lib.hid hb0
  have HG := Lib.hid hGW
  have HY := Lib.hid hY
  have H0 := Lib.hid h0
  have Hck := Lib.hid hck
  have Hly := Lib.hid hly
  clear hb hfr hT hcr h0 hok hlt hY hb0 hGW hck hly hX hch hok1 hG e1 hYd
  refine (callsIn_wide (n := 1)).1 ?_
  change CallsIn Fence.wide 1 Tryz.prog 221 #[yv l, .pointer (some ⟨eb, 0, none⟩)] W _
  gi_enter Tryz.func221, Tryz.ntmps221
  gi_wp2_with (first | ((with_reducible apply i_want); rfl) | ((with_reducible apply i_read); rfl; exact Hb.out _ hS.fr; rfl) | (gi_at_call 45; go_must (refine callsIn_wide.2 ((Hck.out _ (HG.out _ hS.fr)).mono ?_)); rintro en w1 ⟨rfl, hf1⟩; replace hS := hS.keep hf1) | (gi_at_call 136; go_must (refine callsIn_wide.2 ((Hly.out _ (HG.out _ hS.fr)).mono ?_)); rintro en w1 ⟨v, rfl, hT⟩; replace hS := hS.join hT; simp only [List.cons_append, List.nil_append] at hS; obtain ⟨A, cp, rfl, hcp⟩ := (RdS.of_own (hT.get (c := own 9 1 v X.length (sv X)) (by exact Has.head))).shape; clear hT) | ((with_reducible apply i_append); assumption; rfl; rfl; (intro v'; (repeat (first | exact Upd.head | apply Upd.tail))); rfl; exact RdS.of_row (hS.get (by exact Has.head)) 1 1 rfl (Nat.le_refl _); simp [Value.oneCell']; omega; omega; clear hS; intro v' w hS hnil; obtain ⟨Aw, cw, rfl, hcw⟩ := (RdS.of_own (hS.get (by exact Has.head.tail))).shape) | ((with_reducible apply i_alloc); assumption; rfl; clear hS; intro b w hS) | ((with_reducible apply i_box); assumption; rfl; clear hS; intro b w hS) | ((with_reducible apply i_load); assumption; rfl; (repeat (first | exact Has.head | apply Has.tail)); (first | rfl | (simp [takeV]; done))) | ((with_reducible apply i_build); rfl; (simp [fillL, splice, Value.cells, Act.eval]; rfl)) | ((with_reducible apply i_buildA); rfl; (simp [fillL, splice, Value.cells, Act.eval]; rfl)) | ((with_reducible apply i_bslice); assumption; rfl; rfl; (first | (simp [fillL, splice, zeros, Value.cells, Act.eval]; rfl) | rfl); clear hS; intro b w hS) | ((with_reducible apply i_storeF); assumption; rfl; rfl; (repeat (first | exact Upd.head | apply Upd.tail)); rfl; clear hS; intro w hS) | ((with_reducible apply i_store); assumption; rfl; rfl; (repeat (first | exact Upd.head | apply Upd.tail)); rfl; clear hS; intro w hS; simp only [splice] at hS; try rw [splice_nil] at hS))
  have hS := hS.sub (L' := [own 9 1 (.slice Aw (X.length + 1) cw) (X.length + 1) (sv X ++ [txt []]), c]) (by (repeat (first | exact List.Sublist.slnil | exact List.Sublist.refl _ | apply List.Sublist.cons_cons | apply List.Sublist.cons)))
  rw [He1.out] at hS
  clear hnil hf1 Hck Hly He1
  gi_loopg [14] (X.length + 1) (fun g t14 wr => ∃ (i : Nat) (cc : Chunk), i + g = X.length + 1 ∧ t14 = .int .i64 (i : Int) ∧ Hid (I ((numL Y).take i) cc) ∧ St c.fp W wr [own 9 1 (.slice Aw (X.length + 1) cw) (X.length + 1) (sv Y), cc])
  case atStart => exact ⟨0, c, by omega, rfl, by simpa using H0, hS⟩
  case round =>
    obtain ⟨i, cc, hig, rfl, HI, hS⟩ := hrel
    by_cases hlt : i < X.length + 1
    · obtain ⟨x, hx⟩ : ∃ x, Y[i]? = some x := ⟨_, List.getElem?_eq_getElem (by omega)⟩
      have htk := numL_take hx
      have hrd0 := RdS.of_own (hS.get (c := own 9 1 (.slice Aw (X.length + 1) cw) (X.length + 1) (sv Y)) (by exact Has.head))
      obtain ⟨_, bb, o, rfl, hrd⟩ := hrd0.at i hlt (by decide)
      have hrd1 : Rd wr bb (o + i) [txt x] := by
        have := hrd.take 1
        rw [Nat.mul_one] at this
        have e1 : ((sv Y).drop i).take 1 = [txt x] := by
          rw [List.drop_eq_getElem_cons (by rw [sv_length]; omega)]
          have := (List.getElem?_eq_some_iff.1 hx).2
          simp [sv, this]
        rwa [e1] at this
      have hpx : (numL Y).take i ++ [(i, x)] <+: numL Y := by rw [← htk]; exact List.take_prefix _ _
      obtain ⟨fn, tmps, assign, body, hy, hR⟩ := HY.out _ (i, x) cc wr hpx HI.out (hS.get (by repeat (first | exact Has.head | apply Has.tail))) (fun b hb => ((hS.ok cc (by simp)).2 b hb).1)
      have Hrd := Lib.hid hrd1
      have Htk := Lib.hid htk
      have HR := Lib.hid hR
      have Hpx := Lib.hid hpx
      clear hrd0 hrd hrd1 htk hx hR hpx HI HY
      gi_wp2_with (first | ((with_reducible apply i_want); rfl) | ((with_reducible apply i_read); rfl; exact Hrd.out; rfl) | ((with_reducible apply i_alloc); assumption; rfl; clear hS; intro b w hS) | ((with_reducible apply i_box); assumption; rfl; clear hS; intro b w hS) | ((with_reducible apply i_load); assumption; rfl; (repeat (first | exact Has.head | apply Has.tail)); (first | rfl | (simp [takeV]; done))) | ((with_reducible apply i_build); rfl; (simp [fillL, splice, Value.cells, Act.eval]; rfl)) | ((with_reducible apply i_buildA); rfl; (simp [fillL, splice, Value.cells, Act.eval]; rfl)) | ((with_reducible apply i_bslice); assumption; rfl; rfl; (first | (simp [fillL, splice, zeros, Value.cells, Act.eval]; rfl) | rfl); clear hS; intro b w hS) | ((with_reducible apply i_storeF); assumption; rfl; rfl; (repeat (first | exact Upd.head | apply Upd.tail)); rfl; clear hS; intro w hS) | ((with_reducible apply i_store); assumption; rfl; rfl; (repeat (first | exact Upd.head | apply Upd.tail)); rfl; clear hS; intro w hS; simp only [splice] at hS; try rw [splice_nil] at hS))
      refine HR.out.mono ?_
      rw [← Htk.out]
      rintro e5 w5 (⟨rfl, c2, hI2, ht⟩ | ⟨rfl, c2, hI2, ht⟩)
      · replace hS := hS.turn (c' := c2) (by exact Upd.head.tail) ht
        have HI2 := Lib.hid hI2
        clear hI2 ht HR
        gi_wp2_with (first | ((with_reducible apply i_want); rfl) | ((with_reducible apply i_alloc); assumption; rfl; clear hS; intro b w hS) | ((with_reducible apply i_box); assumption; rfl; clear hS; intro b w hS) | ((with_reducible apply i_load); assumption; rfl; (repeat (first | exact Has.head | apply Has.tail)); (first | rfl | (simp [takeV]; done))) | ((with_reducible apply i_build); rfl; (simp [fillL, splice, Value.cells, Act.eval]; rfl)) | ((with_reducible apply i_buildA); rfl; (simp [fillL, splice, Value.cells, Act.eval]; rfl)) | ((with_reducible apply i_bslice); assumption; rfl; rfl; (first | (simp [fillL, splice, zeros, Value.cells, Act.eval]; rfl) | rfl); clear hS; intro b w hS) | ((with_reducible apply i_storeF); assumption; rfl; rfl; (repeat (first | exact Upd.head | apply Upd.tail)); rfl; clear hS; intro w hS) | ((with_reducible apply i_store); assumption; rfl; rfl; (repeat (first | exact Upd.head | apply Upd.tail)); rfl; clear hS; intro w hS; simp only [splice] at hS; try rw [splice_nil] at hS))
        gi_roundg (gk - 1)
        case measure => omega
        case rel => exact ⟨i + 1, c2, by omega, by go_num, HI2, hS⟩
      · replace hS := hS.turn (c' := c2) (by exact Upd.head.tail) ht
        have HI2 := Lib.hid hI2
        clear hI2 ht HR
        gi_wp2_with (first | ((with_reducible apply i_want); rfl) | ((with_reducible apply i_alloc); assumption; rfl; clear hS; intro b w hS) | ((with_reducible apply i_box); assumption; rfl; clear hS; intro b w hS) | ((with_reducible apply i_load); assumption; rfl; (repeat (first | exact Has.head | apply Has.tail)); (first | rfl | (simp [takeV]; done))) | ((with_reducible apply i_build); rfl; (simp [fillL, splice, Value.cells, Act.eval]; rfl)) | ((with_reducible apply i_buildA); rfl; (simp [fillL, splice, Value.cells, Act.eval]; rfl)) | ((with_reducible apply i_bslice); assumption; rfl; rfl; (first | (simp [fillL, splice, zeros, Value.cells, Act.eval]; rfl) | rfl); clear hS; intro b w hS) | ((with_reducible apply i_storeF); assumption; rfl; rfl; (repeat (first | exact Upd.head | apply Upd.tail)); rfl; clear hS; intro w hS) | ((with_reducible apply i_store); assumption; rfl; rfl; (repeat (first | exact Upd.head | apply Upd.tail)); rfl; clear hS; intro w hS; simp only [splice] at hS; try rw [splice_nil] at hS))
        refine bodyPost_ret (results_none rfl _ _ _) rfl ?_
        exact ⟨⟨_, rfl⟩, .inr ⟨_, c2, List.take_prefix _ _, HI2.out, hS.turnOf (by repeat (first | exact Has.head | apply Has.tail))⟩⟩
    · have hie : i = X.length + 1 := by omega
      have hn : ¬ ((i : Int) < (X.length : Int) + 1) := by omega
      subst hie
      gi_wp2_with (first | ((with_reducible apply i_want); rfl) | ((with_reducible apply i_alloc); assumption; rfl; clear hS; intro b w hS) | ((with_reducible apply i_box); assumption; rfl; clear hS; intro b w hS) | ((with_reducible apply i_load); assumption; rfl; (repeat (first | exact Has.head | apply Has.tail)); (first | rfl | (simp [takeV]; done))) | ((with_reducible apply i_build); rfl; (simp [fillL, splice, Value.cells, Act.eval]; rfl)) | ((with_reducible apply i_buildA); rfl; (simp [fillL, splice, Value.cells, Act.eval]; rfl)) | ((with_reducible apply i_bslice); assumption; rfl; rfl; (first | (simp [fillL, splice, zeros, Value.cells, Act.eval]; rfl) | rfl); clear hS; intro b w hS) | ((with_reducible apply i_storeF); assumption; rfl; rfl; (repeat (first | exact Upd.head | apply Upd.tail)); rfl; clear hS; intro w hS) | ((with_reducible apply i_store); assumption; rfl; rfl; (repeat (first | exact Upd.head | apply Upd.tail)); rfl; clear hS; intro w hS; simp only [splice] at hS; try rw [splice_nil] at hS))
      go_end0
      refine ⟨⟨_, rfl⟩, .inl ⟨cc, ?_, hS.turnOf (by repeat (first | exact Has.head | apply Has.tail))⟩⟩
      have h := HI.out
      rwa [List.take_of_length_le (by rw [numL_len, hlY]; exact Nat.le_refl _)] at h

theorem eachN_s (eb : Nat) (e : Ev) (w : World) (hG : Glob w) (hb : (row eb 34 e.cs).ok w) (hq : rightQ e = false) (h0 : e.id.length ≤ 1099511627776) (h1 : e.ty.length ≤ 1099511627776) (h2 : e.da.length ≤ 1099511627776) :
    SeqC Tryz.prog 221 #[.pointer (some ⟨eb, 0, none⟩)] argsL [] [0, eb] w := by
  intro l c I Ix T W hfr hT hcr hI0 hok hlt hY
  have hch : checkP e = false := by rw [checkP_eq, hq]
  have hok1 : okNo (rightP e) = 2 := by unfold rightP; rw [hch]; rfl
  have hGW : ∀ W', Fr c.fp W W' → Glob W' := fun W' h => (hG.fr hfr (hT 0 (by simp))).fr h (fun h => hcr _ h (by simp))
  have hb0 : ∀ W', Fr c.fp W W' → Rd W' eb 0 [txt e.id, txt e.ty, txt e.da] := fun W' h => ((Rd.of_row hb).fr hfr (hT eb (by simp))).fr h (fun h => hcr _ h (by simp))
  have hS : St c.fp W W [c] := ⟨Fr.refl _ _, by simp, fun d hd => by
    have : d = c := by simpa using hd
    subst this
    exact ⟨hok, fun b hb => ⟨hlt b hb, .inr hb⟩⟩⟩
  have hck := fun W' (hW : Glob W') => check_c W' hW e h0 h1 h2
  rw [hok1] at hck
  have Hb := Lib.hid hb0
  have HG := Lib.hid hGW
  have H0 := Lib.hid hI0
  have Hck := Lib.hid hck
  clear hb hfr hT hcr hI0 hok hlt hY hb0 hGW hck hch hok1 hG h0 h1 h2
  refine (callsIn_wide (n := 1)).1 ?_
  change CallsIn Fence.wide 1 Tryz.prog 221 #[yv l, .pointer (some ⟨eb, 0, none⟩)] W _
  gi_enter Tryz.func221, Tryz.ntmps221
  gi_wp2_with (first | ((with_reducible apply i_want); rfl) | ((with_reducible apply i_read); rfl; exact Hb.out _ hS.fr; rfl) | (gi_at_call 45; go_must (refine callsIn_wide.2 ((Hck.out _ (HG.out _ hS.fr)).mono ?_)); rintro en w1 ⟨rfl, hf1⟩; replace hS := hS.keep hf1) | ((with_reducible apply i_alloc); assumption; rfl; clear hS; intro b w hS) | ((with_reducible apply i_box); assumption; rfl; clear hS; intro b w hS) | ((with_reducible apply i_load); assumption; rfl; (repeat (first | exact Has.head | apply Has.tail)); (first | rfl | (simp [takeV]; done))) | ((with_reducible apply i_build); rfl; (simp [fillL, splice, Value.cells, Act.eval]; rfl)) | ((with_reducible apply i_buildA); rfl; (simp [fillL, splice, Value.cells, Act.eval]; rfl)) | ((with_reducible apply i_bslice); assumption; rfl; rfl; (first | (simp [fillL, splice, zeros, Value.cells, Act.eval]; rfl) | rfl); clear hS; intro b w hS) | ((with_reducible apply i_storeF); assumption; rfl; rfl; (repeat (first | exact Upd.head | apply Upd.tail)); rfl; clear hS; intro w hS) | ((with_reducible apply i_store); assumption; rfl; rfl; (repeat (first | exact Upd.head | apply Upd.tail)); rfl; clear hS; intro w hS; simp only [splice] at hS; try rw [splice_nil] at hS))
  refine bodyPost_ret (results_none rfl _ _ _) rfl ?_
  exact ⟨⟨_, rfl⟩, .inl ⟨c, H0.out, hS.turnOf (by repeat (first | exact Has.head | apply Has.tail))⟩⟩

theorem each_s (eb : Nat) (e : Ev) (w : World) (hG : Glob w) (hb : (row eb 34 e.cs).ok w) (h0 : e.id.length ≤ 1099511627776) (h1 : e.ty.length ≤ 1099511627776) (h2 : e.da.length ≤ 1099511627776) :
    SeqC Tryz.prog 221 #[.pointer (some ⟨eb, 0, none⟩)] argsL (seqP e) [0, eb] w := by
  unfold seqP
  cases hq : rightQ e with
  | true => exact eachP_s eb e w hG hb hq
  | false => exact eachN_s eb e w hG hb hq h0 h1 h2

theorem everyE_c (w : World) (e : Ev) : Calls Tryz.prog 169 #[e.v] w fun en w' => ∃ eb, en = .returned (.func (.func 221) #[] #[.pointer (some ⟨eb, 0, none⟩)]) ∧ St [] w w' [row eb 34 e.cs] := by
  change Calls Tryz.prog 169 #[.agg ⟨[txt e.id, txt e.ty, txt e.da]⟩] w _
  go_enter Tryz.func169, Tryz.ntmps169
  have hS := St.start [] w
  go_wp2_with (first | ((with_reducible apply l_want); rfl) | ((with_reducible apply l_alloc); assumption; rfl; clear hS; intro b w hS) | ((with_reducible apply l_box); assumption; rfl; clear hS; intro b w hS) | ((with_reducible apply l_load); assumption; rfl; (repeat (first | exact Has.head | apply Has.tail)); (first | rfl | (simp [takeV]; done))) | ((with_reducible apply l_build); rfl; (simp [fillL, splice, Value.cells, Act.eval]; rfl)) | ((with_reducible apply l_buildA); rfl; (simp [fillL, splice, Value.cells, Act.eval]; rfl)) | ((with_reducible apply l_bslice); assumption; rfl; rfl; (first | (simp [fillL, splice, zeros, Value.cells, Act.eval]; rfl) | rfl); clear hS; intro b w hS) | ((with_reducible apply l_storeF); assumption; rfl; rfl; (repeat (first | exact Upd.head | apply Upd.tail)); rfl; clear hS; intro w hS) | ((with_reducible apply l_store); assumption; rfl; rfl; (repeat (first | exact Upd.head | apply Upd.tail)); rfl; clear hS; intro w hS; simp only [splice] at hS; try rw [splice_nil] at hS))
  go_ret
  exact ⟨_, rfl, hS⟩
theorem linesE_c (w : World) (e : Ev) : Calls Tryz.prog 86 #[e.v] w fun en w' => ∃ eb, en = .returned (.func (.func 168) #[] #[.pointer (some ⟨eb, 0, none⟩)]) ∧ St [] w w' [row eb 34 e.cs] := by
  change Calls Tryz.prog 86 #[.agg ⟨[txt e.id, txt e.ty, txt e.da]⟩] w _
  go_enter Tryz.func86, Tryz.ntmps86
  have hS := St.start [] w
  go_wp2_with (first | ((with_reducible apply l_want); rfl) | ((with_reducible apply l_alloc); assumption; rfl; clear hS; intro b w hS) | ((with_reducible apply l_box); assumption; rfl; clear hS; intro b w hS) | ((with_reducible apply l_load); assumption; rfl; (repeat (first | exact Has.head | apply Has.tail)); (first | rfl | (simp [takeV]; done))) | ((with_reducible apply l_build); rfl; (simp [fillL, splice, Value.cells, Act.eval]; rfl)) | ((with_reducible apply l_buildA); rfl; (simp [fillL, splice, Value.cells, Act.eval]; rfl)) | ((with_reducible apply l_bslice); assumption; rfl; rfl; (first | (simp [fillL, splice, zeros, Value.cells, Act.eval]; rfl) | rfl); clear hS; intro b w hS) | ((with_reducible apply l_storeF); assumption; rfl; rfl; (repeat (first | exact Upd.head | apply Upd.tail)); rfl; clear hS; intro w hS) | ((with_reducible apply l_store); assumption; rfl; rfl; (repeat (first | exact Upd.head | apply Upd.tail)); rfl; clear hS; intro w hS; simp only [splice] at hS; try rw [splice_nil] at hS))
  go_ret
  exact ⟨_, rfl, hS⟩
end Go.Proofs.YtaejmginhkbbhaaGreatDoor
