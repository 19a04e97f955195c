/- The walks through package event, tenth part: an event's lines, gone over, for any (F168). Conditions: as each contract says. -/
import Derived.Test.YtaejmginhkbbhaaGreatDoorL1
import Derived.WalkMore
set_option linter.unusedSimpArgs false
set_option linter.unusedVariables false
set_option maxRecDepth 100000
set_option maxHeartbeats 1000000
namespace Go.Proofs.YtaejmginhkbbhaaGreatDoor
open Go Go.RowKit
attribute [local go_sem] Oper.semAt_some
theorem i_scope {n : Nat} {P : Program} {c : Code} {Q : Exit → Act → World → Prop} {a : Act} {w : World} (h : c.wpIn Fence.wide n P (Exit.noGoto Q) a w) : (Code.scope c).wpIn Fence.wide n P Q a w :=
  wpIn_wide.2 (wp_scope_straight (wpIn_wide.1 h))
theorem linesE_s (eb : Nat) (e : Ev) (w : World) (hG : Glob w) (hb : (row eb 34 e.cs).ok w) (h0 : e.id.length ≤ 1099511627776) (h1 : e.ty.length ≤ 1099511627776) (h2 : e.da.length ≤ 1099511627776) :
    SeqC Tryz.prog 168 #[.pointer (some ⟨eb, 0, none⟩)] argsL (seqP e) [0, eb] w := by
  obtain ⟨X, hX⟩ : ∃ X, X = seqP e := ⟨_, rfl⟩
  have hsq := fun eb' W' (hW : Glob W') (hb' : (row eb' 34 e.cs).ok W') => each_s eb' e W' hW hb' h0 h1 h2
  rw [← hX] at hsq ⊢
  clear hX h0 h1 h2
  intro l c I Ix T W hfr hT hcr hI0 hok hlt hY
  have hGW : ∀ W', Fr c.fp W W' → Glob W' := fun W' h => (hG.fr hfr (hT 0 (by simp))).fr h (fun h => hcr _ h (by simp))
  have hb0 : ∀ W', Fr c.fp W W' → Rd W' eb 0 [txt e.id, txt e.ty, txt e.da] := fun W' h => ((Rd.of_row hb).fr hfr (hT eb (by simp))).fr h (fun h => hcr _ h (by simp))
  have hS : St c.fp W W [c] := ⟨Fr.refl _ _, by simp, fun d hd => by
    have : d = c := by simpa using hd
    subst this
    exact ⟨hok, fun b hb => ⟨hlt b hb, .inr hb⟩⟩⟩
  have hW0 : 0 < W.heap.size := by
    obtain ⟨m, hm⟩ := (hGW W (Fr.refl _ _)).maxLen
    exact World.block_lt_of_cell? W ⟨0, 0, none⟩ hm
  have h0c : 0 ∉ c.fp := fun h => hcr _ h (by simp)
  have Hb := Lib.hid hb0
  have HG := Lib.hid hGW
  have HY := Lib.hid hY
  have H0 := Lib.hid hI0
  have Hsq := Lib.hid hsq
  have Hcr := Lib.hid h0c
  clear hb hfr hT hcr hI0 hok hlt hY hb0 hGW hG hsq h0c
  refine (callsIn_wide (n := 1)).1 ?_
  change CallsIn Fence.wide 1 Tryz.prog 168 #[yv l, .pointer (some ⟨eb, 0, none⟩)] W _
  refine callsIn_of_wp_marks Tryz.func168 rfl trivial ?_
  simp only [Tryz.ntmps168, List.size_toArray, List.length_cons, List.length_nil, Nat.reduceAdd, Nat.reduceSub, Array.replicate_succ, Array.replicate_zero, List.push_toArray, List.append_toArray, List.nil_append, List.cons_append]
  gi_wp2_with (first | ((with_reducible apply i_want); rfl) | ((with_reducible apply i_alloc); assumption; rfl; clear hS; intro b w hS) | ((with_reducible apply i_box); assumption; rfl; clear hS; intro b w hS) | ((with_reducible apply i_load); assumption; rfl; (repeat (first | exact Has.head | apply Has.tail)); (first | rfl | (simp [takeV]; done))) | ((with_reducible apply i_build); rfl; (simp [fillL, splice, Value.cells, Act.eval]; rfl)) | ((with_reducible apply i_buildA); rfl; (simp [fillL, splice, Value.cells, Act.eval]; rfl)) | ((with_reducible apply i_bslice); assumption; rfl; rfl; (first | (simp [fillL, splice, zeros, Value.cells, Act.eval]; rfl) | rfl); clear hS; intro b w hS) | ((with_reducible apply i_storeF); assumption; rfl; rfl; (repeat (first | exact Upd.head | apply Upd.tail)); rfl; clear hS; intro w hS) | ((with_reducible apply i_store); assumption; rfl; rfl; (repeat (first | exact Upd.head | apply Upd.tail)); rfl; clear hS; intro w hS; simp only [splice] at hS; try rw [splice_nil] at hS))
  refine i_scope ?_
  gi_wp2_with (first | ((with_reducible apply i_want); rfl) | ((with_reducible apply i_alloc); assumption; rfl; clear hS; intro b w hS) | ((with_reducible apply i_box); assumption; rfl; clear hS; intro b w hS) | ((with_reducible apply i_load); assumption; rfl; (repeat (first | exact Has.head | apply Has.tail)); (first | rfl | (simp [takeV]; done))) | ((with_reducible apply i_build); rfl; (simp [fillL, splice, Value.cells, Act.eval]; rfl)) | ((with_reducible apply i_buildA); rfl; (simp [fillL, splice, Value.cells, Act.eval]; rfl)) | ((with_reducible apply i_bslice); assumption; rfl; rfl; (first | (simp [fillL, splice, zeros, Value.cells, Act.eval]; rfl) | rfl); clear hS; intro b w hS) | ((with_reducible apply i_storeF); assumption; rfl; rfl; (repeat (first | exact Upd.head | apply Upd.tail)); rfl; clear hS; intro w hS) | ((with_reducible apply i_store); assumption; rfl; rfl; (repeat (first | exact Upd.head | apply Upd.tail)); rfl; clear hS; intro w hS; simp only [splice] at hS; try rw [splice_nil] at hS))
  refine wpIn_label ?_
  gi_wp2_with (first | ((with_reducible apply i_want); rfl) | ((with_reducible apply i_read); rfl; exact Hb.out _ hS.fr; rfl) | (gi_at_call 169; go_must (refine callsIn_wide.2 ((everyE_c _ e).mono ?_)); rintro en w1 ⟨e2, rfl, hT⟩; have hE := hT.get (c := row e2 34 e.cs) (by exact Has.head); have hbb := (hT.ok _ (List.mem_cons_self)).2 e2 (by simp [row, blk]); have hf1 := hT.fr; have hold := hS; replace hS := hS.keep hf1) | ((with_reducible apply i_alloc); assumption; rfl; clear hS; intro b w hS) | ((with_reducible apply i_box); assumption; rfl; clear hS; intro b w hS) | ((with_reducible apply i_load); assumption; rfl; (repeat (first | exact Has.head | apply Has.tail)); (first | rfl | (simp [takeV]; done))) | ((with_reducible apply i_build); rfl; (simp [fillL, splice, Value.cells, Act.eval]; rfl)) | ((with_reducible apply i_buildA); rfl; (simp [fillL, splice, Value.cells, Act.eval]; rfl)) | ((with_reducible apply i_bslice); assumption; rfl; rfl; (first | (simp [fillL, splice, zeros, Value.cells, Act.eval]; rfl) | rfl); clear hS; intro b w hS) | ((with_reducible apply i_storeF); assumption; rfl; rfl; (repeat (first | exact Upd.head | apply Upd.tail)); rfl; clear hS; intro w hS) | ((with_reducible apply i_store); assumption; rfl; rfl; (repeat (first | exact Upd.head | apply Upd.tail)); rfl; clear hS; intro w hS; simp only [splice] at hS; try rw [splice_nil] at hS))
  have hG1 : Glob w1 := HG.out _ hS.fr
  have hS2 := St.bundle (L1 := [_, _]) (L2 := []) hS
  refine i_rangeFunc (P := Tryz.prog) hS2 rfl (enters_of Tryz.func221 (by kernel_rfl) rfl) (Hsq.out e2 w1 hG1 hE) (T := []) (Fr.refl _ _) (by simp) ?_ ?_ (fun x => rfl)
    (fun pre C => ∃ c1, I pre c1 ∧ C = bun [row b 270 [yv l], c1]) (fun code pre C => code = .exit 0 ∧ ∃ c1, Ix pre c1 ∧ C = bun [row b 270 [yv l], c1]) ⟨_, H0.out, rfl⟩ ?_ ?_ ?_
  · intro k hk hk2
    obtain ⟨d, hd, h1⟩ := (bun_fp k).1 hk
    have hkS := (hold.ok d hd).2 k h1
    rcases List.mem_cons.1 hk2 with rfl | h2
    · rcases hkS.2 with h3 | h3
      · omega
      · exact Hcr.out h3
    · have : k = e2 := by simpa using h2
      subst this
      rcases hbb.2 with h3 | h3
      · omega
      · cases h3
  · intro k hk
    rcases List.mem_cons.1 hk with rfl | h2
    · exact Nat.lt_of_lt_of_le hW0 hS.fr.size
    · have : k = e2 := by simpa using h2
      subst this
      exact hbb.1
  · rintro l2 pre ⟨i, x⟩ C W3 K hpre ⟨c1, hI, rfl⟩ hok hlt hK
    gi_wp2
    refine hK _ _ _ (Turn.refl hok hlt) ?_
    intro W2 hok2 hlt2
    have hS := St.open hok2
    obtain ⟨fn, tmps, assign, body, hy, hR⟩ := HY.out pre (i, x) c1 W2 hpre hI (hS.get (by repeat (first | exact Has.head | apply Has.tail))) (fun b hb => ((hS.ok c1 (by simp)).2 b hb).1)
    have HR := Lib.hid hR
    clear hok hlt hK hS2 hT hE hbb hold hf1 hR hpre hI hok2 hlt2 HY
    gi_wp2_with (first | ((with_reducible apply i_want); rfl) | ((with_reducible apply i_alloc); assumption; rfl; clear hS; intro b w hS) | ((with_reducible apply i_box); assumption; rfl; clear hS; intro b w hS) | ((with_reducible apply i_load); assumption; rfl; (repeat (first | exact Has.head | apply Has.tail)); (first | rfl | (simp [takeV]; done))) | ((with_reducible apply i_build); rfl; (simp [fillL, splice, Value.cells, Act.eval]; rfl)) | ((with_reducible apply i_buildA); rfl; (simp [fillL, splice, Value.cells, Act.eval]; rfl)) | ((with_reducible apply i_bslice); assumption; rfl; rfl; (first | (simp [fillL, splice, zeros, Value.cells, Act.eval]; rfl) | rfl); clear hS; intro b w hS) | ((with_reducible apply i_storeF); assumption; rfl; rfl; (repeat (first | exact Upd.head | apply Upd.tail)); rfl; clear hS; intro w hS) | ((with_reducible apply i_store); assumption; rfl; rfl; (repeat (first | exact Upd.head | apply Upd.tail)); rfl; clear hS; intro w hS; simp only [splice] at hS; try rw [splice_nil] at hS))
    refine HR.out.mono ?_
    rintro e5 w5 (⟨rfl, c2, hI2, ht⟩ | ⟨rfl, c2, hI2, ht⟩)
    · replace hS := hS.turn (c' := c2) (by exact Upd.head.tail) ht
      have HI2 := Lib.hid hI2
      clear hI2 ht HR
      gi_wp2_with (first | ((with_reducible apply i_want); rfl) | ((with_reducible apply i_alloc); assumption; rfl; clear hS; intro b w hS) | ((with_reducible apply i_box); assumption; rfl; clear hS; intro b w hS) | ((with_reducible apply i_load); assumption; rfl; (repeat (first | exact Has.head | apply Has.tail)); (first | rfl | (simp [takeV]; done))) | ((with_reducible apply i_build); rfl; (simp [fillL, splice, Value.cells, Act.eval]; rfl)) | ((with_reducible apply i_buildA); rfl; (simp [fillL, splice, Value.cells, Act.eval]; rfl)) | ((with_reducible apply i_bslice); assumption; rfl; rfl; (first | (simp [fillL, splice, zeros, Value.cells, Act.eval]; rfl) | rfl); clear hS; intro b w hS) | ((with_reducible apply i_storeF); assumption; rfl; rfl; (repeat (first | exact Upd.head | apply Upd.tail)); rfl; clear hS; intro w hS) | ((with_reducible apply i_store); assumption; rfl; rfl; (repeat (first | exact Upd.head | apply Upd.tail)); rfl; clear hS; intro w hS; simp only [splice] at hS; try rw [splice_nil] at hS))
      exact ⟨_, ⟨c2, HI2.out, rfl⟩, hS.toTurn⟩
    · replace hS := hS.turn (c' := c2) (by exact Upd.head.tail) ht
      have HI2 := Lib.hid hI2
      clear hI2 ht HR
      gi_wp2_with (first | ((with_reducible apply i_want); rfl) | ((with_reducible apply i_alloc); assumption; rfl; clear hS; intro b w hS) | ((with_reducible apply i_box); assumption; rfl; clear hS; intro b w hS) | ((with_reducible apply i_load); assumption; rfl; (repeat (first | exact Has.head | apply Has.tail)); (first | rfl | (simp [takeV]; done))) | ((with_reducible apply i_build); rfl; (simp [fillL, splice, Value.cells, Act.eval]; rfl)) | ((with_reducible apply i_buildA); rfl; (simp [fillL, splice, Value.cells, Act.eval]; rfl)) | ((with_reducible apply i_bslice); assumption; rfl; rfl; (first | (simp [fillL, splice, zeros, Value.cells, Act.eval]; rfl) | rfl); clear hS; intro b w hS) | ((with_reducible apply i_storeF); assumption; rfl; rfl; (repeat (first | exact Upd.head | apply Upd.tail)); rfl; clear hS; intro w hS) | ((with_reducible apply i_store); assumption; rfl; rfl; (repeat (first | exact Upd.head | apply Upd.tail)); rfl; clear hS; intro w hS; simp only [splice] at hS; try rw [splice_nil] at hS))
      exact ⟨_, ⟨rfl, c2, HI2.out, rfl⟩, hS.toTurn⟩
  · rintro D W' _ ⟨c1, hI, rfl⟩ hS
    have hS := (hS.pick (by exact .tail .head)).unbundle
    simp only [List.cons_append, List.nil_append] at hS
    have HI := Lib.hid hI
    clear hS2 hT hE hbb hold hf1 hI
    gi_wp2_with (first | ((with_reducible apply i_want); rfl) | ((with_reducible apply i_alloc); assumption; rfl; clear hS; intro b w hS) | ((with_reducible apply i_box); assumption; rfl; clear hS; intro b w hS) | ((with_reducible apply i_load); assumption; rfl; (repeat (first | exact Has.head | apply Has.tail)); (first | rfl | (simp [takeV]; done))) | ((with_reducible apply i_build); rfl; (simp [fillL, splice, Value.cells, Act.eval]; rfl)) | ((with_reducible apply i_buildA); rfl; (simp [fillL, splice, Value.cells, Act.eval]; rfl)) | ((with_reducible apply i_bslice); assumption; rfl; rfl; (first | (simp [fillL, splice, zeros, Value.cells, Act.eval]; rfl) | rfl); clear hS; intro b w hS) | ((with_reducible apply i_storeF); assumption; rfl; rfl; (repeat (first | exact Upd.head | apply Upd.tail)); rfl; clear hS; intro w hS) | ((with_reducible apply i_store); assumption; rfl; rfl; (repeat (first | exact Upd.head | apply Upd.tail)); rfl; clear hS; intro w hS; simp only [splice] at hS; try rw [splice_nil] at hS))
    obtain ⟨W7, ht7, hS7⟩ := (hS.pick (by exact .tail (.tail .head))).take (P := Tryz.prog)
    refine ⟨by simp, .inl ⟨_, _, rfl, ht7, ?_⟩⟩
    exact ⟨_, results_none rfl _ _ _, ⟨_, rfl⟩, .inl ⟨c1, HI.out, hS7.turnOf (by repeat (first | exact Has.head | apply Has.tail))⟩⟩
  · rintro D code pre _ W' hpre ⟨rfl, c1, hI, rfl⟩ hS
    have hS := (hS.pick (by exact .tail .head)).unbundle
    simp only [List.cons_append, List.nil_append] at hS
    have HI := Lib.hid hI
    have Hpre := Lib.hid hpre
    clear hS2 hT hE hbb hold hf1 hI hpre
    gi_wp2_with (first | ((with_reducible apply i_want); rfl) | ((with_reducible apply i_alloc); assumption; rfl; clear hS; intro b w hS) | ((with_reducible apply i_box); assumption; rfl; clear hS; intro b w hS) | ((with_reducible apply i_load); assumption; rfl; (repeat (first | exact Has.head | apply Has.tail)); (first | rfl | (simp [takeV]; done))) | ((with_reducible apply i_build); rfl; (simp [fillL, splice, Value.cells, Act.eval]; rfl)) | ((with_reducible apply i_buildA); rfl; (simp [fillL, splice, Value.cells, Act.eval]; rfl)) | ((with_reducible apply i_bslice); assumption; rfl; rfl; (first | (simp [fillL, splice, zeros, Value.cells, Act.eval]; rfl) | rfl); clear hS; intro b w hS) | ((with_reducible apply i_storeF); assumption; rfl; rfl; (repeat (first | exact Upd.head | apply Upd.tail)); rfl; clear hS; intro w hS) | ((with_reducible apply i_store); assumption; rfl; rfl; (repeat (first | exact Upd.head | apply Upd.tail)); rfl; clear hS; intro w hS; simp only [splice] at hS; try rw [splice_nil] at hS))
    obtain ⟨W7, ht7, hS7⟩ := (hS.pick (by exact .tail (.tail .head))).take (P := Tryz.prog)
    refine ⟨by simp, .inl ⟨_, _, rfl, ht7, ?_⟩⟩
    exact ⟨_, results_none rfl _ _ _, ⟨_, rfl⟩, .inr ⟨_, c1, Hpre.out, HI.out, hS7.turnOf (by repeat (first | exact Has.head | apply Has.tail))⟩⟩
end Go.Proofs.YtaejmginhkbbhaaGreatDoor
