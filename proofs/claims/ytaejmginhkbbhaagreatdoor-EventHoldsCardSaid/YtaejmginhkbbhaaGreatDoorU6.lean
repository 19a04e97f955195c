/- The walks through package utf, sixth part: the points of bytes, gone over (F316, F315, F280, F237, F192). Conditions: as each contract says. -/
import Derived.Test.YtaejmginhkbbhaaGreatDoorU5
set_option linter.unusedSimpArgs false
set_option linter.unusedVariables false
set_option maxRecDepth 100000
set_option maxHeartbeats 1000000
namespace Go.Proofs.YtaejmginhkbbhaaGreatDoor
open Go Go.RowKit
attribute [local go_sem] Oper.semAt_some
abbrev yv (l : Nat) : Value := .func (.yield l) #[] #[]

theorem every11_c (l yb ob : Nat) (ps xs : List (Nat × Nat)) (hps : ps <+: xs) (I Ix : List (Nat × Nat) → Chunk → Prop) (hY : Yields Tryz.prog l argsP xs I Ix) :
    CbC Tryz.prog 316 #[.pointer (some ⟨yb, 0, none⟩), .pointer (some ⟨ob, 0, none⟩)] argsP ps (fun pre C => ∃ c, I pre c ∧ C = bun [row yb 64 [yv l], row ob 4 [.bool true], c]) (fun pre C => ∃ c, Ix pre c ∧ C = bun [row yb 64 [yv l], row ob 4 [.bool false], c]) := by
  rintro pre ⟨i, p⟩ C W hpre ⟨c, hI, rfl⟩ hok hlt
  have hS := St.open hok
  obtain ⟨fn, tmps, assign, body, hy, hR⟩ := hY pre (i, p) c W (hpre.trans hps) hI (hS.get (by repeat (first | exact Has.head | apply Has.tail))) (fun b hb => ((hS.ok c (by simp)).2 b hb).1)
  have HR := Lib.hid hR
  clear hR hY hpre hI hok hlt hps
  refine (callsIn_wide (n := 1)).1 ?_
  change CallsIn Fence.wide 1 Tryz.prog 316 #[.int .i64 (i : Int), .int .i64 (p : Int), .pointer (some ⟨yb, 0, none⟩), .pointer (some ⟨ob, 0, none⟩)] W _
  gi_enter Tryz.func316, Tryz.ntmps316
  gi_wp2_with (first | ((with_reducible apply i_want); rfl) | ((with_reducible apply i_alloc); assumption; rfl; clear hS; intro b w hS) | ((with_reducible apply i_box); assumption; rfl; clear hS; intro b w hS) | ((with_reducible apply i_load); assumption; rfl; (repeat (first | exact Has.head | apply Has.tail)); (first | rfl | (simp [takeV]; done))) | ((with_reducible apply i_build); rfl; (simp [fillL, splice, Value.cells, Act.eval]; rfl)) | ((with_reducible apply i_buildA); rfl; (simp [fillL, splice, Value.cells, Act.eval]; rfl)) | ((with_reducible apply i_bslice); assumption; rfl; rfl; (simp [fillL, splice, zeros, Value.cells, Act.eval]; rfl); clear hS; intro b w hS) | ((with_reducible apply i_storeF); assumption; rfl; rfl; (repeat (first | exact Upd.head | apply Upd.tail)); rfl; clear hS; intro w hS) | ((with_reducible apply i_store); assumption; rfl; rfl; (repeat (first | exact Upd.head | apply Upd.tail)); rfl; clear hS; intro w hS; simp only [splice] at hS; try rw [splice_nil] at hS))
  refine HR.out.mono ?_
  rintro e w3 (⟨rfl, c', hI', ht⟩ | ⟨rfl, c', hI', ht⟩)
  · replace hS := hS.turn (c' := c') (by exact Upd.head.tail.tail) ht
    have HI := Lib.hid hI'
    clear hI' ht HR
    gi_wp2_with (first | ((with_reducible apply i_want); rfl) | ((with_reducible apply i_alloc); assumption; rfl; clear hS; intro b w hS) | ((with_reducible apply i_box); assumption; rfl; clear hS; intro b w hS) | ((with_reducible apply i_load); assumption; rfl; (repeat (first | exact Has.head | apply Has.tail)); (first | rfl | (simp [takeV]; done))) | ((with_reducible apply i_build); rfl; (simp [fillL, splice, Value.cells, Act.eval]; rfl)) | ((with_reducible apply i_buildA); rfl; (simp [fillL, splice, Value.cells, Act.eval]; rfl)) | ((with_reducible apply i_bslice); assumption; rfl; rfl; (simp [fillL, splice, zeros, Value.cells, Act.eval]; rfl); clear hS; intro b w hS) | ((with_reducible apply i_storeF); assumption; rfl; rfl; (repeat (first | exact Upd.head | apply Upd.tail)); rfl; clear hS; intro w hS) | ((with_reducible apply i_store); assumption; rfl; rfl; (repeat (first | exact Upd.head | apply Upd.tail)); rfl; clear hS; intro w hS; simp only [splice] at hS; try rw [splice_nil] at hS))
    go_ret
    exact .inl ⟨rfl, _, ⟨c', HI.out, rfl⟩, hS.toTurn⟩
  · replace hS := hS.turn (c' := c') (by exact Upd.head.tail.tail) ht
    have HI := Lib.hid hI'
    clear hI' ht HR
    gi_wp2_with (first | ((with_reducible apply i_want); rfl) | ((with_reducible apply i_alloc); assumption; rfl; clear hS; intro b w hS) | ((with_reducible apply i_box); assumption; rfl; clear hS; intro b w hS) | ((with_reducible apply i_load); assumption; rfl; (repeat (first | exact Has.head | apply Has.tail)); (first | rfl | (simp [takeV]; done))) | ((with_reducible apply i_build); rfl; (simp [fillL, splice, Value.cells, Act.eval]; rfl)) | ((with_reducible apply i_buildA); rfl; (simp [fillL, splice, Value.cells, Act.eval]; rfl)) | ((with_reducible apply i_bslice); assumption; rfl; rfl; (simp [fillL, splice, zeros, Value.cells, Act.eval]; rfl); clear hS; intro b w hS) | ((with_reducible apply i_storeF); assumption; rfl; rfl; (repeat (first | exact Upd.head | apply Upd.tail)); rfl; clear hS; intro w hS) | ((with_reducible apply i_store); assumption; rfl; rfl; (repeat (first | exact Upd.head | apply Upd.tail)); rfl; clear hS; intro w hS; simp only [splice] at hS; try rw [splice_nil] at hS))
    go_ret
    exact .inr ⟨rfl, _, ⟨c', HI.out, rfl⟩, hS.toTurn⟩

theorem every1_s (bb : Nat) (vb : Value) (bs : List UInt8) (w : World) (hb : (row bb 52 [vb]).ok w) (hr : RdS w 1 vb bs.length (bv bs)) (hlen : bs.length ≤ 1099511627776) :
    SeqC Tryz.prog 315 #[.pointer (some ⟨bb, 0, none⟩)] argsP (toldAt bs) (bb :: vb.ownBlock.toList) w := by
  intro l c I Ix T W hfr hT hcr h0 hok hlt hY
  have hS := St.start c.fp W
  have hS := hS
  have hb0 : ∀ W', Fr c.fp W W' → Rd W' bb 0 [vb] := fun W' h => ((Rd.of_row hb).fr hfr (hT bb (by simp))).fr h (fun h => hcr _ h (by simp))
  have hr0 : ∀ W', Fr c.fp W W' → RdS W' 1 vb bs.length (bv bs) := fun W' h => (hr.frame hfr (fun k hk => hT k (by simp [hk]))).frame h (fun k hk h => hcr k h (by simp [hk]))
  obtain ⟨A, cp, hv, hcp⟩ := hr.shape
  have hS : St c.fp W W [c] := ⟨Fr.refl _ _, by simp, fun d hd => by
    have : d = c := by simpa using hd
    subst this
    exact ⟨hok, fun b hb => ⟨hlt b hb, .inr hb⟩⟩⟩
  have Hb := Lib.hid hb0
  have Hr := Lib.hid hr0
  have HY := Lib.hid hY
  have H0 := Lib.hid h0
  subst hv
  clear hb hr hfr hT hcr h0 hok hlt hY hb0 hr0
  refine (callsIn_wide (n := 1)).1 ?_
  change CallsIn Fence.wide 1 Tryz.prog 315 #[yv l, .pointer (some ⟨bb, 0, none⟩)] W _
  gi_enter Tryz.func315, Tryz.ntmps315
  gi_wp2_with (first | ((with_reducible apply i_want); rfl) | ((with_reducible apply i_read); rfl; exact Hb.out _ hS.fr; rfl) | ((with_reducible apply i_alloc); assumption; rfl; clear hS; intro b w hS) | ((with_reducible apply i_box); assumption; rfl; clear hS; intro b w hS) | ((with_reducible apply i_load); assumption; rfl; (repeat (first | exact Has.head | apply Has.tail)); (first | rfl | (simp [takeV]; done))) | ((with_reducible apply i_build); rfl; (simp [fillL, splice, Value.cells, Act.eval]; rfl)) | ((with_reducible apply i_buildA); rfl; (simp [fillL, splice, Value.cells, Act.eval]; rfl)) | ((with_reducible apply i_bslice); assumption; rfl; rfl; (simp [fillL, splice, zeros, Value.cells, Act.eval]; rfl); clear hS; intro b w hS) | ((with_reducible apply i_storeF); assumption; rfl; rfl; (repeat (first | exact Upd.head | apply Upd.tail)); rfl; clear hS; intro w hS) | ((with_reducible apply i_store); assumption; rfl; rfl; (repeat (first | exact Upd.head | apply Upd.tail)); rfl; clear hS; intro w hS; simp only [splice] at hS; try rw [splice_nil] at hS))
  have hS2 := St.bundle (L1 := [_, _, _]) (hS.perm (L' := [_, _, _, _]) (((List.Perm.swap _ _ _).cons _).trans (List.perm_append_comm (l₁ := [_]))))
  have hS3 := (hS2.addNil (c' := rdS 1 (.slice none 0 0) ([] : List UInt8).length (bv [])) (RdS.nil _ _ _ _) rfl).pick (by exact .tail (.tail .head))
  clear hS2 hS
  refine callsIn_wide.2 ((told_c _ _ _ 371 _ [] [] bs _ _ 316 _ _ _ (St.open hS3.bun_ok) (fun W'' h => Hr.out _ (hS3.frame_bun h)) (enters_of Tryz.func316 (by kernel_rfl) rfl)
    (every11_c l _ _ _ (toldAt bs) (by rw [List.nil_append]; exact ⟨_, rfl⟩) I Ix HY.out) ⟨c, H0.out, rfl⟩ (by simpa using hlen)).mono ?_)
  rintro e w4 ⟨⟨v, rfl⟩, v', left, C', hT, hJ⟩
  rw [List.nil_append] at hJ
  have hlen2 := (pointsN_len bs.length 0 bs).1
  have hsh := (hT.get (c := rdS 1 v' left.length (bv left)) (by exact Has.head.tail)).shape
  obtain ⟨A5, cp5, rfl, hcp5⟩ := hsh
  rcases hJ with ⟨⟨c', hI, rfl⟩, hleft⟩ | ⟨pre, hpre, c', hI, rfl⟩
  · have hS := ((hS3.call1 hT).pick (by exact .tail (.tail .head))).unbundle
    have HI := Lib.hid hI
    have hll : left.length ≤ bs.length := by rw [hleft]; show (ptsAt 0 bs).2.length ≤ bs.length; unfold ptsAt; omega
    have Hleft := Lib.hid hleft
    clear hI hT hS3 hleft hlen2
    simp only [List.cons_append, List.nil_append] at hS
    gi_wp2_with (first | ((with_reducible apply i_want); rfl) | ((with_reducible apply i_alloc); assumption; rfl; clear hS; intro b w hS) | ((with_reducible apply i_box); assumption; rfl; clear hS; intro b w hS) | ((with_reducible apply i_load); assumption; rfl; (repeat (first | exact Has.head | apply Has.tail)); (first | rfl | (simp [takeV]; done))) | ((with_reducible apply i_build); rfl; (simp [fillL, splice, Value.cells, Act.eval]; rfl)) | ((with_reducible apply i_buildA); rfl; (simp [fillL, splice, Value.cells, Act.eval]; rfl)) | ((with_reducible apply i_bslice); assumption; rfl; rfl; (simp [fillL, splice, zeros, Value.cells, Act.eval]; rfl); clear hS; intro b w hS) | ((with_reducible apply i_storeF); assumption; rfl; rfl; (repeat (first | exact Upd.head | apply Upd.tail)); rfl; clear hS; intro w hS) | ((with_reducible apply i_store); assumption; rfl; rfl; (repeat (first | exact Upd.head | apply Upd.tail)); rfl; clear hS; intro w hS; simp only [splice] at hS; try rw [splice_nil] at hS))
    refine mix_startI mixed (fun _ => trivial) (by kernel_rfl) _ (Stable.st _ _ _) hS.drew ?_
    replace hS := hS.drew
    apply mix_qI 0 rfl (by kernel_rfl) rfl rfl room_wide (by intro c h; cases h)
    · intro w hS; gi_wp2_with (first | ((with_reducible apply i_want); rfl) | ((with_reducible apply i_read); rfl; exact Hb.out _ hS.fr; rfl) | ((with_reducible apply i_alloc); assumption; rfl; clear hS; intro b w hS) | ((with_reducible apply i_box); assumption; rfl; clear hS; intro b w hS) | ((with_reducible apply i_load); assumption; rfl; (repeat (first | exact Has.head | apply Has.tail)); (first | rfl | (simp [takeV]; done))) | ((with_reducible apply i_build); rfl; (simp [fillL, splice, Value.cells, Act.eval]; rfl)) | ((with_reducible apply i_buildA); rfl; (simp [fillL, splice, Value.cells, Act.eval]; rfl)) | ((with_reducible apply i_bslice); assumption; rfl; rfl; (simp [fillL, splice, zeros, Value.cells, Act.eval]; rfl); clear hS; intro b w hS) | ((with_reducible apply i_storeF); assumption; rfl; rfl; (repeat (first | exact Upd.head | apply Upd.tail)); rfl; clear hS; intro w hS) | ((with_reducible apply i_store); assumption; rfl; rfl; (repeat (first | exact Upd.head | apply Upd.tail)); rfl; clear hS; intro w hS; simp only [splice] at hS; try rw [splice_nil] at hS)); exact ⟨rfl, by first | exact Fr.refl _ _ | assumption⟩
    · rfl
    apply mix_qI 1 rfl (by kernel_rfl) rfl rfl room_wide (by intro c h; cases h)
    · intro w hS; gi_wp2_with (first | ((with_reducible apply i_want); rfl) | ((with_reducible apply i_read); rfl; exact Hb.out _ hS.fr; rfl) | ((with_reducible apply i_alloc); assumption; rfl; clear hS; intro b w hS) | ((with_reducible apply i_box); assumption; rfl; clear hS; intro b w hS) | ((with_reducible apply i_load); assumption; rfl; (repeat (first | exact Has.head | apply Has.tail)); (first | rfl | (simp [takeV]; done))) | ((with_reducible apply i_build); rfl; (simp [fillL, splice, Value.cells, Act.eval]; rfl)) | ((with_reducible apply i_buildA); rfl; (simp [fillL, splice, Value.cells, Act.eval]; rfl)) | ((with_reducible apply i_bslice); assumption; rfl; rfl; (simp [fillL, splice, zeros, Value.cells, Act.eval]; rfl); clear hS; intro b w hS) | ((with_reducible apply i_storeF); assumption; rfl; rfl; (repeat (first | exact Upd.head | apply Upd.tail)); rfl; clear hS; intro w hS) | ((with_reducible apply i_store); assumption; rfl; rfl; (repeat (first | exact Upd.head | apply Upd.tail)); rfl; clear hS; intro w hS; simp only [splice] at hS; try rw [splice_nil] at hS)); exact ⟨rfl, by first | exact Fr.refl _ _ | assumption⟩
    · rfl
    apply mix_fI 2 rfl (by kernel_rfl) rfl room_wide (by intro c h; cases h)
    · intro w; gi_wp2_with (first | ((with_reducible apply i_want); rfl) | ((with_reducible apply i_alloc); assumption; rfl; clear hS; intro b w hS) | ((with_reducible apply i_box); assumption; rfl; clear hS; intro b w hS) | ((with_reducible apply i_load); assumption; rfl; (repeat (first | exact Has.head | apply Has.tail)); (first | rfl | (simp [takeV]; done))) | ((with_reducible apply i_build); rfl; (simp [fillL, splice, Value.cells, Act.eval]; rfl)) | ((with_reducible apply i_buildA); rfl; (simp [fillL, splice, Value.cells, Act.eval]; rfl)) | ((with_reducible apply i_bslice); assumption; rfl; rfl; (simp [fillL, splice, zeros, Value.cells, Act.eval]; rfl); clear hS; intro b w hS) | ((with_reducible apply i_storeF); assumption; rfl; rfl; (repeat (first | exact Upd.head | apply Upd.tail)); rfl; clear hS; intro w hS) | ((with_reducible apply i_store); assumption; rfl; rfl; (repeat (first | exact Upd.head | apply Upd.tail)); rfl; clear hS; intro w hS; simp only [splice] at hS; try rw [splice_nil] at hS)); exact ⟨rfl, Fr.refl _ _⟩
    · rfl
    apply mix_fI 3 rfl (by kernel_rfl) rfl room_wide (by intro c h; cases h)
    · intro w; gi_wp2_with (first | ((with_reducible apply i_want); rfl) | ((with_reducible apply i_alloc); assumption; rfl; clear hS; intro b w hS) | ((with_reducible apply i_box); assumption; rfl; clear hS; intro b w hS) | ((with_reducible apply i_load); assumption; rfl; (repeat (first | exact Has.head | apply Has.tail)); (first | rfl | (simp [takeV]; done))) | ((with_reducible apply i_build); rfl; (simp [fillL, splice, Value.cells, Act.eval]; rfl)) | ((with_reducible apply i_buildA); rfl; (simp [fillL, splice, Value.cells, Act.eval]; rfl)) | ((with_reducible apply i_bslice); assumption; rfl; rfl; (simp [fillL, splice, zeros, Value.cells, Act.eval]; rfl); clear hS; intro b w hS) | ((with_reducible apply i_storeF); assumption; rfl; rfl; (repeat (first | exact Upd.head | apply Upd.tail)); rfl; clear hS; intro w hS) | ((with_reducible apply i_store); assumption; rfl; rfl; (repeat (first | exact Upd.head | apply Upd.tail)); rfl; clear hS; intro w hS; simp only [splice] at hS; try rw [splice_nil] at hS)); exact ⟨rfl, Fr.refl _ _⟩
    · rfl
    apply mix_fI 4 rfl (by kernel_rfl) rfl room_wide (by intro c h; cases h)
    · intro w; gi_wp2_with (first | ((with_reducible apply i_want); rfl) | ((with_reducible apply i_alloc); assumption; rfl; clear hS; intro b w hS) | ((with_reducible apply i_box); assumption; rfl; clear hS; intro b w hS) | ((with_reducible apply i_load); assumption; rfl; (repeat (first | exact Has.head | apply Has.tail)); (first | rfl | (simp [takeV]; done))) | ((with_reducible apply i_build); rfl; (simp [fillL, splice, Value.cells, Act.eval]; rfl)) | ((with_reducible apply i_buildA); rfl; (simp [fillL, splice, Value.cells, Act.eval]; rfl)) | ((with_reducible apply i_bslice); assumption; rfl; rfl; (simp [fillL, splice, zeros, Value.cells, Act.eval]; rfl); clear hS; intro b w hS) | ((with_reducible apply i_storeF); assumption; rfl; rfl; (repeat (first | exact Upd.head | apply Upd.tail)); rfl; clear hS; intro w hS) | ((with_reducible apply i_store); assumption; rfl; rfl; (repeat (first | exact Upd.head | apply Upd.tail)); rfl; clear hS; intro w hS; simp only [splice] at hS; try rw [splice_nil] at hS)); exact ⟨rfl, Fr.refl _ _⟩
    · rfl
    apply mix_qI 5 rfl (by kernel_rfl) rfl rfl room_wide (by intro c h; cases h)
    · intro w hS; gi_wp2_with (first | ((with_reducible apply i_want); rfl) | ((with_reducible apply i_read); rfl; exact Hb.out _ hS.fr; rfl) | ((with_reducible apply i_alloc); assumption; rfl; clear hS; intro b w hS) | ((with_reducible apply i_box); assumption; rfl; clear hS; intro b w hS) | ((with_reducible apply i_load); assumption; rfl; (repeat (first | exact Has.head | apply Has.tail)); (first | rfl | (simp [takeV]; done))) | ((with_reducible apply i_build); rfl; (simp [fillL, splice, Value.cells, Act.eval]; rfl)) | ((with_reducible apply i_buildA); rfl; (simp [fillL, splice, Value.cells, Act.eval]; rfl)) | ((with_reducible apply i_bslice); assumption; rfl; rfl; (simp [fillL, splice, zeros, Value.cells, Act.eval]; rfl); clear hS; intro b w hS) | ((with_reducible apply i_storeF); assumption; rfl; rfl; (repeat (first | exact Upd.head | apply Upd.tail)); rfl; clear hS; intro w hS) | ((with_reducible apply i_store); assumption; rfl; rfl; (repeat (first | exact Upd.head | apply Upd.tail)); rfl; clear hS; intro w hS; simp only [splice] at hS; try rw [splice_nil] at hS)); exact ⟨rfl, by first | exact Fr.refl _ _ | assumption⟩
    · rfl
    apply mix_qI 6 rfl (by kernel_rfl) rfl rfl room_wide (by intro c h; cases h)
    · intro w hS; gi_wp2_with (first | ((with_reducible apply i_want); rfl) | ((with_reducible apply i_read); rfl; exact Hb.out _ hS.fr; rfl) | ((with_reducible apply i_alloc); assumption; rfl; clear hS; intro b w hS) | ((with_reducible apply i_box); assumption; rfl; clear hS; intro b w hS) | ((with_reducible apply i_load); assumption; rfl; (repeat (first | exact Has.head | apply Has.tail)); (first | rfl | (simp [takeV]; done))) | ((with_reducible apply i_build); rfl; (simp [fillL, splice, Value.cells, Act.eval]; rfl)) | ((with_reducible apply i_buildA); rfl; (simp [fillL, splice, Value.cells, Act.eval]; rfl)) | ((with_reducible apply i_bslice); assumption; rfl; rfl; (simp [fillL, splice, zeros, Value.cells, Act.eval]; rfl); clear hS; intro b w hS) | ((with_reducible apply i_storeF); assumption; rfl; rfl; (repeat (first | exact Upd.head | apply Upd.tail)); rfl; clear hS; intro w hS) | ((with_reducible apply i_store); assumption; rfl; rfl; (repeat (first | exact Upd.head | apply Upd.tail)); rfl; clear hS; intro w hS; simp only [splice] at hS; try rw [splice_nil] at hS)); exact ⟨rfl, by first | exact Fr.refl _ _ | assumption⟩
    · rfl
    apply mix_qI 7 rfl (by kernel_rfl) rfl rfl room_wide (by intro c h; cases h)
    · intro w hS; gi_wp2_with (first | ((with_reducible apply i_want); rfl) | ((with_reducible apply i_read); rfl; exact Hb.out _ hS.fr; rfl) | ((with_reducible apply i_alloc); assumption; rfl; clear hS; intro b w hS) | ((with_reducible apply i_box); assumption; rfl; clear hS; intro b w hS) | ((with_reducible apply i_load); assumption; rfl; (repeat (first | exact Has.head | apply Has.tail)); (first | rfl | (simp [takeV]; done))) | ((with_reducible apply i_build); rfl; (simp [fillL, splice, Value.cells, Act.eval]; rfl)) | ((with_reducible apply i_buildA); rfl; (simp [fillL, splice, Value.cells, Act.eval]; rfl)) | ((with_reducible apply i_bslice); assumption; rfl; rfl; (simp [fillL, splice, zeros, Value.cells, Act.eval]; rfl); clear hS; intro b w hS) | ((with_reducible apply i_storeF); assumption; rfl; rfl; (repeat (first | exact Upd.head | apply Upd.tail)); rfl; clear hS; intro w hS) | ((with_reducible apply i_store); assumption; rfl; rfl; (repeat (first | exact Upd.head | apply Upd.tail)); rfl; clear hS; intro w hS; simp only [splice] at hS; try rw [splice_nil] at hS)); exact ⟨rfl, by first | exact Fr.refl _ _ | assumption⟩
    · rfl
    apply mix_fI 8 rfl (by kernel_rfl) rfl room_wide (by intro c h; cases h)
    · intro w; gi_wp2_with (first | ((with_reducible apply i_want); rfl) | ((with_reducible apply i_alloc); assumption; rfl; clear hS; intro b w hS) | ((with_reducible apply i_box); assumption; rfl; clear hS; intro b w hS) | ((with_reducible apply i_load); assumption; rfl; (repeat (first | exact Has.head | apply Has.tail)); (first | rfl | (simp [takeV]; done))) | ((with_reducible apply i_build); rfl; (simp [fillL, splice, Value.cells, Act.eval]; rfl)) | ((with_reducible apply i_buildA); rfl; (simp [fillL, splice, Value.cells, Act.eval]; rfl)) | ((with_reducible apply i_bslice); assumption; rfl; rfl; (simp [fillL, splice, zeros, Value.cells, Act.eval]; rfl); clear hS; intro b w hS) | ((with_reducible apply i_storeF); assumption; rfl; rfl; (repeat (first | exact Upd.head | apply Upd.tail)); rfl; clear hS; intro w hS) | ((with_reducible apply i_store); assumption; rfl; rfl; (repeat (first | exact Upd.head | apply Upd.tail)); rfl; clear hS; intro w hS; simp only [splice] at hS; try rw [splice_nil] at hS)); exact ⟨rfl, Fr.refl _ _⟩
    · rfl
    refine mixE (by kernel_rfl) ?_
    intro w hf _; replace hS := hS.keep hf; clear hf
    have hat : ((bs.length - left.length : Nat) : Int) = (bs.length : Int) - (left.length : Int) := by omega
    cases left with
    | nil =>
      have hTA : toldAt bs = (ptsAt 0 bs).1 := by unfold toldAt; rw [← Hleft.out]; simp
      have HTA := Lib.hid hTA
      clear hTA hat
      gi_wp2_with (first | ((with_reducible apply i_want); rfl) | ((with_reducible apply i_read); rfl; exact Hb.out _ hS.fr; rfl) | ((with_reducible apply i_alloc); assumption; rfl; clear hS; intro b w hS) | ((with_reducible apply i_box); assumption; rfl; clear hS; intro b w hS) | ((with_reducible apply i_load); assumption; rfl; (repeat (first | exact Has.head | apply Has.tail)); (first | rfl | (simp [takeV]; done))) | ((with_reducible apply i_build); rfl; (simp [fillL, splice, Value.cells, Act.eval]; rfl)) | ((with_reducible apply i_buildA); rfl; (simp [fillL, splice, Value.cells, Act.eval]; rfl)) | ((with_reducible apply i_bslice); assumption; rfl; rfl; (simp [fillL, splice, zeros, Value.cells, Act.eval]; rfl); clear hS; intro b w hS) | ((with_reducible apply i_storeF); assumption; rfl; rfl; (repeat (first | exact Upd.head | apply Upd.tail)); rfl; clear hS; intro w hS) | ((with_reducible apply i_store); assumption; rfl; rfl; (repeat (first | exact Upd.head | apply Upd.tail)); rfl; clear hS; intro w hS; simp only [splice] at hS; try rw [splice_nil] at hS))
      go_end0
      exact ⟨⟨_, rfl⟩, .inl ⟨c', by rw [HTA.out]; exact HI.out, hS.turnOf (by repeat (first | exact Has.head | apply Has.tail))⟩⟩
    | cons x lr =>
      have hTA : toldAt bs = (ptsAt 0 bs).1 ++ [(bs.length - (x :: lr).length, 65533)] := by unfold toldAt; rw [← Hleft.out]; simp
      obtain ⟨fn, tmps, assign, body, hy, hR⟩ := HY.out (ptsAt 0 bs).1 (bs.length - (x :: lr).length, 65533) c' w (by rw [hTA]; exact List.prefix_refl _) HI.out (hS.get (by repeat (first | exact Has.head | apply Has.tail))) (fun b hb => ((hS.ok c' (by simp)).2 b hb).1)
      have HTA := Lib.hid hTA
      have HR := Lib.hid hR
      have hlt : (bs.length : Int) - ((lr.length : Int) + 1) < (bs.length : Int) := by omega
      have hll' : (lr.length : Int) + 1 ≤ (bs.length : Int) := by simp at hll; omega
      rw [show argsP (bs.length - (x :: lr).length, 65533) = #[.int .i64 ((bs.length : Int) - ((lr.length : Int) + 1)), .int .i64 65533] from by simp only [argsP]; rw [hat]; simp] at hy
      clear hTA hat hR
      gi_wp2_with (first | ((with_reducible apply i_want); rfl) | ((with_reducible apply i_read); rfl; exact Hb.out _ hS.fr; rfl) | ((with_reducible apply i_alloc); assumption; rfl; clear hS; intro b w hS) | ((with_reducible apply i_box); assumption; rfl; clear hS; intro b w hS) | ((with_reducible apply i_load); assumption; rfl; (repeat (first | exact Has.head | apply Has.tail)); (first | rfl | (simp [takeV]; done))) | ((with_reducible apply i_build); rfl; (simp [fillL, splice, Value.cells, Act.eval]; rfl)) | ((with_reducible apply i_buildA); rfl; (simp [fillL, splice, Value.cells, Act.eval]; rfl)) | ((with_reducible apply i_bslice); assumption; rfl; rfl; (simp [fillL, splice, zeros, Value.cells, Act.eval]; rfl); clear hS; intro b w hS) | ((with_reducible apply i_storeF); assumption; rfl; rfl; (repeat (first | exact Upd.head | apply Upd.tail)); rfl; clear hS; intro w hS) | ((with_reducible apply i_store); assumption; rfl; rfl; (repeat (first | exact Upd.head | apply Upd.tail)); rfl; clear hS; intro w hS; simp only [splice] at hS; try rw [splice_nil] at hS))
      refine HR.out.mono ?_
      rw [← HTA.out]
      rintro e w5 (⟨rfl, c2, hI2, ht⟩ | ⟨rfl, c2, hI2, ht⟩)
      · replace hS := hS.turn (c' := c2) (by exact Upd.head.tail.tail) ht
        have HI2 := Lib.hid hI2
        clear hI2 ht HR
        gi_wp2_with (first | ((with_reducible apply i_want); rfl) | ((with_reducible apply i_alloc); assumption; rfl; clear hS; intro b w hS) | ((with_reducible apply i_box); assumption; rfl; clear hS; intro b w hS) | ((with_reducible apply i_load); assumption; rfl; (repeat (first | exact Has.head | apply Has.tail)); (first | rfl | (simp [takeV]; done))) | ((with_reducible apply i_build); rfl; (simp [fillL, splice, Value.cells, Act.eval]; rfl)) | ((with_reducible apply i_buildA); rfl; (simp [fillL, splice, Value.cells, Act.eval]; rfl)) | ((with_reducible apply i_bslice); assumption; rfl; rfl; (simp [fillL, splice, zeros, Value.cells, Act.eval]; rfl); clear hS; intro b w hS) | ((with_reducible apply i_storeF); assumption; rfl; rfl; (repeat (first | exact Upd.head | apply Upd.tail)); rfl; clear hS; intro w hS) | ((with_reducible apply i_store); assumption; rfl; rfl; (repeat (first | exact Upd.head | apply Upd.tail)); rfl; clear hS; intro w hS; simp only [splice] at hS; try rw [splice_nil] at hS))
        go_end0
        exact ⟨⟨_, rfl⟩, .inl ⟨c2, HI2.out, hS.turnOf (by repeat (first | exact Has.head | apply Has.tail))⟩⟩
      · replace hS := hS.turn (c' := c2) (by exact Upd.head.tail.tail) ht
        have HI2 := Lib.hid hI2
        clear hI2 ht HR
        gi_wp2_with (first | ((with_reducible apply i_want); rfl) | ((with_reducible apply i_alloc); assumption; rfl; clear hS; intro b w hS) | ((with_reducible apply i_box); assumption; rfl; clear hS; intro b w hS) | ((with_reducible apply i_load); assumption; rfl; (repeat (first | exact Has.head | apply Has.tail)); (first | rfl | (simp [takeV]; done))) | ((with_reducible apply i_build); rfl; (simp [fillL, splice, Value.cells, Act.eval]; rfl)) | ((with_reducible apply i_buildA); rfl; (simp [fillL, splice, Value.cells, Act.eval]; rfl)) | ((with_reducible apply i_bslice); assumption; rfl; rfl; (simp [fillL, splice, zeros, Value.cells, Act.eval]; rfl); clear hS; intro b w hS) | ((with_reducible apply i_storeF); assumption; rfl; rfl; (repeat (first | exact Upd.head | apply Upd.tail)); rfl; clear hS; intro w hS) | ((with_reducible apply i_store); assumption; rfl; rfl; (repeat (first | exact Upd.head | apply Upd.tail)); rfl; clear hS; intro w hS; simp only [splice] at hS; try rw [splice_nil] at hS))
        go_end0
        exact ⟨⟨_, rfl⟩, .inr ⟨_, c2, List.prefix_refl _, HI2.out, hS.turnOf (by repeat (first | exact Has.head | apply Has.tail))⟩⟩
  · have hS := ((hS3.call1 hT).pick (by exact .tail (.tail .head))).unbundle
    have HI := Lib.hid hI
    have hpre' : pre <+: toldAt bs := hpre.trans ⟨_, rfl⟩
    have Hpre := Lib.hid hpre'
    clear hI hT hS3 hlen2 hpre hpre'
    simp only [List.cons_append, List.nil_append] at hS
    gi_wp2_with (first | ((with_reducible apply i_want); rfl) | ((with_reducible apply i_alloc); assumption; rfl; clear hS; intro b w hS) | ((with_reducible apply i_box); assumption; rfl; clear hS; intro b w hS) | ((with_reducible apply i_load); assumption; rfl; (repeat (first | exact Has.head | apply Has.tail)); (first | rfl | (simp [takeV]; done))) | ((with_reducible apply i_build); rfl; (simp [fillL, splice, Value.cells, Act.eval]; rfl)) | ((with_reducible apply i_buildA); rfl; (simp [fillL, splice, Value.cells, Act.eval]; rfl)) | ((with_reducible apply i_bslice); assumption; rfl; rfl; (simp [fillL, splice, zeros, Value.cells, Act.eval]; rfl); clear hS; intro b w hS) | ((with_reducible apply i_storeF); assumption; rfl; rfl; (repeat (first | exact Upd.head | apply Upd.tail)); rfl; clear hS; intro w hS) | ((with_reducible apply i_store); assumption; rfl; rfl; (repeat (first | exact Upd.head | apply Upd.tail)); rfl; clear hS; intro w hS; simp only [splice] at hS; try rw [splice_nil] at hS))
    refine mix_startI mixed (fun _ => trivial) (by kernel_rfl) _ (Stable.st _ _ _) hS.drew ?_
    replace hS := hS.drew
    apply mix_qI 0 rfl (by kernel_rfl) rfl rfl room_wide (by intro c h; cases h)
    · intro w hS; gi_wp2_with (first | ((with_reducible apply i_want); rfl) | ((with_reducible apply i_read); rfl; exact Hb.out _ hS.fr; rfl) | ((with_reducible apply i_alloc); assumption; rfl; clear hS; intro b w hS) | ((with_reducible apply i_box); assumption; rfl; clear hS; intro b w hS) | ((with_reducible apply i_load); assumption; rfl; (repeat (first | exact Has.head | apply Has.tail)); (first | rfl | (simp [takeV]; done))) | ((with_reducible apply i_build); rfl; (simp [fillL, splice, Value.cells, Act.eval]; rfl)) | ((with_reducible apply i_buildA); rfl; (simp [fillL, splice, Value.cells, Act.eval]; rfl)) | ((with_reducible apply i_bslice); assumption; rfl; rfl; (simp [fillL, splice, zeros, Value.cells, Act.eval]; rfl); clear hS; intro b w hS) | ((with_reducible apply i_storeF); assumption; rfl; rfl; (repeat (first | exact Upd.head | apply Upd.tail)); rfl; clear hS; intro w hS) | ((with_reducible apply i_store); assumption; rfl; rfl; (repeat (first | exact Upd.head | apply Upd.tail)); rfl; clear hS; intro w hS; simp only [splice] at hS; try rw [splice_nil] at hS)); exact ⟨rfl, by first | exact Fr.refl _ _ | assumption⟩
    · rfl
    apply mix_qI 1 rfl (by kernel_rfl) rfl rfl room_wide (by intro c h; cases h)
    · intro w hS; gi_wp2_with (first | ((with_reducible apply i_want); rfl) | ((with_reducible apply i_read); rfl; exact Hb.out _ hS.fr; rfl) | ((with_reducible apply i_alloc); assumption; rfl; clear hS; intro b w hS) | ((with_reducible apply i_box); assumption; rfl; clear hS; intro b w hS) | ((with_reducible apply i_load); assumption; rfl; (repeat (first | exact Has.head | apply Has.tail)); (first | rfl | (simp [takeV]; done))) | ((with_reducible apply i_build); rfl; (simp [fillL, splice, Value.cells, Act.eval]; rfl)) | ((with_reducible apply i_buildA); rfl; (simp [fillL, splice, Value.cells, Act.eval]; rfl)) | ((with_reducible apply i_bslice); assumption; rfl; rfl; (simp [fillL, splice, zeros, Value.cells, Act.eval]; rfl); clear hS; intro b w hS) | ((with_reducible apply i_storeF); assumption; rfl; rfl; (repeat (first | exact Upd.head | apply Upd.tail)); rfl; clear hS; intro w hS) | ((with_reducible apply i_store); assumption; rfl; rfl; (repeat (first | exact Upd.head | apply Upd.tail)); rfl; clear hS; intro w hS; simp only [splice] at hS; try rw [splice_nil] at hS)); exact ⟨rfl, by first | exact Fr.refl _ _ | assumption⟩
    · rfl
    apply mix_fI 2 rfl (by kernel_rfl) rfl room_wide (by intro c h; cases h)
    · intro w; gi_wp2_with (first | ((with_reducible apply i_want); rfl) | ((with_reducible apply i_alloc); assumption; rfl; clear hS; intro b w hS) | ((with_reducible apply i_box); assumption; rfl; clear hS; intro b w hS) | ((with_reducible apply i_load); assumption; rfl; (repeat (first | exact Has.head | apply Has.tail)); (first | rfl | (simp [takeV]; done))) | ((with_reducible apply i_build); rfl; (simp [fillL, splice, Value.cells, Act.eval]; rfl)) | ((with_reducible apply i_buildA); rfl; (simp [fillL, splice, Value.cells, Act.eval]; rfl)) | ((with_reducible apply i_bslice); assumption; rfl; rfl; (simp [fillL, splice, zeros, Value.cells, Act.eval]; rfl); clear hS; intro b w hS) | ((with_reducible apply i_storeF); assumption; rfl; rfl; (repeat (first | exact Upd.head | apply Upd.tail)); rfl; clear hS; intro w hS) | ((with_reducible apply i_store); assumption; rfl; rfl; (repeat (first | exact Upd.head | apply Upd.tail)); rfl; clear hS; intro w hS; simp only [splice] at hS; try rw [splice_nil] at hS)); exact ⟨rfl, Fr.refl _ _⟩
    · rfl
    apply mix_fI 3 rfl (by kernel_rfl) rfl room_wide (by intro c h; cases h)
    · intro w; gi_wp2_with (first | ((with_reducible apply i_want); rfl) | ((with_reducible apply i_alloc); assumption; rfl; clear hS; intro b w hS) | ((with_reducible apply i_box); assumption; rfl; clear hS; intro b w hS) | ((with_reducible apply i_load); assumption; rfl; (repeat (first | exact Has.head | apply Has.tail)); (first | rfl | (simp [takeV]; done))) | ((with_reducible apply i_build); rfl; (simp [fillL, splice, Value.cells, Act.eval]; rfl)) | ((with_reducible apply i_buildA); rfl; (simp [fillL, splice, Value.cells, Act.eval]; rfl)) | ((with_reducible apply i_bslice); assumption; rfl; rfl; (simp [fillL, splice, zeros, Value.cells, Act.eval]; rfl); clear hS; intro b w hS) | ((with_reducible apply i_storeF); assumption; rfl; rfl; (repeat (first | exact Upd.head | apply Upd.tail)); rfl; clear hS; intro w hS) | ((with_reducible apply i_store); assumption; rfl; rfl; (repeat (first | exact Upd.head | apply Upd.tail)); rfl; clear hS; intro w hS; simp only [splice] at hS; try rw [splice_nil] at hS)); exact ⟨rfl, Fr.refl _ _⟩
    · rfl
    apply mix_fI 4 rfl (by kernel_rfl) rfl room_wide (by intro c h; cases h)
    · intro w; gi_wp2_with (first | ((with_reducible apply i_want); rfl) | ((with_reducible apply i_alloc); assumption; rfl; clear hS; intro b w hS) | ((with_reducible apply i_box); assumption; rfl; clear hS; intro b w hS) | ((with_reducible apply i_load); assumption; rfl; (repeat (first | exact Has.head | apply Has.tail)); (first | rfl | (simp [takeV]; done))) | ((with_reducible apply i_build); rfl; (simp [fillL, splice, Value.cells, Act.eval]; rfl)) | ((with_reducible apply i_buildA); rfl; (simp [fillL, splice, Value.cells, Act.eval]; rfl)) | ((with_reducible apply i_bslice); assumption; rfl; rfl; (simp [fillL, splice, zeros, Value.cells, Act.eval]; rfl); clear hS; intro b w hS) | ((with_reducible apply i_storeF); assumption; rfl; rfl; (repeat (first | exact Upd.head | apply Upd.tail)); rfl; clear hS; intro w hS) | ((with_reducible apply i_store); assumption; rfl; rfl; (repeat (first | exact Upd.head | apply Upd.tail)); rfl; clear hS; intro w hS; simp only [splice] at hS; try rw [splice_nil] at hS)); exact ⟨rfl, Fr.refl _ _⟩
    · rfl
    apply mix_qI 5 rfl (by kernel_rfl) rfl rfl room_wide (by intro c h; cases h)
    · intro w hS; gi_wp2_with (first | ((with_reducible apply i_want); rfl) | ((with_reducible apply i_read); rfl; exact Hb.out _ hS.fr; rfl) | ((with_reducible apply i_alloc); assumption; rfl; clear hS; intro b w hS) | ((with_reducible apply i_box); assumption; rfl; clear hS; intro b w hS) | ((with_reducible apply i_load); assumption; rfl; (repeat (first | exact Has.head | apply Has.tail)); (first | rfl | (simp [takeV]; done))) | ((with_reducible apply i_build); rfl; (simp [fillL, splice, Value.cells, Act.eval]; rfl)) | ((with_reducible apply i_buildA); rfl; (simp [fillL, splice, Value.cells, Act.eval]; rfl)) | ((with_reducible apply i_bslice); assumption; rfl; rfl; (simp [fillL, splice, zeros, Value.cells, Act.eval]; rfl); clear hS; intro b w hS) | ((with_reducible apply i_storeF); assumption; rfl; rfl; (repeat (first | exact Upd.head | apply Upd.tail)); rfl; clear hS; intro w hS) | ((with_reducible apply i_store); assumption; rfl; rfl; (repeat (first | exact Upd.head | apply Upd.tail)); rfl; clear hS; intro w hS; simp only [splice] at hS; try rw [splice_nil] at hS)); exact ⟨rfl, by first | exact Fr.refl _ _ | assumption⟩
    · rfl
    apply mix_qI 6 rfl (by kernel_rfl) rfl rfl room_wide (by intro c h; cases h)
    · intro w hS; gi_wp2_with (first | ((with_reducible apply i_want); rfl) | ((with_reducible apply i_read); rfl; exact Hb.out _ hS.fr; rfl) | ((with_reducible apply i_alloc); assumption; rfl; clear hS; intro b w hS) | ((with_reducible apply i_box); assumption; rfl; clear hS; intro b w hS) | ((with_reducible apply i_load); assumption; rfl; (repeat (first | exact Has.head | apply Has.tail)); (first | rfl | (simp [takeV]; done))) | ((with_reducible apply i_build); rfl; (simp [fillL, splice, Value.cells, Act.eval]; rfl)) | ((with_reducible apply i_buildA); rfl; (simp [fillL, splice, Value.cells, Act.eval]; rfl)) | ((with_reducible apply i_bslice); assumption; rfl; rfl; (simp [fillL, splice, zeros, Value.cells, Act.eval]; rfl); clear hS; intro b w hS) | ((with_reducible apply i_storeF); assumption; rfl; rfl; (repeat (first | exact Upd.head | apply Upd.tail)); rfl; clear hS; intro w hS) | ((with_reducible apply i_store); assumption; rfl; rfl; (repeat (first | exact Upd.head | apply Upd.tail)); rfl; clear hS; intro w hS; simp only [splice] at hS; try rw [splice_nil] at hS)); exact ⟨rfl, by first | exact Fr.refl _ _ | assumption⟩
    · rfl
    apply mix_qI 7 rfl (by kernel_rfl) rfl rfl room_wide (by intro c h; cases h)
    · intro w hS; gi_wp2_with (first | ((with_reducible apply i_want); rfl) | ((with_reducible apply i_read); rfl; exact Hb.out _ hS.fr; rfl) | ((with_reducible apply i_alloc); assumption; rfl; clear hS; intro b w hS) | ((with_reducible apply i_box); assumption; rfl; clear hS; intro b w hS) | ((with_reducible apply i_load); assumption; rfl; (repeat (first | exact Has.head | apply Has.tail)); (first | rfl | (simp [takeV]; done))) | ((with_reducible apply i_build); rfl; (simp [fillL, splice, Value.cells, Act.eval]; rfl)) | ((with_reducible apply i_buildA); rfl; (simp [fillL, splice, Value.cells, Act.eval]; rfl)) | ((with_reducible apply i_bslice); assumption; rfl; rfl; (simp [fillL, splice, zeros, Value.cells, Act.eval]; rfl); clear hS; intro b w hS) | ((with_reducible apply i_storeF); assumption; rfl; rfl; (repeat (first | exact Upd.head | apply Upd.tail)); rfl; clear hS; intro w hS) | ((with_reducible apply i_store); assumption; rfl; rfl; (repeat (first | exact Upd.head | apply Upd.tail)); rfl; clear hS; intro w hS; simp only [splice] at hS; try rw [splice_nil] at hS)); exact ⟨rfl, by first | exact Fr.refl _ _ | assumption⟩
    · rfl
    apply mix_fI 8 rfl (by kernel_rfl) rfl room_wide (by intro c h; cases h)
    · intro w; gi_wp2_with (first | ((with_reducible apply i_want); rfl) | ((with_reducible apply i_alloc); assumption; rfl; clear hS; intro b w hS) | ((with_reducible apply i_box); assumption; rfl; clear hS; intro b w hS) | ((with_reducible apply i_load); assumption; rfl; (repeat (first | exact Has.head | apply Has.tail)); (first | rfl | (simp [takeV]; done))) | ((with_reducible apply i_build); rfl; (simp [fillL, splice, Value.cells, Act.eval]; rfl)) | ((with_reducible apply i_buildA); rfl; (simp [fillL, splice, Value.cells, Act.eval]; rfl)) | ((with_reducible apply i_bslice); assumption; rfl; rfl; (simp [fillL, splice, zeros, Value.cells, Act.eval]; rfl); clear hS; intro b w hS) | ((with_reducible apply i_storeF); assumption; rfl; rfl; (repeat (first | exact Upd.head | apply Upd.tail)); rfl; clear hS; intro w hS) | ((with_reducible apply i_store); assumption; rfl; rfl; (repeat (first | exact Upd.head | apply Upd.tail)); rfl; clear hS; intro w hS; simp only [splice] at hS; try rw [splice_nil] at hS)); exact ⟨rfl, Fr.refl _ _⟩
    · rfl
    refine mixE (by kernel_rfl) ?_
    intro w hf _; replace hS := hS.keep hf; clear hf
    gi_wp2_with (first | ((with_reducible apply i_want); rfl) | ((with_reducible apply i_read); rfl; exact Hb.out _ hS.fr; rfl) | ((with_reducible apply i_alloc); assumption; rfl; clear hS; intro b w hS) | ((with_reducible apply i_box); assumption; rfl; clear hS; intro b w hS) | ((with_reducible apply i_load); assumption; rfl; (repeat (first | exact Has.head | apply Has.tail)); (first | rfl | (simp [takeV]; done))) | ((with_reducible apply i_build); rfl; (simp [fillL, splice, Value.cells, Act.eval]; rfl)) | ((with_reducible apply i_buildA); rfl; (simp [fillL, splice, Value.cells, Act.eval]; rfl)) | ((with_reducible apply i_bslice); assumption; rfl; rfl; (simp [fillL, splice, zeros, Value.cells, Act.eval]; rfl); clear hS; intro b w hS) | ((with_reducible apply i_storeF); assumption; rfl; rfl; (repeat (first | exact Upd.head | apply Upd.tail)); rfl; clear hS; intro w hS) | ((with_reducible apply i_store); assumption; rfl; rfl; (repeat (first | exact Upd.head | apply Upd.tail)); rfl; clear hS; intro w hS; simp only [splice] at hS; try rw [splice_nil] at hS))
    go_end0
    exact ⟨⟨_, rfl⟩, .inr ⟨_, c', Hpre.out, HI.out, hS.turnOf (by repeat (first | exact Has.head | apply Has.tail))⟩⟩

theorem every_c (w : World) (A : Option Addr) (n cp : Nat) : Calls Tryz.prog 280 #[.slice A n cp] w fun e w' => ∃ bb, e = .returned (.func (.func 315) #[] #[.pointer (some ⟨bb, 0, none⟩)]) ∧ St [] w w' [row bb 52 [.slice A n cp]] := by
  go_enter Tryz.func280, Tryz.ntmps280
  have hS := St.start [] w
  go_wp2_with (first | ((with_reducible apply l_want); rfl) | ((with_reducible apply l_alloc); assumption; rfl; clear hS; intro b w hS) | ((with_reducible apply l_box); assumption; rfl; clear hS; intro b w hS) | ((with_reducible apply l_load); assumption; rfl; (repeat (first | exact Has.head | apply Has.tail)); (first | rfl | (simp [takeV]; done))) | ((with_reducible apply l_build); rfl; (simp [fillL, splice, Value.cells, Act.eval]; rfl)) | ((with_reducible apply l_buildA); rfl; (simp [fillL, splice, Value.cells, Act.eval]; rfl)) | ((with_reducible apply l_bslice); assumption; rfl; rfl; (simp [fillL, splice, zeros, Value.cells, Act.eval]; rfl); clear hS; intro b w hS) | ((with_reducible apply l_storeF); assumption; rfl; rfl; (repeat (first | exact Upd.head | apply Upd.tail)); rfl; clear hS; intro w hS) | ((with_reducible apply l_store); assumption; rfl; rfl; (repeat (first | exact Upd.head | apply Upd.tail)); rfl; clear hS; intro w hS; simp only [splice] at hS; try rw [splice_nil] at hS))
  go_ret
  exact ⟨_, rfl, hS⟩

theorem of_c (w0 : World) (vb : Value) (bs : List UInt8) (hr : RdS w0 1 vb bs.length (bv bs)) (hb : ∀ k, vb.ownBlock = some k → k < w0.heap.size) (hlen : bs.length ≤ 1099511627776) :
    Calls Tryz.prog 237 #[vb] w0 fun e w' => e = .returned (txt (utf8Of bs)) ∧ Fr [] w0 w' := by
  obtain ⟨A, cp, rfl, hcp⟩ := hr.shape
  have Hr := Lib.hid hr
  have Hb := Lib.hid hb
  clear hr hb
  refine (callsIn_wide (n := 1)).1 ?_
  refine callsIn_of_wp_marks Tryz.func237 rfl trivial ?_
  simp only [Tryz.ntmps237, List.size_toArray, List.length_cons, List.length_nil, Nat.reduceAdd, Nat.reduceSub, Array.replicate_succ, Array.replicate_zero, List.push_toArray, List.append_toArray, List.nil_append, List.cons_append]
  have hS := St.start [] w0
  gi_wp2_with (first | ((with_reducible apply i_want); rfl) | (gi_at_call 280; go_must (refine callsIn_wide.2 ((every_c _ _ _ _).mono ?_)); rintro e w1 ⟨bb, rfl, hT⟩; have hE := hT.get (c := row bb 52 [Value.slice A bs.length cp]) (by exact Has.head); have hf1 := hT.fr; have hbb := (hT.ok _ (List.mem_cons_self)).2 bb (by simp [row, blk]); have hbl := ((hS.ok _ (List.mem_cons_self)).2 _ (by simp [row, blk]; rfl)); replace hS := hS.keep hf1) | ((with_reducible apply i_alloc); assumption; rfl; clear hS; intro b w hS) | ((with_reducible apply i_box); assumption; rfl; clear hS; intro b w hS) | ((with_reducible apply i_load); assumption; rfl; (repeat (first | exact Has.head | apply Has.tail)); (first | rfl | (simp [takeV]; done))) | ((with_reducible apply i_build); rfl; (simp [fillL, splice, Value.cells, Act.eval]; rfl)) | ((with_reducible apply i_buildA); rfl; (simp [fillL, splice, Value.cells, Act.eval]; rfl)) | ((with_reducible apply i_bslice); assumption; rfl; rfl; (simp [fillL, splice, zeros, Value.cells, Act.eval]; rfl); clear hS; intro b w hS) | ((with_reducible apply i_storeF); assumption; rfl; rfl; (repeat (first | exact Upd.head | apply Upd.tail)); rfl; clear hS; intro w hS) | ((with_reducible apply i_store); assumption; rfl; rfl; (repeat (first | exact Upd.head | apply Upd.tail)); rfl; clear hS; intro w hS; simp only [splice] at hS; try rw [splice_nil] at hS))
  have hS2 := St.bundle (L1 := [_, _]) (L2 := []) (hS.addNil (c' := own 3 1 (.slice none 0 0) 0 []) (ownNil _ _ _) rfl)
  have hr1 : RdS w1 1 (.slice A bs.length cp) bs.length (bv bs) := Hr.out.keep hS.fr
  refine i_rangeFunc (P := Tryz.prog) hS2 rfl (enters_of Tryz.func315 (by kernel_rfl) rfl) (every1_s bb _ bs w1 hE hr1 hlen) (T := []) (Fr.refl _ _) (by simp) ?_ ?_ (fun x => rfl)
    (fun pre c => ∃ v, c = bun [own 3 1 v pre.length (iv (pre.map Prod.snd)), row b 295 [v]]) (fun _ _ _ => False) ⟨_, rfl⟩ ?_ ?_ ?_
  · intro k hk hk2
    obtain ⟨d, hd, h1⟩ := (bun_fp k).1 hk
    simp only [List.mem_cons, List.not_mem_nil, or_false] at hd
    rcases hd with rfl | rfl
    · simp [own, Value.ownBlock] at h1
    · have hkb : k = b := by simpa [row, blk] using h1
      subst hkb
      rcases List.mem_cons.1 hk2 with h2 | h2
      · rcases hbb.2 with h3 | h3
        · omega
        · cases h3
      · have := Hb.out k (by simpa using h2)
        rcases hbl.2 with h3 | h3
        · omega
        · cases h3
  · intro k hk
    rcases List.mem_cons.1 hk with rfl | h2
    · exact hbb.1
    · exact Nat.lt_of_lt_of_le (Hb.out k (by simpa using h2)) hS.fr.size
  · rintro l pre ⟨i, x⟩ c W K hpre hI hok hlt hK
    gi_wp2
    refine hK _ _ c (Turn.refl hok hlt) ?_
    obtain ⟨v, rfl⟩ := hI
    intro W2 hok2 hlt2
    have hpl : pre.length + 1 ≤ bs.length + 1 := by
      have h1 := hpre.length_le
      have h2 := toldAt_len bs
      simp at h1
      omega
    have hS := St.open hok2
    obtain ⟨Av, cv, rfl, hcv⟩ := (RdS.of_own (hS.get (by exact Has.head))).shape
    clear hok hlt hK hS2 hT hE hbb hbl hf1 hr1 hpre hok2 hlt2
    gi_wp2_with (first | ((with_reducible apply i_want); rfl) | ((with_reducible apply i_append); assumption; rfl; rfl; (intro v'; (repeat (first | exact Upd.head | apply Upd.tail))); rfl; exact RdS.of_row (hS.get (by exact Has.head)) 1 1 rfl (Nat.le_refl _); simp [Value.oneCell']; omega; omega; clear hS; intro v' w hS hnil; obtain ⟨Aw, cw, rfl, hcw⟩ := (RdS.of_own (hS.get (by exact Has.head.tail))).shape) | ((with_reducible apply i_alloc); assumption; rfl; clear hS; intro b w hS) | ((with_reducible apply i_box); assumption; rfl; clear hS; intro b w hS) | ((with_reducible apply i_load); assumption; rfl; (repeat (first | exact Has.head | apply Has.tail)); (first | rfl | (simp [takeV]; done))) | ((with_reducible apply i_build); rfl; (simp [fillL, splice, Value.cells, Act.eval]; rfl)) | ((with_reducible apply i_buildA); rfl; (simp [fillL, splice, Value.cells, Act.eval]; rfl)) | ((with_reducible apply i_bslice); assumption; rfl; rfl; (simp [fillL, splice, zeros, Value.cells, Act.eval]; rfl); clear hS; intro b w hS) | ((with_reducible apply i_storeF); assumption; rfl; rfl; (repeat (first | exact Upd.head | apply Upd.tail)); rfl; clear hS; intro w hS) | ((with_reducible apply i_store); assumption; rfl; rfl; (repeat (first | exact Upd.head | apply Upd.tail)); rfl; clear hS; intro w hS; simp only [splice] at hS; try rw [splice_nil] at hS))
    have e : iv (pre.map Prod.snd) ++ [.int .i64 (x : Int)] = iv ((pre ++ [(i, x)]).map Prod.snd) := by simp [iv]
    rw [e] at hS
    have e2 : pre.length + 1 = (pre ++ [(i, x)]).length := by simp
    have hS2 := hS.drop
    rw [e2] at hS2
    exact ⟨_, ⟨_, rfl⟩, hS2.toTurn⟩
  · rintro D W' _ ⟨v, rfl⟩ hS
    have hS := (hS.pick (by exact .tail .head)).unbundle
    simp only [List.cons_append, List.nil_append] at hS
    have htl := toldAt_len bs
    obtain ⟨Av, cv, rfl, hcv⟩ := (RdS.of_own (hS.get (by exact Has.head))).shape
    have hval : ∀ p ∈ (toldAt bs).map Prod.snd, validPt p := by
      intro p hp
      obtain ⟨x, hx, rfl⟩ := List.mem_map.1 hp
      exact toldAt_valid bs x hx
    have hjn := fun W (h : RdS W 1 (.slice Av (toldAt bs).length cv) (toldAt bs).length (iv ((toldAt bs).map Prod.snd))) => joined_c W _ ((toldAt bs).map Prod.snd) hval (by simpa using h) (by simp; omega)
    have Hj := Lib.hid hjn
    have Htl := Lib.hid htl
    clear hS2 hT hE hbb hbl hf1 hr1 hval hjn htl
    gi_wp2_with (first | ((with_reducible apply i_want); rfl) | (gi_at_call 256; go_must (refine callsIn_wide.2 ((Hj.out _ (RdS.of_own (hS.get (by exact Has.head)))).mono ?_)); rintro e w5 ⟨rfl, hf5⟩; replace hS := hS.keep hf5) | ((with_reducible apply i_alloc); assumption; rfl; clear hS; intro b w hS) | ((with_reducible apply i_box); assumption; rfl; clear hS; intro b w hS) | ((with_reducible apply i_load); assumption; rfl; (repeat (first | exact Has.head | apply Has.tail)); (first | rfl | (simp [takeV]; done))) | ((with_reducible apply i_build); rfl; (simp [fillL, splice, Value.cells, Act.eval]; rfl)) | ((with_reducible apply i_buildA); rfl; (simp [fillL, splice, Value.cells, Act.eval]; rfl)) | ((with_reducible apply i_bslice); assumption; rfl; rfl; (simp [fillL, splice, zeros, Value.cells, Act.eval]; rfl); clear hS; intro b w hS) | ((with_reducible apply i_storeF); assumption; rfl; rfl; (repeat (first | exact Upd.head | apply Upd.tail)); rfl; clear hS; intro w hS) | ((with_reducible apply i_store); assumption; rfl; rfl; (repeat (first | exact Upd.head | apply Upd.tail)); rfl; clear hS; intro w hS; simp only [splice] at hS; try rw [splice_nil] at hS))
    obtain ⟨W7, ht7, hS7⟩ := (hS.pick (by exact .tail (.tail .head))).take (P := Tryz.prog)
    refine ⟨by simp, .inl ⟨_, _, rfl, ht7, ?_⟩⟩
    exact ⟨_, results_tmp rfl _ _ _, rfl, hS7.fr⟩
  · intro D code pre c' W' _ h _
    exact h.elim

theorem sound_c (w0 : World) (l : List UInt8) (hlen : l.length ≤ 1099511627776) : Calls Tryz.prog 192 #[txt l] w0 fun e w' => e = .returned (.bool (sound l)) ∧ Fr [] w0 w' := by
  go_enter Tryz.func192, Tryz.ntmps192
  have hS := St.start [] w0
  go_wp2_with (first | ((with_reducible apply l_want); rfl) | ((with_reducible apply l_s2b); assumption; rfl; clear hS; intro v w hS) | (go_at_call 237; go_must (refine (of_c _ _ l (hS.get (c := rdS 1 _ l.length (bv l)) (by exact Has.head)) (fun k hk => ((hS.ok _ (List.mem_cons_self)).2 k (by simp [rdS, hk])).1) hlen).mono ?_); rintro e w5 ⟨rfl, hf5⟩; replace hS := hS.keep hf5) | ((with_reducible apply l_alloc); assumption; rfl; clear hS; intro b w hS) | ((with_reducible apply l_box); assumption; rfl; clear hS; intro b w hS) | ((with_reducible apply l_load); assumption; rfl; (repeat (first | exact Has.head | apply Has.tail)); (first | rfl | (simp [takeV]; done))) | ((with_reducible apply l_build); rfl; (simp [fillL, splice, Value.cells, Act.eval]; rfl)) | ((with_reducible apply l_buildA); rfl; (simp [fillL, splice, Value.cells, Act.eval]; rfl)) | ((with_reducible apply l_bslice); assumption; rfl; rfl; (simp [fillL, splice, zeros, Value.cells, Act.eval]; rfl); clear hS; intro b w hS) | ((with_reducible apply l_storeF); assumption; rfl; rfl; (repeat (first | exact Upd.head | apply Upd.tail)); rfl; clear hS; intro w hS) | ((with_reducible apply l_store); assumption; rfl; rfl; (repeat (first | exact Upd.head | apply Upd.tail)); rfl; clear hS; intro w hS; simp only [splice] at hS; try rw [splice_nil] at hS))
  go_ret
  exact ⟨rfl, hS.fr⟩
end Go.Proofs.YtaejmginhkbbhaaGreatDoor
