/- The walks through package utf, second part: the first point of some bytes (F303). Conditions: as each contract says. -/
import Derived.Test.YtaejmginhkbbhaaGreatDoorU
set_option linter.unusedSimpArgs false
set_option linter.unusedVariables false
set_option maxRecDepth 100000
set_option maxHeartbeats 1000000
namespace Go.Proofs.YtaejmginhkbbhaaGreatDoor
open Go Go.RowKit
theorem and_lead (m : Nat) (c : UInt8) (h1 : 2 ≤ m) (h2 : m ≤ 4) : bits BinOp.and IntKind.i64 (wrap64 (c.toNat : Int)) (127 / 2 ^ m) = ((c.toNat % 2 ^ (7 - m) : Nat) : Int) := by
  have : ∀ (m : Fin 5) (c : Fin 256), 2 ≤ m.val → bits BinOp.and IntKind.i64 (wrap64 ((c.val : Nat) : Int)) (127 / 2 ^ m.val) = ((c.val % 2 ^ (7 - m.val) : Nat) : Int) := by decide +kernel
  exact this ⟨m, by omega⟩ ⟨c.toNat, c.toNat_lt⟩ h1

theorem or_shift (q x : Nat) (h : q < 2 ^ 50) (hx : x < 64) : bits BinOp.or IntKind.i64 (wrap64 ((q : Int) * 64)) ((x : Int)) = ((q * 64 + x : Nat) : Int) := by
  have hw : wrap64 ((q : Int) * 64) = (q : Int) * 64 := by unfold wrap64; omega
  rw [hw, bits_join .i64 63 (by decide) (fun n h0 h1 => by rw [IntKind.wrap_i64]; omega) 6 _ _ (by omega) (by omega) (by omega) (by omega) (by omega) (by omega)]
  omega

theorem first_c (w0 : World) (v : Value) (c0 : UInt8) (r : List UInt8) (hv : RdS w0 1 v (r.length + 1) (bv (c0 :: r))) (hlen : r.length + 1 ≤ 140737488355328) :
    Calls Tryz.prog 303 #[v] w0 fun e w' => e = .returned (.tuple #[.int .i64 (firstP (c0 :: r)).1, .int .i64 (firstP (c0 :: r)).2.1, .bool (firstP (c0 :: r)).2.2]) ∧ Fr [] w0 w' := by
  obtain ⟨-, A, c, rfl, hc, hr⟩ := hv
  obtain ⟨bb, o, rfl, hrd⟩ := hr (by simp [bv])
  have h0 : Rd w0 bb o [.int .u8 ((c0.toNat : Nat) : Int)] := hrd.take 1
  cases hl : leadIdx c0.toNat with
  | none =>
    have hf : firstP (c0 :: r) = (65533, 1, true) := by simp [firstP, hl]
    rw [hf]
    have Hl := Lib.hid hl
    clear hl hf
    go_enter Tryz.func303, Tryz.ntmps303
    have hS := St.start [] w0
    go_wp2_with (first | ((with_reducible apply l_want); rfl) | ((with_reducible apply l_alloc); assumption; rfl; clear hS; intro b w hS) | ((with_reducible apply l_box); assumption; rfl; clear hS; intro b w hS) | ((with_reducible apply l_load); assumption; rfl; (repeat (first | exact Has.head | apply Has.tail)); (first | rfl | (simp [takeV]; done))) | ((with_reducible apply l_build); rfl; (simp [fillL, splice, Value.cells, Act.eval]; rfl)) | ((with_reducible apply l_buildA); rfl; (simp [fillL, splice, Value.cells, Act.eval]; rfl)) | ((with_reducible apply l_bslice); assumption; rfl; rfl; (simp [fillL, splice, zeros, Value.cells, Act.eval]; rfl); clear hS; intro b w hS) | ((with_reducible apply l_storeF); assumption; rfl; rfl; (repeat (first | exact Upd.head | apply Upd.tail)); rfl; clear hS; intro w hS) | ((with_reducible apply l_store); assumption; rfl; rfl; (repeat (first | exact Upd.head | apply Upd.tail)); rfl; clear hS; intro w hS; simp only [splice] at hS; try rw [splice_nil] at hS))
    refine (leads_c _).mono ?_
    rintro e w1 ⟨rfl, hf1⟩
    replace hS := hS.keep hf1
    go_wp2_with (first | ((with_reducible apply l_want); rfl) | ((with_reducible apply l_alloc); assumption; rfl; clear hS; intro b w hS) | ((with_reducible apply l_box); assumption; rfl; clear hS; intro b w hS) | ((with_reducible apply l_load); assumption; rfl; (repeat (first | exact Has.head | apply Has.tail)); (first | rfl | (simp [takeV]; done))) | ((with_reducible apply l_build); rfl; (simp [fillL, splice, Value.cells, Act.eval]; rfl)) | ((with_reducible apply l_buildA); rfl; (simp [fillL, splice, Value.cells, Act.eval]; rfl)) | ((with_reducible apply l_bslice); assumption; rfl; rfl; (simp [fillL, splice, zeros, Value.cells, Act.eval]; rfl); clear hS; intro b w hS) | ((with_reducible apply l_storeF); assumption; rfl; rfl; (repeat (first | exact Upd.head | apply Upd.tail)); rfl; clear hS; intro w hS) | ((with_reducible apply l_store); assumption; rfl; rfl; (repeat (first | exact Upd.head | apply Upd.tail)); rfl; clear hS; intro w hS; simp only [splice] at hS; try rw [splice_nil] at hS))
    refine (idx_c _ _ bb o (r.length + 1) c c0.toNat _ ?_ ?_ (by omega) (h0.fr hS.fr (by simp))).mono ?_
    · exact hS.rd0 (by repeat (first | exact Has.head | apply Has.tail))
    · exact hS.rd0 (by repeat (first | exact Has.head | apply Has.tail))
    rw [Hl.out]
    rintro e w2 ⟨rfl, hf2⟩
    replace hS := hS.keep hf2
    simp only [idxV]
    go_wp2_with (first | ((with_reducible apply l_want); rfl) | ((with_reducible apply l_alloc); assumption; rfl; clear hS; intro b w hS) | ((with_reducible apply l_box); assumption; rfl; clear hS; intro b w hS) | ((with_reducible apply l_load); assumption; rfl; (repeat (first | exact Has.head | apply Has.tail)); (first | rfl | (simp [takeV]; done))) | ((with_reducible apply l_build); rfl; (simp [fillL, splice, Value.cells, Act.eval]; rfl)) | ((with_reducible apply l_buildA); rfl; (simp [fillL, splice, Value.cells, Act.eval]; rfl)) | ((with_reducible apply l_bslice); assumption; rfl; rfl; (simp [fillL, splice, zeros, Value.cells, Act.eval]; rfl); clear hS; intro b w hS) | ((with_reducible apply l_storeF); assumption; rfl; rfl; (repeat (first | exact Upd.head | apply Upd.tail)); rfl; clear hS; intro w hS) | ((with_reducible apply l_store); assumption; rfl; rfl; (repeat (first | exact Upd.head | apply Upd.tail)); rfl; clear hS; intro w hS; simp only [splice] at hS; try rw [splice_nil] at hS))
    go_ret3
    exact ⟨rfl, hS.fr⟩
  | some i =>
    have hi : i < 9 := leadIdx_lt hl
    have hm := ld_many i hi
    have hby := ld_bytes i hi
    obtain ⟨pt, hpt⟩ : ∃ pt : Nat, pt = (if 1 < (ld i).2.2.1 then c0.toNat % 2 ^ (7 - (ld i).2.2.1) else c0.toNat) := ⟨_, rfl⟩
    have hpt2 : pt ≤ 255 := by
      have := c0.toNat_lt
      rw [hpt]; split
      · exact Nat.le_trans (Nat.mod_le _ _) (by omega)
      · omega
    have hf : firstP (c0 :: r) = contP ((ld i).2.2.1 - 1) 1 pt (ld i).2.2.2.1 (ld i).2.2.2.2 r := by simp [firstP, hl, hpt]
    generalize firstP (c0 :: r) = R at *
    have HR := Lib.hid hf
    have Hl := Lib.hid hl
    have Hpt := Lib.hid hpt
    clear hl hf hpt
    have h0' : ∀ W, Fr [] w0 W → Rd W bb o [.int .u8 ((c0.toNat : Nat) : Int)] := fun W h => h0.fr h (by simp)
    go_enter Tryz.func303, Tryz.ntmps303
    have hS := St.start [] w0
    go_wp2_with (first | ((with_reducible apply l_want); rfl) | ((with_reducible apply l_alloc); assumption; rfl; clear hS; intro b w hS) | ((with_reducible apply l_box); assumption; rfl; clear hS; intro b w hS) | ((with_reducible apply l_load); assumption; rfl; (repeat (first | exact Has.head | apply Has.tail)); (first | rfl | (simp [takeV]; done))) | ((with_reducible apply l_build); rfl; (simp [fillL, splice, Value.cells, Act.eval]; rfl)) | ((with_reducible apply l_buildA); rfl; (simp [fillL, splice, Value.cells, Act.eval]; rfl)) | ((with_reducible apply l_bslice); assumption; rfl; rfl; (simp [fillL, splice, zeros, Value.cells, Act.eval]; rfl); clear hS; intro b w hS) | ((with_reducible apply l_storeF); assumption; rfl; rfl; (repeat (first | exact Upd.head | apply Upd.tail)); rfl; clear hS; intro w hS) | ((with_reducible apply l_store); assumption; rfl; rfl; (repeat (first | exact Upd.head | apply Upd.tail)); rfl; clear hS; intro w hS; simp only [splice] at hS; try rw [splice_nil] at hS))
    refine (leads_c _).mono ?_
    rintro e w1 ⟨rfl, hf1⟩
    replace hS := hS.keep hf1
    go_wp2_with (first | ((with_reducible apply l_want); rfl) | ((with_reducible apply l_alloc); assumption; rfl; clear hS; intro b w hS) | ((with_reducible apply l_box); assumption; rfl; clear hS; intro b w hS) | ((with_reducible apply l_load); assumption; rfl; (repeat (first | exact Has.head | apply Has.tail)); (first | rfl | (simp [takeV]; done))) | ((with_reducible apply l_build); rfl; (simp [fillL, splice, Value.cells, Act.eval]; rfl)) | ((with_reducible apply l_buildA); rfl; (simp [fillL, splice, Value.cells, Act.eval]; rfl)) | ((with_reducible apply l_bslice); assumption; rfl; rfl; (simp [fillL, splice, zeros, Value.cells, Act.eval]; rfl); clear hS; intro b w hS) | ((with_reducible apply l_storeF); assumption; rfl; rfl; (repeat (first | exact Upd.head | apply Upd.tail)); rfl; clear hS; intro w hS) | ((with_reducible apply l_store); assumption; rfl; rfl; (repeat (first | exact Upd.head | apply Upd.tail)); rfl; clear hS; intro w hS; simp only [splice] at hS; try rw [splice_nil] at hS))
    refine (idx_c _ _ bb o (r.length + 1) c c0.toNat _ ?_ ?_ (by omega) (h0.fr hS.fr (by simp))).mono ?_
    · exact hS.rd0 (by repeat (first | exact Has.head | apply Has.tail))
    · exact hS.rd0 (by repeat (first | exact Has.head | apply Has.tail))
    rw [Hl.out]
    rintro e w2 ⟨rfl, hf2⟩
    replace hS := hS.keep hf2
    simp only [idxV]
    go_wp2_with (first | ((with_reducible apply l_want); rfl) | ((with_reducible apply l_load); assumption; rfl; (repeat (first | exact Has.head | apply Has.tail)); exact ldCs_take i hi) | ((with_reducible apply l_read); rfl; exact h0' _ hS.fr; rfl) | ((with_reducible apply l_alloc); assumption; rfl; clear hS; intro b w hS) | ((with_reducible apply l_box); assumption; rfl; clear hS; intro b w hS) | ((with_reducible apply l_load); assumption; rfl; (repeat (first | exact Has.head | apply Has.tail)); (first | rfl | (simp [takeV]; done))) | ((with_reducible apply l_build); rfl; (simp [fillL, splice, Value.cells, Act.eval]; rfl)) | ((with_reducible apply l_buildA); rfl; (simp [fillL, splice, Value.cells, Act.eval]; rfl)) | ((with_reducible apply l_bslice); assumption; rfl; rfl; (simp [fillL, splice, zeros, Value.cells, Act.eval]; rfl); clear hS; intro b w hS) | ((with_reducible apply l_storeF); assumption; rfl; rfl; (repeat (first | exact Upd.head | apply Upd.tail)); rfl; clear hS; intro w hS) | ((with_reducible apply l_store); assumption; rfl; rfl; (repeat (first | exact Upd.head | apply Upd.tail)); rfl; clear hS; intro w hS; simp only [splice] at hS; try rw [splice_nil] at hS))
    all_goals
      have c2 : w.cell? ⟨b, 2, none⟩ = some (.int .i64 (ld i).2.2.1) := hS.rd0 (by repeat (first | exact Has.head | apply Has.tail)) 2 _ rfl
      have c3 : w.cell? ⟨b, 3, none⟩ = some (.int .u8 (ld i).2.2.2.1) := hS.rd0 (by repeat (first | exact Has.head | apply Has.tail)) 3 _ rfl
      have c4 : w.cell? ⟨b, 4, none⟩ = some (.int .u8 (ld i).2.2.2.2) := hS.rd0 (by repeat (first | exact Has.head | apply Has.tail)) 4 _ rfl
      first
        | (have hgt : 1 < (ld i).2.2.1 := by (have : (1 : Int) < ((ld i).2.2.1 : Int) := by assumption); omega
           rw [and_lead _ c0 (by omega) hm.2, show c0.toNat % 2 ^ (7 - (ld i).2.2.1) = pt from by rw [Hpt.out, if_pos hgt]])
        | (have hgt : ¬ 1 < (ld i).2.2.1 := by (have : ((ld i).2.2.1 : Int) ≤ 1 := by assumption); omega
           rw [show wrap64 (c0.toNat : Int) = ((pt : Nat) : Int) from by rw [Hpt.out, if_neg hgt]; have := c0.toNat_lt; unfold wrap64; omega])
      go_quiet (fail)
      replace hS := hS.drewN nq
      go_wp2
      go_loop [2, 3, 8, 9] (fun p m lo hi => ∃ k q l h : Nat, 1 ≤ k ∧ k ≤ (ld i).2.2.1 ∧ k ≤ r.length + 1 ∧ q < 256 * 64 ^ (k - 1) ∧ p = .int .i64 q ∧ m = .int .i64 k ∧ lo = .int .u8 l ∧ hi = .int .u8 h ∧ l ≤ 255 ∧ h ≤ 255 ∧ Hid (R = contP ((ld i).2.2.1 - k) k q l h (r.drop (k - 1)))) (fun _ m _ _ => 5 - (intOf m).toNat)
      case atStart => exact ⟨1, pt, _, _, Nat.le_refl _, hm.1, by omega, by omega, rfl, rfl, rfl, rfl, hby.2.2.1, hby.2.2.2, HR.out⟩
      case round =>
        obtain ⟨k, q, l, h, hk1, hk2, hk3, hq, rfl, rfl, rfl, rfl, hl255, hh255, HI⟩ := hrel
        have r2 : Rd (w.drewN nq) b 2 [.int .i64 (ld i).2.2.1] := fun j v hj => by cases j with | zero => (simp at hj; subst hj; exact c2) | succ j => simp at hj
        by_cases hkm : k = (ld i).2.2.1
        · have hR : R = (q, k, true) := by rw [HI.out, show (ld i).2.2.1 - k = 0 from by omega]; rfl
          have hge : ¬ ((k : Int) < ((ld i).2.2.1 : Int)) := by omega
          subst hR
          clear HI hkm
          go_wp2_with (first | ((with_reducible apply l_want); rfl) | ((with_reducible apply l_read); rfl; exact r2; rfl) | ((with_reducible apply l_alloc); assumption; rfl; clear hS; intro b w hS) | ((with_reducible apply l_box); assumption; rfl; clear hS; intro b w hS) | ((with_reducible apply l_load); assumption; rfl; (repeat (first | exact Has.head | apply Has.tail)); (first | rfl | (simp [takeV]; done))) | ((with_reducible apply l_build); rfl; (simp [fillL, splice, Value.cells, Act.eval]; rfl)) | ((with_reducible apply l_buildA); rfl; (simp [fillL, splice, Value.cells, Act.eval]; rfl)) | ((with_reducible apply l_bslice); assumption; rfl; rfl; (simp [fillL, splice, zeros, Value.cells, Act.eval]; rfl); clear hS; intro b w hS) | ((with_reducible apply l_storeF); assumption; rfl; rfl; (repeat (first | exact Upd.head | apply Upd.tail)); rfl; clear hS; intro w hS) | ((with_reducible apply l_store); assumption; rfl; rfl; (repeat (first | exact Upd.head | apply Upd.tail)); rfl; clear hS; intro w hS; simp only [splice] at hS; try rw [splice_nil] at hS))
          go_ret3
          exact ⟨rfl, hS.fr⟩
        · have hkl : k < (ld i).2.2.1 := by omega
          have hlt : (k : Int) < ((ld i).2.2.1 : Int) := by omega
          try (exfalso; omega)
          all_goals cases hd : r.drop (k - 1) with
          | nil =>
            have hR : R = (65533, k, false) := by rw [HI.out, hd, show (ld i).2.2.1 - k = ((ld i).2.2.1 - k - 1) + 1 from by omega]; rfl
            have hle : r.length ≤ k - 1 := List.drop_eq_nil_iff.1 hd
            have hke : ((k : Int) == (r.length : Int) + 1) = true := by simp; omega
            subst hR
            clear HI hkm hd
            go_wp2_with (first | ((with_reducible apply l_want); rfl) | ((with_reducible apply l_read); rfl; exact r2; rfl) | ((with_reducible apply l_alloc); assumption; rfl; clear hS; intro b w hS) | ((with_reducible apply l_box); assumption; rfl; clear hS; intro b w hS) | ((with_reducible apply l_load); assumption; rfl; (repeat (first | exact Has.head | apply Has.tail)); (first | rfl | (simp [takeV]; done))) | ((with_reducible apply l_build); rfl; (simp [fillL, splice, Value.cells, Act.eval]; rfl)) | ((with_reducible apply l_buildA); rfl; (simp [fillL, splice, Value.cells, Act.eval]; rfl)) | ((with_reducible apply l_bslice); assumption; rfl; rfl; (simp [fillL, splice, zeros, Value.cells, Act.eval]; rfl); clear hS; intro b w hS) | ((with_reducible apply l_storeF); assumption; rfl; rfl; (repeat (first | exact Upd.head | apply Upd.tail)); rfl; clear hS; intro w hS) | ((with_reducible apply l_store); assumption; rfl; rfl; (repeat (first | exact Upd.head | apply Upd.tail)); rfl; clear hS; intro w hS; simp only [splice] at hS; try rw [splice_nil] at hS))
            go_ret3
            exact ⟨rfl, hS.fr⟩
          | cons x r' =>
            have hlt2 : k - 1 < r.length := by
              have := congrArg List.length hd
              simp at this; omega
            have hke : ((k : Int) == (r.length : Int) + 1) = false := by simp; omega
            have hx : Rd (w.drewN nq) bb (o + k) [.int .u8 ((x.toNat : Nat) : Int)] := by
              have h1 := ((hrd.fr hS.fr (by simp)).drop k).take 1
              have e : (List.drop k (bv (c0 :: r))).take 1 = [.int .u8 ((x.toNat : Nat) : Int)] := by
                unfold bv
                rw [← List.map_drop, show k = (k - 1) + 1 from by omega, List.drop_succ_cons, hd]; rfl
              rwa [e] at h1
            have hstep : contP ((ld i).2.2.1 - k) k q l h (r.drop (k - 1)) = if x.toNat < l ∨ h < x.toNat then (65533, k, true) else contP ((ld i).2.2.1 - (k + 1)) (k + 1) (q * 64 + x.toNat % 64) 128 191 r' := by
              rw [hd, show (ld i).2.2.1 - k = ((ld i).2.2.1 - (k + 1)) + 1 from by omega]; rfl
            have hr' : r.drop (k + 1 - 1) = r' := by
              rw [show k + 1 - 1 = (k - 1) + 1 from by omega, ← List.drop_drop, hd]; rfl
            clear hd
            have hxl := x.toNat_lt
            by_cases hbad : x.toNat < l ∨ h < x.toNat
            · have hR : R = (65533, k, true) := by rw [HI.out, hstep, if_pos hbad]
              clear hstep hr' HI
              subst hR
              by_cases hb1 : x.toNat < l
              · have hb2 : decide ((x.toNat : Int) < (l : Int)) = true := by simpa using hb1
                go_wp2_with (first | ((with_reducible apply l_want); rfl) | ((with_reducible apply l_read); rfl; exact r2; rfl) | ((with_reducible apply l_read); rfl; exact hx; rfl) | ((with_reducible apply l_alloc); assumption; rfl; clear hS; intro b w hS) | ((with_reducible apply l_box); assumption; rfl; clear hS; intro b w hS) | ((with_reducible apply l_load); assumption; rfl; (repeat (first | exact Has.head | apply Has.tail)); (first | rfl | (simp [takeV]; done))) | ((with_reducible apply l_build); rfl; (simp [fillL, splice, Value.cells, Act.eval]; rfl)) | ((with_reducible apply l_buildA); rfl; (simp [fillL, splice, Value.cells, Act.eval]; rfl)) | ((with_reducible apply l_bslice); assumption; rfl; rfl; (simp [fillL, splice, zeros, Value.cells, Act.eval]; rfl); clear hS; intro b w hS) | ((with_reducible apply l_storeF); assumption; rfl; rfl; (repeat (first | exact Upd.head | apply Upd.tail)); rfl; clear hS; intro w hS) | ((with_reducible apply l_store); assumption; rfl; rfl; (repeat (first | exact Upd.head | apply Upd.tail)); rfl; clear hS; intro w hS; simp only [splice] at hS; try rw [splice_nil] at hS))
                go_ret3
                exact ⟨rfl, hS.fr⟩
              · have hb2 : decide ((x.toNat : Int) < (l : Int)) = false := by simpa using hb1
                have hb3 : decide ((h : Int) < (x.toNat : Int)) = true := by simp; omega
                go_wp2_with (first | ((with_reducible apply l_want); rfl) | ((with_reducible apply l_read); rfl; exact r2; rfl) | ((with_reducible apply l_read); rfl; exact hx; rfl) | ((with_reducible apply l_alloc); assumption; rfl; clear hS; intro b w hS) | ((with_reducible apply l_box); assumption; rfl; clear hS; intro b w hS) | ((with_reducible apply l_load); assumption; rfl; (repeat (first | exact Has.head | apply Has.tail)); (first | rfl | (simp [takeV]; done))) | ((with_reducible apply l_build); rfl; (simp [fillL, splice, Value.cells, Act.eval]; rfl)) | ((with_reducible apply l_buildA); rfl; (simp [fillL, splice, Value.cells, Act.eval]; rfl)) | ((with_reducible apply l_bslice); assumption; rfl; rfl; (simp [fillL, splice, zeros, Value.cells, Act.eval]; rfl); clear hS; intro b w hS) | ((with_reducible apply l_storeF); assumption; rfl; rfl; (repeat (first | exact Upd.head | apply Upd.tail)); rfl; clear hS; intro w hS) | ((with_reducible apply l_store); assumption; rfl; rfl; (repeat (first | exact Upd.head | apply Upd.tail)); rfl; clear hS; intro w hS; simp only [splice] at hS; try rw [splice_nil] at hS))
                go_ret3
                exact ⟨rfl, hS.fr⟩
            · have hb2 : decide ((x.toNat : Int) < (l : Int)) = false := by simp; omega
              have hb3 : decide ((h : Int) < (x.toNat : Int)) = false := by simp; omega
              have hR : R = contP ((ld i).2.2.1 - (k + 1)) (k + 1) (q * 64 + x.toNat % 64) 128 191 (r.drop (k + 1 - 1)) := by rw [HI.out, hstep, if_neg hbad, hr']
              have HR2 := Lib.hid hR
              clear hstep hr' HI hR
              go_wp2_with (first | ((with_reducible apply l_want); rfl) | ((with_reducible apply l_read); rfl; exact r2; rfl) | ((with_reducible apply l_read); rfl; exact hx; rfl) | ((with_reducible apply l_alloc); assumption; rfl; clear hS; intro b w hS) | ((with_reducible apply l_box); assumption; rfl; clear hS; intro b w hS) | ((with_reducible apply l_load); assumption; rfl; (repeat (first | exact Has.head | apply Has.tail)); (first | rfl | (simp [takeV]; done))) | ((with_reducible apply l_build); rfl; (simp [fillL, splice, Value.cells, Act.eval]; rfl)) | ((with_reducible apply l_buildA); rfl; (simp [fillL, splice, Value.cells, Act.eval]; rfl)) | ((with_reducible apply l_bslice); assumption; rfl; rfl; (simp [fillL, splice, zeros, Value.cells, Act.eval]; rfl); clear hS; intro b w hS) | ((with_reducible apply l_storeF); assumption; rfl; rfl; (repeat (first | exact Upd.head | apply Upd.tail)); rfl; clear hS; intro w hS) | ((with_reducible apply l_store); assumption; rfl; rfl; (repeat (first | exact Upd.head | apply Upd.tail)); rfl; clear hS; intro w hS; simp only [splice] at hS; try rw [splice_nil] at hS))
              have hp : 64 ^ (k + 1 - 1) = 64 * 64 ^ (k - 1) := by rw [show k + 1 - 1 = (k - 1) + 1 from by omega, Nat.pow_succ]; omega
              have hp2 : 64 ^ (k - 1) ≤ 64 ^ 3 := Nat.pow_le_pow_right (by decide) (by omega)
              refine ⟨⟨k + 1, q * 64 + x.toNat % 64, 128, 191, by omega, by omega, by omega, ?_, ?_, by go_num, rfl, rfl, by omega, by omega, HR2.out⟩, by simp [intOf]; omega⟩
              · rw [hp]; generalize 64 ^ (k - 1) = P at *; omega
              · rw [show ((x.toNat : Int) % 64) = ((x.toNat % 64 : Nat) : Int) from by omega, or_shift q _ (by generalize 64 ^ (k - 1) = P at *; omega) (by omega)]
end Go.Proofs.YtaejmginhkbbhaaGreatDoor
