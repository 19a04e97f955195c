/- The walks through the document's own layer 4, second part: do some point's bytes begin so (F312)? Conditions: as each contract says. The walks through the document's own layer 4, third part: the first point of bytes (F275). Conditions: as each contract says. The walks through the document's own layer 4, fourth part: a point's bytes (F230), all points (F228). Conditions: as each contract says. The walks through the document's own layer 4, fifth part: all points (F228), the text of points (F190), is a text sound (F111)? Conditions: as each contract says. -/
import Derived.Test.YtaejmginhkbbhaaGreatDoorR1
set_option linter.unusedSimpArgs false
set_option linter.unusedVariables false
set_option maxRecDepth 100000
set_option maxHeartbeats 1000000
namespace Go.Proofs.YtaejmginhkbbhaaGreatDoor
open Go Go.RowKit
attribute [local irreducible] Calls
theorem span_c (w0 : World) (b : List UInt8) (A : Option Addr) (cp : Nat) (hb : b ≠ []) (hlen : b.length ≤ 1099511627776) (hr : RdS w0 1 (.slice A b.length cp) b.length (bv b)) :
    Calls Tryz.prog 313 #[.slice A b.length cp] w0 fun e w' => e = .returned (spanV b) ∧ Fr [] w0 w' := by
  cases b with
  | nil => exact absurd rfl hb
  | cons c r =>
    by_cases h1 : c.toNat < 128
    · exact span_1 w0 c r A cp hlen h1 hr
    by_cases h2 : 192 ≤ c.toNat ∧ c.toNat < 224
    · exact span_2 w0 c r A cp hlen h2 hr
    by_cases h3 : 224 ≤ c.toNat ∧ c.toNat < 240
    · exact span_3 w0 c r A cp hlen h3 hr
    by_cases h4 : 240 ≤ c.toNat ∧ c.toNat < 248
    · exact span_4 w0 c r A cp hlen h4 hr
    have hcl : classP c.toNat = none := by unfold classP; rw [if_neg h1, if_neg h2, if_neg h3, if_neg h4]
    have hv : spanV (c :: r) = .tuple #[.int .i64 0, .int .i64 0, .int .i64 0, .bool false] := by
      unfold spanV spanP
      simp only [hcl]
    rw [hv]
    by_cases h5 : c.toNat < 192
    · exact span_na w0 c r A cp (by omega) h5 hr
    · exact span_nb w0 c r A cp (by omega) c.toNat_lt hr
theorem spanP_m {b : List UInt8} {m l t : Nat} (h : spanP b = some (m, l, t)) : 1 ≤ m ∧ m ≤ 4 := by
  unfold spanP at h
  split at h
  · cases h
  · split at h
    · cases h
    · rename_i hcl
      split at h
      · cases h
      · cases h
        unfold classP at hcl
        split at hcl
        · cases hcl; omega
        · split at hcl
          · cases hcl; omega
          · split at hcl
            · cases hcl; omega
            · split at hcl
              · cases hcl; omega
              · cases hcl
def beginsV (b : List UInt8) : Value := .tuple #[.int .i64 ((beginsP b).1 : Int), .bool (beginsP b).2]
theorem begins_w0 (w0 : World) (b : List UInt8) (A : Option Addr) (cp : Nat) (hb : b ≠ []) (hlen : b.length ≤ 1099511627776) (hr : RdS w0 1 (.slice A b.length cp) b.length (bv b)) (hsp : spanP b = none) :
    Calls Tryz.prog 312 #[.slice A b.length cp] w0 fun e w' => e = .returned (beginsV b) ∧ Fr [] w0 w' := by
  have hv : beginsV b = .tuple #[.int .i64 0, .bool false] := by unfold beginsV beginsP; rw [hsp]; rfl
  rw [hv]
  have hsc := fun W (hf : Fr [] w0 W) => span_c W b A cp hb hlen (hr.keep hf)
  have e : spanV b = .tuple #[.int .i64 0, .int .i64 0, .int .i64 0, .bool false] := by unfold spanV; rw [hsp]
  rw [e] at hsc
  have Hsc := Lib.hid hsc
  clear hsc hsp hv e hr
  go_enter Tryz.func312, Tryz.ntmps312
  have hS := St.start [] w0
  go_wp2_with (first | ((with_reducible apply l_want); rfl) | (go_at_call 313; go_must (refine (Hsc.out _ hS.fr).mono ?_); rintro en w1 ⟨rfl, hf1⟩; replace hS := hS.keep hf1) | ((with_reducible apply l_alloc); assumption; rfl; clear hS; intro b w hS) | ((with_reducible apply l_box); assumption; rfl; clear hS; intro b w hS) | ((with_reducible apply l_load); assumption; rfl; (repeat (first | exact Has.head | apply Has.tail)); (first | rfl | (simp [takeV]; done))) | ((with_reducible apply l_build); rfl; (simp [fillL, splice, Value.cells, Act.eval]; rfl)) | ((with_reducible apply l_buildA); rfl; (simp [fillL, splice, Value.cells, Act.eval]; rfl)) | ((with_reducible apply l_bslice); assumption; rfl; rfl; (first | (simp [fillL, splice, zeros, Value.cells, Act.eval]; rfl) | rfl); clear hS; intro b w hS) | ((with_reducible apply l_storeF); assumption; rfl; rfl; (repeat (first | exact Upd.head | apply Upd.tail)); rfl; clear hS; intro w hS) | ((with_reducible apply l_store); assumption; rfl; rfl; (repeat (first | exact Upd.head | apply Upd.tail)); rfl; clear hS; intro w hS; simp only [splice] at hS; try rw [splice_nil] at hS))
  go_ret2
  exact ⟨rfl, hS.fr⟩
theorem begins_long (w0 : World) (b : List UInt8) (A : Option Addr) (cp : Nat) (hb : b ≠ []) (hlen : b.length ≤ 1099511627776) (hr : RdS w0 1 (.slice A b.length cp) b.length (bv b)) (m l t : Nat) (hsp : spanP b = some (m, l, t)) (hm : m < b.length) :
    Calls Tryz.prog 312 #[.slice A b.length cp] w0 fun e w' => e = .returned (beginsV b) ∧ Fr [] w0 w' := by
  have hv : beginsV b = .tuple #[.int .i64 0, .bool false] := by unfold beginsV beginsP; rw [hsp]; simp only [if_pos hm]; rfl
  rw [hv]
  have hsc := fun W (hf : Fr [] w0 W) => span_c W b A cp hb hlen (hr.keep hf)
  have e : spanV b = .tuple #[.int .i64 (m : Int), .int .i64 (l : Int), .int .i64 (t : Int), .bool true] := by unfold spanV; rw [hsp]
  rw [e] at hsc
  have Hsc := Lib.hid hsc
  clear hsc hsp hv e hr
  go_enter Tryz.func312, Tryz.ntmps312
  have hS := St.start [] w0
  go_wp2_with (first | ((with_reducible apply l_want); rfl) | (go_at_call 313; go_must (refine (Hsc.out _ hS.fr).mono ?_); rintro en w1 ⟨rfl, hf1⟩; replace hS := hS.keep hf1) | ((with_reducible apply l_alloc); assumption; rfl; clear hS; intro b w hS) | ((with_reducible apply l_box); assumption; rfl; clear hS; intro b w hS) | ((with_reducible apply l_load); assumption; rfl; (repeat (first | exact Has.head | apply Has.tail)); (first | rfl | (simp [takeV]; done))) | ((with_reducible apply l_build); rfl; (simp [fillL, splice, Value.cells, Act.eval]; rfl)) | ((with_reducible apply l_buildA); rfl; (simp [fillL, splice, Value.cells, Act.eval]; rfl)) | ((with_reducible apply l_bslice); assumption; rfl; rfl; (first | (simp [fillL, splice, zeros, Value.cells, Act.eval]; rfl) | rfl); clear hS; intro b w hS) | ((with_reducible apply l_storeF); assumption; rfl; rfl; (repeat (first | exact Upd.head | apply Upd.tail)); rfl; clear hS; intro w hS) | ((with_reducible apply l_store); assumption; rfl; rfl; (repeat (first | exact Upd.head | apply Upd.tail)); rfl; clear hS; intro w hS; simp only [splice] at hS; try rw [splice_nil] at hS))
  go_ret2
  exact ⟨rfl, hS.fr⟩
theorem begins_m1 (w0 : World) (b : List UInt8) (A : Option Addr) (cp : Nat) (hb : b ≠ []) (hlen : b.length ≤ 1099511627776) (hr : RdS w0 1 (.slice A b.length cp) b.length (bv b)) (l t : Nat) (hsp : spanP b = some (1, l, t)) (hm : ¬ 1 < b.length)  :
    Calls Tryz.prog 312 #[.slice A b.length cp] w0 fun e w' => e = .returned (beginsV b) ∧ Fr [] w0 w' := by
  obtain ⟨R, hR⟩ : ∃ R, R = beginsV b := ⟨_, rfl⟩
  rw [← hR]
  have hsc := fun W (hf : Fr [] w0 W) => span_c W b A cp hb hlen (hr.keep hf)
  have e : spanV b = .tuple #[.int .i64 (1 : Int), .int .i64 (l : Int), .int .i64 (t : Int), .bool true] := by unfold spanV; rw [hsp]; rfl
  rw [e] at hsc
  have Hsc := Lib.hid hsc
  unfold beginsV beginsP fitsP at hR
  rw [hsp] at hR
  simp only [if_neg hm] at hR
  rw [show leastOf 1 = 0 from rfl] at hR
  have hR2 : R = .tuple #[.int .i64 1, .bool (decide (max l 0 ≤ min t 1114111))] := by rw [hR, if_neg (by rintro ⟨h, -⟩; revert h; decide), if_neg (by rintro ⟨h, -⟩; revert h; decide)]; rfl
  have HR := Lib.hid hR2
  clear hsc hsp e hr hR hR2
  obtain ⟨a, ha⟩ : ∃ a, a = max l 0 := ⟨_, rfl⟩
  obtain ⟨u, hu⟩ : ∃ u, u = min t 1114111 := ⟨_, rfl⟩
  have hmx : max (l : Int) 0 = (a : Int) := by omega
  have hmn : min (t : Int) 1114111 = (u : Int) := by omega
  have hdl : decide ((1 : Int) < (b.length : Int)) = false := by simp; omega
  rw [← ha, ← hu] at HR
  clear ha hu hm
  go_enter Tryz.func312, Tryz.ntmps312
  have hS := St.start [] w0
  go_wp2_with (first | ((with_reducible apply l_want); rfl) | (go_at_call 313; go_must (refine (Hsc.out _ hS.fr).mono ?_); rintro en w1 ⟨rfl, hf1⟩; replace hS := hS.keep hf1) | ((with_reducible apply l_alloc); assumption; rfl; clear hS; intro b w hS) | ((with_reducible apply l_box); assumption; rfl; clear hS; intro b w hS) | ((with_reducible apply l_load); assumption; rfl; (repeat (first | exact Has.head | apply Has.tail)); (first | rfl | (simp [takeV]; done))) | ((with_reducible apply l_build); rfl; (simp [fillL, splice, Value.cells, Act.eval]; rfl)) | ((with_reducible apply l_buildA); rfl; (simp [fillL, splice, Value.cells, Act.eval]; rfl)) | ((with_reducible apply l_bslice); assumption; rfl; rfl; (first | (simp [fillL, splice, zeros, Value.cells, Act.eval]; rfl) | rfl); clear hS; intro b w hS) | ((with_reducible apply l_storeF); assumption; rfl; rfl; (repeat (first | exact Upd.head | apply Upd.tail)); rfl; clear hS; intro w hS) | ((with_reducible apply l_store); assumption; rfl; rfl; (repeat (first | exact Upd.head | apply Upd.tail)); rfl; clear hS; intro w hS; simp only [splice] at hS; try rw [splice_nil] at hS))
  go_ret2
  refine ⟨?_, hS.fr⟩
  rw [HR.out]
  simp
theorem begins_m2 (w0 : World) (b : List UInt8) (A : Option Addr) (cp : Nat) (hb : b ≠ []) (hlen : b.length ≤ 1099511627776) (hr : RdS w0 1 (.slice A b.length cp) b.length (bv b)) (l t : Nat) (hsp : spanP b = some (2, l, t)) (hm : ¬ 2 < b.length)  :
    Calls Tryz.prog 312 #[.slice A b.length cp] w0 fun e w' => e = .returned (beginsV b) ∧ Fr [] w0 w' := by
  obtain ⟨R, hR⟩ : ∃ R, R = beginsV b := ⟨_, rfl⟩
  rw [← hR]
  have hsc := fun W (hf : Fr [] w0 W) => span_c W b A cp hb hlen (hr.keep hf)
  have e : spanV b = .tuple #[.int .i64 (2 : Int), .int .i64 (l : Int), .int .i64 (t : Int), .bool true] := by unfold spanV; rw [hsp]; rfl
  rw [e] at hsc
  have Hsc := Lib.hid hsc
  unfold beginsV beginsP fitsP at hR
  rw [hsp] at hR
  simp only [if_neg hm] at hR
  rw [show leastOf 2 = 128 from rfl] at hR
  have hR2 : R = .tuple #[.int .i64 2, .bool (decide (max l 128 ≤ min t 1114111))] := by rw [hR, if_neg (by rintro ⟨h, -⟩; revert h; decide), if_neg (by rintro ⟨h, -⟩; revert h; decide)]; rfl
  have HR := Lib.hid hR2
  clear hsc hsp e hr hR hR2
  obtain ⟨a, ha⟩ : ∃ a, a = max l 128 := ⟨_, rfl⟩
  obtain ⟨u, hu⟩ : ∃ u, u = min t 1114111 := ⟨_, rfl⟩
  have hmx : max (l : Int) 128 = (a : Int) := by omega
  have hmn : min (t : Int) 1114111 = (u : Int) := by omega
  have hdl : decide ((2 : Int) < (b.length : Int)) = false := by simp; omega
  rw [← ha, ← hu] at HR
  clear ha hu hm
  go_enter Tryz.func312, Tryz.ntmps312
  have hS := St.start [] w0
  go_wp2_with (first | ((with_reducible apply l_want); rfl) | (go_at_call 313; go_must (refine (Hsc.out _ hS.fr).mono ?_); rintro en w1 ⟨rfl, hf1⟩; replace hS := hS.keep hf1) | ((with_reducible apply l_alloc); assumption; rfl; clear hS; intro b w hS) | ((with_reducible apply l_box); assumption; rfl; clear hS; intro b w hS) | ((with_reducible apply l_load); assumption; rfl; (repeat (first | exact Has.head | apply Has.tail)); (first | rfl | (simp [takeV]; done))) | ((with_reducible apply l_build); rfl; (simp [fillL, splice, Value.cells, Act.eval]; rfl)) | ((with_reducible apply l_buildA); rfl; (simp [fillL, splice, Value.cells, Act.eval]; rfl)) | ((with_reducible apply l_bslice); assumption; rfl; rfl; (first | (simp [fillL, splice, zeros, Value.cells, Act.eval]; rfl) | rfl); clear hS; intro b w hS) | ((with_reducible apply l_storeF); assumption; rfl; rfl; (repeat (first | exact Upd.head | apply Upd.tail)); rfl; clear hS; intro w hS) | ((with_reducible apply l_store); assumption; rfl; rfl; (repeat (first | exact Upd.head | apply Upd.tail)); rfl; clear hS; intro w hS; simp only [splice] at hS; try rw [splice_nil] at hS))
  go_ret2
  refine ⟨?_, hS.fr⟩
  rw [HR.out]
  simp
theorem begins_m3p (w0 : World) (b : List UInt8) (A : Option Addr) (cp : Nat) (hb : b ≠ []) (hlen : b.length ≤ 1099511627776) (hr : RdS w0 1 (.slice A b.length cp) b.length (bv b)) (l t : Nat) (hsp : spanP b = some (3, l, t)) (hm : ¬ 3 < b.length) (h5 : 55296 ≤ max l 2048) (h6 : min t 1114111 ≤ 57343) :
    Calls Tryz.prog 312 #[.slice A b.length cp] w0 fun e w' => e = .returned (beginsV b) ∧ Fr [] w0 w' := by
  obtain ⟨R, hR⟩ : ∃ R, R = beginsV b := ⟨_, rfl⟩
  rw [← hR]
  have hsc := fun W (hf : Fr [] w0 W) => span_c W b A cp hb hlen (hr.keep hf)
  have e : spanV b = .tuple #[.int .i64 (3 : Int), .int .i64 (l : Int), .int .i64 (t : Int), .bool true] := by unfold spanV; rw [hsp]; rfl
  rw [e] at hsc
  have Hsc := Lib.hid hsc
  unfold beginsV beginsP fitsP at hR
  rw [hsp] at hR
  simp only [if_neg hm] at hR
  rw [show leastOf 3 = 2048 from rfl] at hR
  have hR2 : R = .tuple #[.int .i64 0, .bool false] := by rw [hR, if_pos (by first | exact ⟨rfl, h5, h6⟩ | exact ⟨trivial, h5, h6⟩ | exact ⟨h5, h6⟩), if_pos (by first | exact ⟨rfl, h5, h6⟩ | exact ⟨trivial, h5, h6⟩ | exact ⟨h5, h6⟩)]; rfl
  have HR := Lib.hid hR2
  clear hsc hsp e hr hR hR2
  obtain ⟨a, ha⟩ : ∃ a, a = max l 2048 := ⟨_, rfl⟩
  obtain ⟨u, hu⟩ : ∃ u, u = min t 1114111 := ⟨_, rfl⟩
  have hmx : max (l : Int) 2048 = (a : Int) := by omega
  have hmn : min (t : Int) 1114111 = (u : Int) := by omega
  have hdl : decide ((3 : Int) < (b.length : Int)) = false := by simp; omega
  rw [← ha] at h5
  rw [← hu] at h6
  clear ha hu hm
  go_enter Tryz.func312, Tryz.ntmps312
  have hS := St.start [] w0
  go_wp2_with (first | ((with_reducible apply l_want); rfl) | (go_at_call 313; go_must (refine (Hsc.out _ hS.fr).mono ?_); rintro en w1 ⟨rfl, hf1⟩; replace hS := hS.keep hf1) | ((with_reducible apply l_alloc); assumption; rfl; clear hS; intro b w hS) | ((with_reducible apply l_box); assumption; rfl; clear hS; intro b w hS) | ((with_reducible apply l_load); assumption; rfl; (repeat (first | exact Has.head | apply Has.tail)); (first | rfl | (simp [takeV]; done))) | ((with_reducible apply l_build); rfl; (simp [fillL, splice, Value.cells, Act.eval]; rfl)) | ((with_reducible apply l_buildA); rfl; (simp [fillL, splice, Value.cells, Act.eval]; rfl)) | ((with_reducible apply l_bslice); assumption; rfl; rfl; (first | (simp [fillL, splice, zeros, Value.cells, Act.eval]; rfl) | rfl); clear hS; intro b w hS) | ((with_reducible apply l_storeF); assumption; rfl; rfl; (repeat (first | exact Upd.head | apply Upd.tail)); rfl; clear hS; intro w hS) | ((with_reducible apply l_store); assumption; rfl; rfl; (repeat (first | exact Upd.head | apply Upd.tail)); rfl; clear hS; intro w hS; simp only [splice] at hS; try rw [splice_nil] at hS))
  go_ret2
  refine ⟨?_, hS.fr⟩
  rw [HR.out]
  simp
theorem begins_m3q (w0 : World) (b : List UInt8) (A : Option Addr) (cp : Nat) (hb : b ≠ []) (hlen : b.length ≤ 1099511627776) (hr : RdS w0 1 (.slice A b.length cp) b.length (bv b)) (l t : Nat) (hsp : spanP b = some (3, l, t)) (hm : ¬ 3 < b.length) (h5 : ¬ 55296 ≤ max l 2048) :
    Calls Tryz.prog 312 #[.slice A b.length cp] w0 fun e w' => e = .returned (beginsV b) ∧ Fr [] w0 w' := by
  obtain ⟨R, hR⟩ : ∃ R, R = beginsV b := ⟨_, rfl⟩
  rw [← hR]
  have hsc := fun W (hf : Fr [] w0 W) => span_c W b A cp hb hlen (hr.keep hf)
  have e : spanV b = .tuple #[.int .i64 (3 : Int), .int .i64 (l : Int), .int .i64 (t : Int), .bool true] := by unfold spanV; rw [hsp]; rfl
  rw [e] at hsc
  have Hsc := Lib.hid hsc
  unfold beginsV beginsP fitsP at hR
  rw [hsp] at hR
  simp only [if_neg hm] at hR
  rw [show leastOf 3 = 2048 from rfl] at hR
  have hR2 : R = .tuple #[.int .i64 3, .bool (decide (max l 2048 ≤ min t 1114111))] := by rw [hR, if_neg (by first | exact fun h => h5 h.2.1 | exact fun h => h5 h.1), if_neg (by first | exact fun h => h5 h.2.1 | exact fun h => h5 h.1)]; rfl
  have HR := Lib.hid hR2
  clear hsc hsp e hr hR hR2
  obtain ⟨a, ha⟩ : ∃ a, a = max l 2048 := ⟨_, rfl⟩
  obtain ⟨u, hu⟩ : ∃ u, u = min t 1114111 := ⟨_, rfl⟩
  have hmx : max (l : Int) 2048 = (a : Int) := by omega
  have hmn : min (t : Int) 1114111 = (u : Int) := by omega
  have hdl : decide ((3 : Int) < (b.length : Int)) = false := by simp; omega
  rw [← ha, ← hu] at HR
  rw [← ha] at h5
  clear ha hu hm
  go_enter Tryz.func312, Tryz.ntmps312
  have hS := St.start [] w0
  go_wp2_with (first | ((with_reducible apply l_want); rfl) | (go_at_call 313; go_must (refine (Hsc.out _ hS.fr).mono ?_); rintro en w1 ⟨rfl, hf1⟩; replace hS := hS.keep hf1) | ((with_reducible apply l_alloc); assumption; rfl; clear hS; intro b w hS) | ((with_reducible apply l_box); assumption; rfl; clear hS; intro b w hS) | ((with_reducible apply l_load); assumption; rfl; (repeat (first | exact Has.head | apply Has.tail)); (first | rfl | (simp [takeV]; done))) | ((with_reducible apply l_build); rfl; (simp [fillL, splice, Value.cells, Act.eval]; rfl)) | ((with_reducible apply l_buildA); rfl; (simp [fillL, splice, Value.cells, Act.eval]; rfl)) | ((with_reducible apply l_bslice); assumption; rfl; rfl; (first | (simp [fillL, splice, zeros, Value.cells, Act.eval]; rfl) | rfl); clear hS; intro b w hS) | ((with_reducible apply l_storeF); assumption; rfl; rfl; (repeat (first | exact Upd.head | apply Upd.tail)); rfl; clear hS; intro w hS) | ((with_reducible apply l_store); assumption; rfl; rfl; (repeat (first | exact Upd.head | apply Upd.tail)); rfl; clear hS; intro w hS; simp only [splice] at hS; try rw [splice_nil] at hS))
  go_ret2
  refine ⟨?_, hS.fr⟩
  rw [HR.out]
  simp
theorem begins_m3r (w0 : World) (b : List UInt8) (A : Option Addr) (cp : Nat) (hb : b ≠ []) (hlen : b.length ≤ 1099511627776) (hr : RdS w0 1 (.slice A b.length cp) b.length (bv b)) (l t : Nat) (hsp : spanP b = some (3, l, t)) (hm : ¬ 3 < b.length) (h5 : 55296 ≤ max l 2048) (h6 : ¬ min t 1114111 ≤ 57343) :
    Calls Tryz.prog 312 #[.slice A b.length cp] w0 fun e w' => e = .returned (beginsV b) ∧ Fr [] w0 w' := by
  obtain ⟨R, hR⟩ : ∃ R, R = beginsV b := ⟨_, rfl⟩
  rw [← hR]
  have hsc := fun W (hf : Fr [] w0 W) => span_c W b A cp hb hlen (hr.keep hf)
  have e : spanV b = .tuple #[.int .i64 (3 : Int), .int .i64 (l : Int), .int .i64 (t : Int), .bool true] := by unfold spanV; rw [hsp]; rfl
  rw [e] at hsc
  have Hsc := Lib.hid hsc
  unfold beginsV beginsP fitsP at hR
  rw [hsp] at hR
  simp only [if_neg hm] at hR
  rw [show leastOf 3 = 2048 from rfl] at hR
  have hR2 : R = .tuple #[.int .i64 3, .bool (decide (max l 2048 ≤ min t 1114111))] := by rw [hR, if_neg (by first | exact fun h => h6 h.2.2 | exact fun h => h6 h.2), if_neg (by first | exact fun h => h6 h.2.2 | exact fun h => h6 h.2)]; rfl
  have HR := Lib.hid hR2
  clear hsc hsp e hr hR hR2
  obtain ⟨a, ha⟩ : ∃ a, a = max l 2048 := ⟨_, rfl⟩
  obtain ⟨u, hu⟩ : ∃ u, u = min t 1114111 := ⟨_, rfl⟩
  have hmx : max (l : Int) 2048 = (a : Int) := by omega
  have hmn : min (t : Int) 1114111 = (u : Int) := by omega
  have hdl : decide ((3 : Int) < (b.length : Int)) = false := by simp; omega
  rw [← ha, ← hu] at HR
  rw [← ha] at h5
  rw [← hu] at h6
  clear ha hu hm
  go_enter Tryz.func312, Tryz.ntmps312
  have hS := St.start [] w0
  go_wp2_with (first | ((with_reducible apply l_want); rfl) | (go_at_call 313; go_must (refine (Hsc.out _ hS.fr).mono ?_); rintro en w1 ⟨rfl, hf1⟩; replace hS := hS.keep hf1) | ((with_reducible apply l_alloc); assumption; rfl; clear hS; intro b w hS) | ((with_reducible apply l_box); assumption; rfl; clear hS; intro b w hS) | ((with_reducible apply l_load); assumption; rfl; (repeat (first | exact Has.head | apply Has.tail)); (first | rfl | (simp [takeV]; done))) | ((with_reducible apply l_build); rfl; (simp [fillL, splice, Value.cells, Act.eval]; rfl)) | ((with_reducible apply l_buildA); rfl; (simp [fillL, splice, Value.cells, Act.eval]; rfl)) | ((with_reducible apply l_bslice); assumption; rfl; rfl; (first | (simp [fillL, splice, zeros, Value.cells, Act.eval]; rfl) | rfl); clear hS; intro b w hS) | ((with_reducible apply l_storeF); assumption; rfl; rfl; (repeat (first | exact Upd.head | apply Upd.tail)); rfl; clear hS; intro w hS) | ((with_reducible apply l_store); assumption; rfl; rfl; (repeat (first | exact Upd.head | apply Upd.tail)); rfl; clear hS; intro w hS; simp only [splice] at hS; try rw [splice_nil] at hS))
  go_ret2
  refine ⟨?_, hS.fr⟩
  rw [HR.out]
  simp
theorem begins_m4 (w0 : World) (b : List UInt8) (A : Option Addr) (cp : Nat) (hb : b ≠ []) (hlen : b.length ≤ 1099511627776) (hr : RdS w0 1 (.slice A b.length cp) b.length (bv b)) (l t : Nat) (hsp : spanP b = some (4, l, t)) (hm : ¬ 4 < b.length)  :
    Calls Tryz.prog 312 #[.slice A b.length cp] w0 fun e w' => e = .returned (beginsV b) ∧ Fr [] w0 w' := by
  obtain ⟨R, hR⟩ : ∃ R, R = beginsV b := ⟨_, rfl⟩
  rw [← hR]
  have hsc := fun W (hf : Fr [] w0 W) => span_c W b A cp hb hlen (hr.keep hf)
  have e : spanV b = .tuple #[.int .i64 (4 : Int), .int .i64 (l : Int), .int .i64 (t : Int), .bool true] := by unfold spanV; rw [hsp]; rfl
  rw [e] at hsc
  have Hsc := Lib.hid hsc
  unfold beginsV beginsP fitsP at hR
  rw [hsp] at hR
  simp only [if_neg hm] at hR
  rw [show leastOf 4 = 65536 from rfl] at hR
  have hR2 : R = .tuple #[.int .i64 4, .bool (decide (max l 65536 ≤ min t 1114111))] := by rw [hR, if_neg (by rintro ⟨h, -⟩; revert h; decide), if_neg (by rintro ⟨h, -⟩; revert h; decide)]; rfl
  have HR := Lib.hid hR2
  clear hsc hsp e hr hR hR2
  obtain ⟨a, ha⟩ : ∃ a, a = max l 65536 := ⟨_, rfl⟩
  obtain ⟨u, hu⟩ : ∃ u, u = min t 1114111 := ⟨_, rfl⟩
  have hmx : max (l : Int) 65536 = (a : Int) := by omega
  have hmn : min (t : Int) 1114111 = (u : Int) := by omega
  have hdl : decide ((4 : Int) < (b.length : Int)) = false := by simp; omega
  rw [← ha, ← hu] at HR
  clear ha hu hm
  go_enter Tryz.func312, Tryz.ntmps312
  have hS := St.start [] w0
  go_wp2_with (first | ((with_reducible apply l_want); rfl) | (go_at_call 313; go_must (refine (Hsc.out _ hS.fr).mono ?_); rintro en w1 ⟨rfl, hf1⟩; replace hS := hS.keep hf1) | ((with_reducible apply l_alloc); assumption; rfl; clear hS; intro b w hS) | ((with_reducible apply l_box); assumption; rfl; clear hS; intro b w hS) | ((with_reducible apply l_load); assumption; rfl; (repeat (first | exact Has.head | apply Has.tail)); (first | rfl | (simp [takeV]; done))) | ((with_reducible apply l_build); rfl; (simp [fillL, splice, Value.cells, Act.eval]; rfl)) | ((with_reducible apply l_buildA); rfl; (simp [fillL, splice, Value.cells, Act.eval]; rfl)) | ((with_reducible apply l_bslice); assumption; rfl; rfl; (first | (simp [fillL, splice, zeros, Value.cells, Act.eval]; rfl) | rfl); clear hS; intro b w hS) | ((with_reducible apply l_storeF); assumption; rfl; rfl; (repeat (first | exact Upd.head | apply Upd.tail)); rfl; clear hS; intro w hS) | ((with_reducible apply l_store); assumption; rfl; rfl; (repeat (first | exact Upd.head | apply Upd.tail)); rfl; clear hS; intro w hS; simp only [splice] at hS; try rw [splice_nil] at hS))
  go_ret2
  refine ⟨?_, hS.fr⟩
  rw [HR.out]
  simp
/-- Do some point's bytes begin so? -/
theorem begins_c (w0 : World) (b : List UInt8) (A : Option Addr) (cp : Nat) (hb : b ≠ []) (hlen : b.length ≤ 1099511627776) (hr : RdS w0 1 (.slice A b.length cp) b.length (bv b)) :
    Calls Tryz.prog 312 #[.slice A b.length cp] w0 fun e w' => e = .returned (beginsV b) ∧ Fr [] w0 w' := by
  cases hsp : spanP b with
  | none => exact begins_w0 w0 b A cp hb hlen hr hsp
  | some x =>
    obtain ⟨m, l, t⟩ := x
    have hm := spanP_m hsp
    by_cases hl : m < b.length
    · exact begins_long w0 b A cp hb hlen hr m l t hsp hl
    have h4 : m = 1 ∨ m = 2 ∨ m = 3 ∨ m = 4 := by omega
    rcases h4 with rfl | rfl | rfl | rfl
    · exact begins_m1 w0 b A cp hb hlen hr l t hsp hl
    · exact begins_m2 w0 b A cp hb hlen hr l t hsp hl
    · by_cases h5 : 55296 ≤ max l 2048
      · by_cases h6 : min t 1114111 ≤ 57343
        · exact begins_m3p w0 b A cp hb hlen hr l t hsp hl h5 h6
        · exact begins_m3r w0 b A cp hb hlen hr l t hsp hl h5 h6
      · exact begins_m3q w0 b A cp hb hlen hr l t hsp hl h5
    · exact begins_m4 w0 b A cp hb hlen hr l t hsp hl
theorem rd_take {W : World} {A : Option Addr} {n cp k : Nat} {xs : List Value} (h : RdS W 1 (.slice A n cp) n xs) (hk : k ≤ n) : RdS W 1 (.slice A k cp) k (xs.take k) := by
  obtain ⟨h1, A', c', he, hc, hr⟩ := h
  obtain ⟨rfl, -, rfl⟩ : A = A' ∧ n = n ∧ cp = c' := by simpa using he
  refine ⟨by rw [List.length_take, h1]; omega, A, cp, rfl, by omega, fun hne => ?_⟩
  obtain ⟨b, o, rfl, hrd⟩ := hr (by rintro rfl; simp at hne)
  exact ⟨b, o, rfl, hrd.take k⟩
theorem begins_k (w0 : World) (b : List UInt8) (A : Option Addr) (cp k : Nat) (hk : 1 ≤ k) (hkb : k ≤ b.length) (hlen : b.length ≤ 1099511627776) (hr : RdS w0 1 (.slice A b.length cp) b.length (bv b)) :
    Calls Tryz.prog 312 #[.slice A k cp] w0 fun e w' => e = .returned (beginsV (b.take k)) ∧ Fr [] w0 w' := by
  have e : (b.take k).length = k := by rw [List.length_take]; omega
  have hr2 := rd_take hr hkb
  rw [bv_take] at hr2
  have h := begins_c w0 (b.take k) A cp (by intro h0; rw [h0] at e; simp at e; omega) (by omega) (by rw [e]; exact hr2)
  rwa [e] at h
theorem span_k (w0 : World) (b : List UInt8) (A : Option Addr) (cp k : Nat) (hk : 1 ≤ k) (hkb : k ≤ b.length) (hlen : b.length ≤ 1099511627776) (hr : RdS w0 1 (.slice A b.length cp) b.length (bv b)) :
    Calls Tryz.prog 313 #[.slice A k cp] w0 fun e w' => e = .returned (spanV (b.take k)) ∧ Fr [] w0 w' := by
  have e : (b.take k).length = k := by rw [List.length_take]; omega
  have hr2 := rd_take hr hkb
  rw [bv_take] at hr2
  have h := span_c w0 (b.take k) A cp (by intro h0; rw [h0] at e; simp at e; omega) (by omega) (by rw [e]; exact hr2)
  rwa [e] at h
theorem begins_span {b : List UInt8} (h : (beginsP b).2 = true) : ∃ m t, spanP b = some (m, leastP b, t) := by
  unfold beginsP at h
  unfold leastP
  cases hsp : spanP b with
  | none => rw [hsp] at h; cases h
  | some x => exact ⟨_, _, rfl⟩
theorem slice_k (A : Option Addr) (len cp k : Nat) (hk : k ≤ cp) (hA : cp = 0 ∨ ∃ b o, A = some ⟨b, o, none⟩) (W : World) : (Instr.sliceAt 52 (.slice A len cp) none (some (.int .i64 (k : Int))) none).run Tryz.prog W = .ok (.slice A k cp) W := by
  have hu : Tryz.prog.underlying 52 = some (.slice 5) := El.el
  have he : Tryz.prog.elem 52 = 5 := by kernel_rfl
  rw [run_sliceAt_slice _ _ _ _ _ _ (by rw [he]; exact hu), run_slice_h _ _ _ _ _ (by rw [he]; exact hu) .i64 (k : Int) (by omega) (by omega), he, run_sizeOf (agg := false) (k := 1)]
  simp [sliced, Result.andThen]
  rcases hA with rfl | ⟨b, o, rfl⟩
  · simp
  · simp [addr_add]
def firstV (b : List UInt8) : Value := .tuple #[.int .i64 ((firstP b).1 : Int), .int .i64 ((firstP b).2.1 : Int), .bool (firstP b).2.2]
theorem first_u (w0 : World) (b : List UInt8) (A : Option Addr) (cp : Nat) (hb : b ≠ []) (hlen : b.length ≤ 1099511627776) (hr : RdS w0 1 (.slice A b.length cp) b.length (bv b)) :
    Calls Tryz.prog 275 #[.slice A b.length cp] w0 fun e w' => e = .returned (firstV b) ∧ Fr [] w0 w' := by
  obtain ⟨R, hR⟩ : ∃ R, R = refFirst b := ⟨_, rfl⟩
  have hv : firstV b = .tuple #[.int .i64 (R.1 : Int), .int .i64 (R.2.1 : Int), .bool R.2.2] := by rw [hR, refFirst_eq b hb]; rfl
  rw [hv]
  unfold refFirst at hR
  have HR := Lib.hid hR
  have Hr := Lib.hid hr
  have hA : cp = 0 ∨ ∃ bb o, A = some ⟨bb, o, none⟩ := by
    obtain ⟨_, bb, o, rfl, _⟩ := hr.at 0 (List.length_pos_iff.2 hb) (by decide)
    exact .inr ⟨bb, o, rfl⟩
  have hcp : b.length ≤ cp := by
    obtain ⟨_, c', he, hc⟩ := hr.shape
    obtain ⟨-, rfl⟩ : A = _ ∧ cp = c' := by simpa using he
    exact hc
  clear hR hv hr
  go_enter Tryz.func275, Tryz.ntmps275
  have hS := St.start [] w0
  go_wp2_with (first | ((with_reducible apply l_want); rfl) | ((with_reducible apply l_alloc); assumption; rfl; clear hS; intro b w hS) | ((with_reducible apply l_box); assumption; rfl; clear hS; intro b w hS) | ((with_reducible apply l_load); assumption; rfl; (repeat (first | exact Has.head | apply Has.tail)); (first | rfl | (simp [takeV]; done))) | ((with_reducible apply l_build); rfl; (simp [fillL, splice, Value.cells, Act.eval]; rfl)) | ((with_reducible apply l_buildA); rfl; (simp [fillL, splice, Value.cells, Act.eval]; rfl)) | ((with_reducible apply l_bslice); assumption; rfl; rfl; (first | (simp [fillL, splice, zeros, Value.cells, Act.eval]; rfl) | rfl); clear hS; intro b w hS) | ((with_reducible apply l_storeF); assumption; rfl; rfl; (repeat (first | exact Upd.head | apply Upd.tail)); rfl; clear hS; intro w hS) | ((with_reducible apply l_store); assumption; rfl; rfl; (repeat (first | exact Upd.head | apply Upd.tail)); rfl; clear hS; intro w hS; simp only [splice] at hS; try rw [splice_nil] at hS))
  go_loopg [5] 4 (fun g t5 wr => ∃ n : Nat, n + g = 4 ∧ t5 = .int .i64 (n : Int) ∧ Hid (R = refLoop g n b) ∧ St [] w0 wr [])
  case atStart => exact ⟨0, by omega, rfl, HR, hS⟩
  case round =>
    obtain ⟨n, hng, rfl, HT, hS⟩ := hrel
    by_cases hn : n < b.length ∧ n < 4
    · have h1 : decide ((n : Int) < (b.length : Int)) = true := by simp; omega
      have h2 : decide ((n : Int) < 4) = true := by simp; omega
      have hsl : ∀ W, (Instr.sliceAt 52 (.slice A b.length cp) none (some (.int .i64 ((n : Int) + 1))) none).run Tryz.prog W = .ok (.slice A (n + 1) cp) W := fun W => slice_k A b.length cp (n + 1) (by omega) hA W
      have hbg := fun W (hf : Fr [] w0 W) => begins_k W b A cp (n + 1) (by omega) (by omega) hlen (Hr.out.keep hf)
      have hsp := fun W (hf : Fr [] w0 W) => span_k W b A cp (n + 1) (by omega) (by omega) hlen (Hr.out.keep hf)
      obtain ⟨k, rfl⟩ : ∃ k, gk = k + 1 := ⟨gk - 1, by omega⟩
      obtain ⟨q, hq⟩ : ∃ q, q = beginsP (b.take (n + 1)) := ⟨_, rfl⟩
      obtain ⟨m, is⟩ := q
      have hbv : beginsV (b.take (n + 1)) = .tuple #[.int .i64 (m : Int), .bool is] := by unfold beginsV; rw [← hq]
      rw [hbv] at hbg
      have Hbg := Lib.hid hbg
      cases is with
      | false =>
        have HN : Hid (R = refStop n b) := Lib.hid (HT.out.trans (loop_no hn.1 (by rw [← hq])))
        clear hbg hsp hbv hq HT
        cases hz : ((n : Int) == 0) with
        | true =>
          obtain ⟨mx, hmx⟩ : ∃ mx, mx = max 1 n := ⟨_, rfl⟩
          have hmx2 : max (1 : Int) (n : Int) = (mx : Int) := by omega
          have HN2 : Hid (R = (65533, mx, true)) := Lib.hid (by rw [HN.out, hmx]; simp [refStop, hn.1])
          clear HN hmx
          go_wp2_with (first | ((with_reducible apply l_want); rfl) | (go_at_call 312; go_must (refine (Hbg.out _ hS.fr).mono ?_); rintro en w1 ⟨rfl, hf1⟩; replace hS := hS.keep hf1) | ((with_reducible apply l_alloc); assumption; rfl; clear hS; intro b w hS) | ((with_reducible apply l_box); assumption; rfl; clear hS; intro b w hS) | ((with_reducible apply l_load); assumption; rfl; (repeat (first | exact Has.head | apply Has.tail)); (first | rfl | (simp [takeV]; done))) | ((with_reducible apply l_build); rfl; (simp [fillL, splice, Value.cells, Act.eval]; rfl)) | ((with_reducible apply l_buildA); rfl; (simp [fillL, splice, Value.cells, Act.eval]; rfl)) | ((with_reducible apply l_bslice); assumption; rfl; rfl; (first | (simp [fillL, splice, zeros, Value.cells, Act.eval]; rfl) | rfl); clear hS; intro b w hS) | ((with_reducible apply l_storeF); assumption; rfl; rfl; (repeat (first | exact Upd.head | apply Upd.tail)); rfl; clear hS; intro w hS) | ((with_reducible apply l_store); assumption; rfl; rfl; (repeat (first | exact Upd.head | apply Upd.tail)); rfl; clear hS; intro w hS; simp only [splice] at hS; try rw [splice_nil] at hS))
          go_ret3
          refine ⟨?_, hS.fr⟩
          rw [HN2.out]
          rfl
        | false =>
          obtain ⟨mx, hmx⟩ : ∃ mx, mx = max 1 n := ⟨_, rfl⟩
          have hmx2 : max (1 : Int) (n : Int) = (mx : Int) := by omega
          have HN2 : Hid (R = (65533, mx, true)) := Lib.hid (by rw [HN.out, hmx]; simp [refStop, hn.1])
          clear HN hmx
          go_wp2_with (first | ((with_reducible apply l_want); rfl) | (go_at_call 312; go_must (refine (Hbg.out _ hS.fr).mono ?_); rintro en w1 ⟨rfl, hf1⟩; replace hS := hS.keep hf1) | ((with_reducible apply l_alloc); assumption; rfl; clear hS; intro b w hS) | ((with_reducible apply l_box); assumption; rfl; clear hS; intro b w hS) | ((with_reducible apply l_load); assumption; rfl; (repeat (first | exact Has.head | apply Has.tail)); (first | rfl | (simp [takeV]; done))) | ((with_reducible apply l_build); rfl; (simp [fillL, splice, Value.cells, Act.eval]; rfl)) | ((with_reducible apply l_buildA); rfl; (simp [fillL, splice, Value.cells, Act.eval]; rfl)) | ((with_reducible apply l_bslice); assumption; rfl; rfl; (first | (simp [fillL, splice, zeros, Value.cells, Act.eval]; rfl) | rfl); clear hS; intro b w hS) | ((with_reducible apply l_storeF); assumption; rfl; rfl; (repeat (first | exact Upd.head | apply Upd.tail)); rfl; clear hS; intro w hS) | ((with_reducible apply l_store); assumption; rfl; rfl; (repeat (first | exact Upd.head | apply Upd.tail)); rfl; clear hS; intro w hS; simp only [splice] at hS; try rw [splice_nil] at hS))
          go_ret3
          refine ⟨?_, hS.fr⟩
          rw [HN2.out]
          rfl
      | true =>
        obtain ⟨m2, t2, hs2⟩ := begins_span (b := b.take (n + 1)) (by rw [← hq])
        have hsv : spanV (b.take (n + 1)) = .tuple #[.int .i64 (m2 : Int), .int .i64 (leastP (b.take (n + 1)) : Int), .int .i64 (t2 : Int), .bool true] := by unfold spanV; rw [hs2]
        rw [hsv] at hsp
        obtain ⟨lp, hlp⟩ : ∃ lp, lp = leastP (b.take (n + 1)) := ⟨_, rfl⟩
        rw [← hlp] at hsp
        have Hsp := Lib.hid hsp
        by_cases hnm : n + 1 = m
        · have HN : Hid (R = (lp, n + 1, true)) := Lib.hid (by rw [HT.out, hlp]; exact loop_hit hn.1 hq.symm hnm)
          clear hbg hsp hbv hq HT hlp hs2 hsv
          subst hnm
          go_wp2_with (first | ((with_reducible apply l_want); rfl) | (go_at_call 312; go_must (refine (Hbg.out _ hS.fr).mono ?_); rintro en w1 ⟨rfl, hf1⟩; replace hS := hS.keep hf1) | (go_at_call 313; go_must (refine (Hsp.out _ hS.fr).mono ?_); rintro en w1 ⟨rfl, hf1⟩; replace hS := hS.keep hf1) | ((with_reducible apply l_alloc); assumption; rfl; clear hS; intro b w hS) | ((with_reducible apply l_box); assumption; rfl; clear hS; intro b w hS) | ((with_reducible apply l_load); assumption; rfl; (repeat (first | exact Has.head | apply Has.tail)); (first | rfl | (simp [takeV]; done))) | ((with_reducible apply l_build); rfl; (simp [fillL, splice, Value.cells, Act.eval]; rfl)) | ((with_reducible apply l_buildA); rfl; (simp [fillL, splice, Value.cells, Act.eval]; rfl)) | ((with_reducible apply l_bslice); assumption; rfl; rfl; (first | (simp [fillL, splice, zeros, Value.cells, Act.eval]; rfl) | rfl); clear hS; intro b w hS) | ((with_reducible apply l_storeF); assumption; rfl; rfl; (repeat (first | exact Upd.head | apply Upd.tail)); rfl; clear hS; intro w hS) | ((with_reducible apply l_store); assumption; rfl; rfl; (repeat (first | exact Upd.head | apply Upd.tail)); rfl; clear hS; intro w hS; simp only [splice] at hS; try rw [splice_nil] at hS))
          go_ret3
          refine ⟨?_, hS.fr⟩
          rw [HN.out]
          rfl
        · have HN : Hid (R = refLoop k (n + 1) b) := Lib.hid (HT.out.trans (loop_on hn.1 hq.symm hnm))
          have hnm2 : ((n : Int) + 1 == (m : Int)) = false := by simp; omega
          clear hbg hsp hbv hq HT hlp hs2 hsv
          go_wp2_with (first | ((with_reducible apply l_want); rfl) | (go_at_call 312; go_must (refine (Hbg.out _ hS.fr).mono ?_); rintro en w1 ⟨rfl, hf1⟩; replace hS := hS.keep hf1) | (go_at_call 313; go_must (refine (Hsp.out _ hS.fr).mono ?_); rintro en w1 ⟨rfl, hf1⟩; replace hS := hS.keep hf1) | ((with_reducible apply l_alloc); assumption; rfl; clear hS; intro b w hS) | ((with_reducible apply l_box); assumption; rfl; clear hS; intro b w hS) | ((with_reducible apply l_load); assumption; rfl; (repeat (first | exact Has.head | apply Has.tail)); (first | rfl | (simp [takeV]; done))) | ((with_reducible apply l_build); rfl; (simp [fillL, splice, Value.cells, Act.eval]; rfl)) | ((with_reducible apply l_buildA); rfl; (simp [fillL, splice, Value.cells, Act.eval]; rfl)) | ((with_reducible apply l_bslice); assumption; rfl; rfl; (first | (simp [fillL, splice, zeros, Value.cells, Act.eval]; rfl) | rfl); clear hS; intro b w hS) | ((with_reducible apply l_storeF); assumption; rfl; rfl; (repeat (first | exact Upd.head | apply Upd.tail)); rfl; clear hS; intro w hS) | ((with_reducible apply l_store); assumption; rfl; rfl; (repeat (first | exact Upd.head | apply Upd.tail)); rfl; clear hS; intro w hS; simp only [splice] at hS; try rw [splice_nil] at hS))
          go_roundg k
          case measure => omega
          case rel => exact ⟨n + 1, by omega, by go_num, HN, hS⟩
    · have hne : ¬ n = 0 := by
        rintro rfl
        have := List.length_pos_iff.2 hb
        omega
      have hz : ((n : Int) == 0) = false := by simp; omega
      obtain ⟨mx, hmx⟩ : ∃ mx, mx = max 1 n := ⟨_, rfl⟩
      have hmx2 : max (1 : Int) (n : Int) = (mx : Int) := by omega
      by_cases hl : n < b.length
      · have h4 : n = 4 := by omega
        have hg : gk = 0 := by omega
        subst hg
        have HN : Hid (R = (65533, mx, true)) := Lib.hid (by rw [HT.out, hmx]; simp [refLoop, refStop, hl])
        have h1 : decide ((n : Int) < (b.length : Int)) = true := by simp; omega
        have h2 : decide ((n : Int) < 4) = false := by simp; omega
        clear HT hmx h4 hng hn
        go_wp2_with (first | ((with_reducible apply l_want); rfl) | ((with_reducible apply l_alloc); assumption; rfl; clear hS; intro b w hS) | ((with_reducible apply l_box); assumption; rfl; clear hS; intro b w hS) | ((with_reducible apply l_load); assumption; rfl; (repeat (first | exact Has.head | apply Has.tail)); (first | rfl | (simp [takeV]; done))) | ((with_reducible apply l_build); rfl; (simp [fillL, splice, Value.cells, Act.eval]; rfl)) | ((with_reducible apply l_buildA); rfl; (simp [fillL, splice, Value.cells, Act.eval]; rfl)) | ((with_reducible apply l_bslice); assumption; rfl; rfl; (first | (simp [fillL, splice, zeros, Value.cells, Act.eval]; rfl) | rfl); clear hS; intro b w hS) | ((with_reducible apply l_storeF); assumption; rfl; rfl; (repeat (first | exact Upd.head | apply Upd.tail)); rfl; clear hS; intro w hS) | ((with_reducible apply l_store); assumption; rfl; rfl; (repeat (first | exact Upd.head | apply Upd.tail)); rfl; clear hS; intro w hS; simp only [splice] at hS; try rw [splice_nil] at hS))
        go_ret3
        refine ⟨?_, hS.fr⟩
        rw [HN.out]
        rfl
      · have HN : Hid (R = (65533, mx, false)) := Lib.hid (by rw [HT.out, hmx, loop_end hl]; simp [refStop, hl, hne])
        have h1 : decide ((n : Int) < (b.length : Int)) = false := by simp; omega
        clear HT hmx
        go_wp2_with (first | ((with_reducible apply l_want); rfl) | ((with_reducible apply l_alloc); assumption; rfl; clear hS; intro b w hS) | ((with_reducible apply l_box); assumption; rfl; clear hS; intro b w hS) | ((with_reducible apply l_load); assumption; rfl; (repeat (first | exact Has.head | apply Has.tail)); (first | rfl | (simp [takeV]; done))) | ((with_reducible apply l_build); rfl; (simp [fillL, splice, Value.cells, Act.eval]; rfl)) | ((with_reducible apply l_buildA); rfl; (simp [fillL, splice, Value.cells, Act.eval]; rfl)) | ((with_reducible apply l_bslice); assumption; rfl; rfl; (first | (simp [fillL, splice, zeros, Value.cells, Act.eval]; rfl) | rfl); clear hS; intro b w hS) | ((with_reducible apply l_storeF); assumption; rfl; rfl; (repeat (first | exact Upd.head | apply Upd.tail)); rfl; clear hS; intro w hS) | ((with_reducible apply l_store); assumption; rfl; rfl; (repeat (first | exact Upd.head | apply Upd.tail)); rfl; clear hS; intro w hS; simp only [splice] at hS; try rw [splice_nil] at hS))
        go_ret3
        refine ⟨?_, hS.fr⟩
        rw [HN.out]
        rfl
theorem tdiv_nat (n k : Nat) : Int.tdiv (n : Int) (k : Int) = ((n / k : Nat) : Int) := by
  rw [Int.tdiv_eq_ediv_of_nonneg (by omega)]
  rfl
theorem bv_u8 (a : Nat) (h : a < 256) : ((UInt8.ofNat a).toNat : Int) = (a : Int) := by rw [u8_ofNat h]
theorem ptb_1 (w0 : World) (p : Nat) (hp : p ≤ 1114111) (h1 : p < 128) : Calls Tryz.prog 230 #[.int .i64 (p : Int)] w0 fun e w' => ∃ v, e = .returned v ∧ St [] w0 w' [rdS 1 v (ptBytes p).length (bv (ptBytes p))] := by
  have hb : bv (ptBytes p) = [.int .u8 ((p : Int))] := by
    unfold ptBytes
    rw [if_pos h1]
    simp only [bv, List.map_cons, List.map_nil]
    rw [bv_u8 (p) (by omega)]
    try simp
  have hl : (ptBytes p).length = 1 := by
    have := congrArg List.length hb
    rw [bv_length] at this
    exact this
  rw [hb, hl]
  have hbd : p < 256 := by omega
  have hc128 : decide ((p : Int) < 128) = true := by simp; omega
  clear hp h1
  clear hb hl
  go_enter Tryz.func230, Tryz.ntmps230
  have hS := St.start [] w0
  go_wp2_with (first | ((with_reducible apply l_want); rfl) | ((with_reducible apply l_alloc); assumption; rfl; clear hS; intro b w hS) | ((with_reducible apply l_box); assumption; rfl; clear hS; intro b w hS) | ((with_reducible apply l_load); assumption; rfl; (repeat (first | exact Has.head | apply Has.tail)); (first | rfl | (simp [takeV]; done))) | ((with_reducible apply l_build); rfl; (simp [fillL, splice, Value.cells, Act.eval]; rfl)) | ((with_reducible apply l_buildA); rfl; (simp [fillL, splice, Value.cells, Act.eval]; rfl)) | ((with_reducible apply l_bslice); assumption; rfl; rfl; (first | (simp [fillL, splice, zeros, Value.cells, Act.eval]; rfl) | rfl); clear hS; intro b w hS) | ((with_reducible apply l_storeF); assumption; rfl; rfl; (repeat (first | exact Upd.head | apply Upd.tail)); rfl; clear hS; intro w hS) | ((with_reducible apply l_store); assumption; rfl; rfl; (repeat (first | exact Upd.head | apply Upd.tail)); rfl; clear hS; intro w hS; simp only [splice] at hS; try rw [splice_nil] at hS))
  go_ret
  have h := RdS.of_row (size := 1) (hS.get (by exact Has.head)) 1 1 rfl (Nat.le_refl _)
  exact ⟨_, rfl, hS.recast (c := row b 5 [.int .u8 ((p : Int))]) (c' := rdS 1 (.slice (some ⟨b, 0, none⟩) 1 1) 1 [.int .u8 ((p : Int))]) (by exact Upd.head) h rfl⟩
theorem ptb_2 (w0 : World) (p : Nat) (hp : p ≤ 1114111) (h0 : ¬ p < 128) (h1 : p < 2048) : Calls Tryz.prog 230 #[.int .i64 (p : Int)] w0 fun e w' => ∃ v, e = .returned v ∧ St [] w0 w' [rdS 1 v (ptBytes p).length (bv (ptBytes p))] := by
  obtain ⟨q, hq⟩ : ∃ x, x = p / 64 := ⟨_, rfl⟩
  obtain ⟨m, hm⟩ : ∃ x, x = p % 64 := ⟨_, rfl⟩
  have hb : bv (ptBytes p) = [.int .u8 (192 + (q : Int)), .int .u8 (128 + (m : Int))] := by
    unfold ptBytes
    rw [if_neg h0, if_pos h1]
    simp only [bv, List.map_cons, List.map_nil]
    simp only [← hq, ← hm]
    rw [bv_u8 (192 + q) (by omega)]
    rw [bv_u8 (128 + m) (by omega)]
    try simp
  have hl : (ptBytes p).length = 2 := by
    have := congrArg List.length hb
    rw [bv_length] at this
    exact this
  rw [hb, hl]
  have hdq : Int.tdiv (p : Int) 64 = (q : Int) := by rw [hq]; exact tdiv_nat p 64
  have hrm : Int.tmod (p : Int) 64 = (m : Int) := by rw [hm]; exact tmod_nat p 64
  have hbd : 192 + q < 256 ∧ 128 + m < 256 := by omega
  have hc128 : decide ((p : Int) < 128) = false := by simp; omega
  have hc2048 : decide ((p : Int) < 2048) = true := by simp; omega
  clear hp h0 h1
  clear hb hl hq hm
  go_enter Tryz.func230, Tryz.ntmps230
  have hS := St.start [] w0
  go_wp2_with (first | ((with_reducible apply l_want); rfl) | ((with_reducible apply l_alloc); assumption; rfl; clear hS; intro b w hS) | ((with_reducible apply l_box); assumption; rfl; clear hS; intro b w hS) | ((with_reducible apply l_load); assumption; rfl; (repeat (first | exact Has.head | apply Has.tail)); (first | rfl | (simp [takeV]; done))) | ((with_reducible apply l_build); rfl; (simp [fillL, splice, Value.cells, Act.eval]; rfl)) | ((with_reducible apply l_buildA); rfl; (simp [fillL, splice, Value.cells, Act.eval]; rfl)) | ((with_reducible apply l_bslice); assumption; rfl; rfl; (first | (simp [fillL, splice, zeros, Value.cells, Act.eval]; rfl) | rfl); clear hS; intro b w hS) | ((with_reducible apply l_storeF); assumption; rfl; rfl; (repeat (first | exact Upd.head | apply Upd.tail)); rfl; clear hS; intro w hS) | ((with_reducible apply l_store); assumption; rfl; rfl; (repeat (first | exact Upd.head | apply Upd.tail)); rfl; clear hS; intro w hS; simp only [splice] at hS; try rw [splice_nil] at hS))
  go_ret
  have h := RdS.of_row (size := 1) (hS.get (by exact Has.head)) 2 2 rfl (Nat.le_refl _)
  exact ⟨_, rfl, hS.recast (c := row b 5 [.int .u8 (192 + (q : Int)), .int .u8 (128 + (m : Int))]) (c' := rdS 1 (.slice (some ⟨b, 0, none⟩) 2 2) 2 [.int .u8 (192 + (q : Int)), .int .u8 (128 + (m : Int))]) (by exact Upd.head) h rfl⟩
theorem ptb_3 (w0 : World) (p : Nat) (hp : p ≤ 1114111) (h0 : ¬ p < 128) (h1 : ¬ p < 2048) (h2 : p < 65536) : Calls Tryz.prog 230 #[.int .i64 (p : Int)] w0 fun e w' => ∃ v, e = .returned v ∧ St [] w0 w' [rdS 1 v (ptBytes p).length (bv (ptBytes p))] := by
  obtain ⟨q, hq⟩ : ∃ x, x = p / 4096 := ⟨_, rfl⟩
  obtain ⟨q2, hq2⟩ : ∃ x, x = p / 64 := ⟨_, rfl⟩
  obtain ⟨m2, hm2⟩ : ∃ x, x = q2 % 64 := ⟨_, rfl⟩
  obtain ⟨m, hm⟩ : ∃ x, x = p % 64 := ⟨_, rfl⟩
  have hb : bv (ptBytes p) = [.int .u8 (224 + (q : Int)), .int .u8 (128 + (m2 : Int)), .int .u8 (128 + (m : Int))] := by
    unfold ptBytes
    rw [if_neg h0, if_neg h1, if_pos h2]
    simp only [bv, List.map_cons, List.map_nil]
    simp only [← hq, ← hq2, ← hm2, ← hm]
    rw [bv_u8 (224 + q) (by omega)]
    rw [bv_u8 (128 + m2) (by omega)]
    rw [bv_u8 (128 + m) (by omega)]
    try simp
  have hl : (ptBytes p).length = 3 := by
    have := congrArg List.length hb
    rw [bv_length] at this
    exact this
  rw [hb, hl]
  have hdq : Int.tdiv (p : Int) 4096 = (q : Int) := by rw [hq]; exact tdiv_nat p 4096
  have hdq2 : Int.tdiv (p : Int) 64 = (q2 : Int) := by rw [hq2]; exact tdiv_nat p 64
  have hrm2 : Int.tmod (q2 : Int) 64 = (m2 : Int) := by rw [hm2]; exact tmod_nat q2 64
  have hrm : Int.tmod (p : Int) 64 = (m : Int) := by rw [hm]; exact tmod_nat p 64
  have hbq : q2 ≤ 1114111 := by omega
  have hbd : 224 + q < 256 ∧ 128 + m2 < 256 ∧ 128 + m < 256 := by omega
  have hc128 : decide ((p : Int) < 128) = false := by simp; omega
  have hc2048 : decide ((p : Int) < 2048) = false := by simp; omega
  have hc65536 : decide ((p : Int) < 65536) = true := by simp; omega
  clear hp h0 h1 h2
  clear hb hl hq hq2 hm2 hm
  go_enter Tryz.func230, Tryz.ntmps230
  have hS := St.start [] w0
  go_wp2_with (first | ((with_reducible apply l_want); rfl) | ((with_reducible apply l_alloc); assumption; rfl; clear hS; intro b w hS) | ((with_reducible apply l_box); assumption; rfl; clear hS; intro b w hS) | ((with_reducible apply l_load); assumption; rfl; (repeat (first | exact Has.head | apply Has.tail)); (first | rfl | (simp [takeV]; done))) | ((with_reducible apply l_build); rfl; (simp [fillL, splice, Value.cells, Act.eval]; rfl)) | ((with_reducible apply l_buildA); rfl; (simp [fillL, splice, Value.cells, Act.eval]; rfl)) | ((with_reducible apply l_bslice); assumption; rfl; rfl; (first | (simp [fillL, splice, zeros, Value.cells, Act.eval]; rfl) | rfl); clear hS; intro b w hS) | ((with_reducible apply l_storeF); assumption; rfl; rfl; (repeat (first | exact Upd.head | apply Upd.tail)); rfl; clear hS; intro w hS) | ((with_reducible apply l_store); assumption; rfl; rfl; (repeat (first | exact Upd.head | apply Upd.tail)); rfl; clear hS; intro w hS; simp only [splice] at hS; try rw [splice_nil] at hS))
  go_ret
  have h := RdS.of_row (size := 1) (hS.get (by exact Has.head)) 3 3 rfl (Nat.le_refl _)
  exact ⟨_, rfl, hS.recast (c := row b 5 [.int .u8 (224 + (q : Int)), .int .u8 (128 + (m2 : Int)), .int .u8 (128 + (m : Int))]) (c' := rdS 1 (.slice (some ⟨b, 0, none⟩) 3 3) 3 [.int .u8 (224 + (q : Int)), .int .u8 (128 + (m2 : Int)), .int .u8 (128 + (m : Int))]) (by exact Upd.head) h rfl⟩
theorem ptb_4 (w0 : World) (p : Nat) (hp : p ≤ 1114111) (h0 : ¬ p < 128) (h1 : ¬ p < 2048) (h2 : ¬ p < 65536) : Calls Tryz.prog 230 #[.int .i64 (p : Int)] w0 fun e w' => ∃ v, e = .returned v ∧ St [] w0 w' [rdS 1 v (ptBytes p).length (bv (ptBytes p))] := by
  obtain ⟨q, hq⟩ : ∃ x, x = p / 262144 := ⟨_, rfl⟩
  obtain ⟨q3, hq3⟩ : ∃ x, x = p / 4096 := ⟨_, rfl⟩
  obtain ⟨m3, hm3⟩ : ∃ x, x = q3 % 64 := ⟨_, rfl⟩
  obtain ⟨q2, hq2⟩ : ∃ x, x = p / 64 := ⟨_, rfl⟩
  obtain ⟨m2, hm2⟩ : ∃ x, x = q2 % 64 := ⟨_, rfl⟩
  obtain ⟨m, hm⟩ : ∃ x, x = p % 64 := ⟨_, rfl⟩
  have hb : bv (ptBytes p) = [.int .u8 (240 + (q : Int)), .int .u8 (128 + (m3 : Int)), .int .u8 (128 + (m2 : Int)), .int .u8 (128 + (m : Int))] := by
    unfold ptBytes
    rw [if_neg h0, if_neg h1, if_neg h2]
    simp only [bv, List.map_cons, List.map_nil]
    simp only [← hq, ← hq3, ← hm3, ← hq2, ← hm2, ← hm]
    rw [bv_u8 (240 + q) (by omega)]
    rw [bv_u8 (128 + m3) (by omega)]
    rw [bv_u8 (128 + m2) (by omega)]
    rw [bv_u8 (128 + m) (by omega)]
    try simp
  have hl : (ptBytes p).length = 4 := by
    have := congrArg List.length hb
    rw [bv_length] at this
    exact this
  rw [hb, hl]
  have hdq : Int.tdiv (p : Int) 262144 = (q : Int) := by rw [hq]; exact tdiv_nat p 262144
  have hdq3 : Int.tdiv (p : Int) 4096 = (q3 : Int) := by rw [hq3]; exact tdiv_nat p 4096
  have hrm3 : Int.tmod (q3 : Int) 64 = (m3 : Int) := by rw [hm3]; exact tmod_nat q3 64
  have hdq2 : Int.tdiv (p : Int) 64 = (q2 : Int) := by rw [hq2]; exact tdiv_nat p 64
  have hrm2 : Int.tmod (q2 : Int) 64 = (m2 : Int) := by rw [hm2]; exact tmod_nat q2 64
  have hrm : Int.tmod (p : Int) 64 = (m : Int) := by rw [hm]; exact tmod_nat p 64
  have hbq : q2 ≤ 1114111 ∧ q3 ≤ 1114111 := by omega
  have hbd : 240 + q < 256 ∧ 128 + m3 < 256 ∧ 128 + m2 < 256 ∧ 128 + m < 256 := by omega
  have hc128 : decide ((p : Int) < 128) = false := by simp; omega
  have hc2048 : decide ((p : Int) < 2048) = false := by simp; omega
  have hc65536 : decide ((p : Int) < 65536) = false := by simp; omega
  clear hp h0 h1 h2
  clear hb hl hq hq3 hm3 hq2 hm2 hm
  go_enter Tryz.func230, Tryz.ntmps230
  have hS := St.start [] w0
  go_wp2_with (first | ((with_reducible apply l_want); rfl) | ((with_reducible apply l_alloc); assumption; rfl; clear hS; intro b w hS) | ((with_reducible apply l_box); assumption; rfl; clear hS; intro b w hS) | ((with_reducible apply l_load); assumption; rfl; (repeat (first | exact Has.head | apply Has.tail)); (first | rfl | (simp [takeV]; done))) | ((with_reducible apply l_build); rfl; (simp [fillL, splice, Value.cells, Act.eval]; rfl)) | ((with_reducible apply l_buildA); rfl; (simp [fillL, splice, Value.cells, Act.eval]; rfl)) | ((with_reducible apply l_bslice); assumption; rfl; rfl; (first | (simp [fillL, splice, zeros, Value.cells, Act.eval]; rfl) | rfl); clear hS; intro b w hS) | ((with_reducible apply l_storeF); assumption; rfl; rfl; (repeat (first | exact Upd.head | apply Upd.tail)); rfl; clear hS; intro w hS) | ((with_reducible apply l_store); assumption; rfl; rfl; (repeat (first | exact Upd.head | apply Upd.tail)); rfl; clear hS; intro w hS; simp only [splice] at hS; try rw [splice_nil] at hS))
  go_ret
  have h := RdS.of_row (size := 1) (hS.get (by exact Has.head)) 4 4 rfl (Nat.le_refl _)
  exact ⟨_, rfl, hS.recast (c := row b 5 [.int .u8 (240 + (q : Int)), .int .u8 (128 + (m3 : Int)), .int .u8 (128 + (m2 : Int)), .int .u8 (128 + (m : Int))]) (c' := rdS 1 (.slice (some ⟨b, 0, none⟩) 4 4) 4 [.int .u8 (240 + (q : Int)), .int .u8 (128 + (m3 : Int)), .int .u8 (128 + (m2 : Int)), .int .u8 (128 + (m : Int))]) (by exact Upd.head) h rfl⟩
theorem ptb_u (w0 : World) (p : Nat) (hp : p ≤ 1114111) : Calls Tryz.prog 230 #[.int .i64 (p : Int)] w0 fun e w' => ∃ v, e = .returned v ∧ St [] w0 w' [rdS 1 v (ptBytes p).length (bv (ptBytes p))] := by
  by_cases h0 : p < 128
  · exact ptb_1 w0 p hp h0
  by_cases h1 : p < 2048
  · exact ptb_2 w0 p hp h0 h1
  by_cases h2 : p < 65536
  · exact ptb_3 w0 p hp h0 h1 h2
  · exact ptb_4 w0 p hp h0 h1 h2
def tA (at_ : Nat) (b : List UInt8) : List (Nat × Nat) := (ptsAt at_ b).1 ++ (if (ptsAt at_ b).2 = [] then [] else [(at_ + b.length - (ptsAt at_ b).2.length, 65533)])
theorem tA_zero (b : List UInt8) : tA 0 b = toldAt b := by unfold tA toldAt; simp
theorem tA_nil (at_ : Nat) : tA at_ [] = [] := by unfold tA; rw [ptsAt_nil]; simp
theorem contP_wait : ∀ (k many pt lo hi : Nat) (r : List UInt8), (contP k many pt lo hi r).2.2 = false → (contP k many pt lo hi r).1 = 65533 ∧ (contP k many pt lo hi r).2.1 = many + r.length
  | 0, many, pt, lo, hi, r, h => by rw [contP_zero] at h; cases h
  | k + 1, many, pt, lo, hi, [], _ => by simp [contP]
  | k + 1, many, pt, lo, hi, c :: r, h => by
    simp only [contP] at h ⊢
    split at h
    · cases h
    · rename_i hc
      rw [if_neg hc]
      have ih := contP_wait k _ _ _ _ r h
      refine ⟨ih.1, ?_⟩
      rw [ih.2, List.length_cons]
      omega
theorem firstP_wait (c : UInt8) (r : List UInt8) (h : (firstP (c :: r)).2.2 = false) : (firstP (c :: r)).1 = 65533 ∧ (firstP (c :: r)).2.1 = r.length + 1 := by
  cases hl : leadIdx c.toNat with
  | none => simp only [firstP, hl] at h; cases h
  | some i =>
    rw [firstP_some c r i hl] at h ⊢
    have := contP_wait _ _ _ _ _ _ h
    exact ⟨this.1, by rw [this.2]; omega⟩
theorem tA_cons (at_ : Nat) (c : UInt8) (r : List UInt8) : tA at_ (c :: r) = (at_, (firstP (c :: r)).1) :: tA (at_ + (firstP (c :: r)).2.1) ((c :: r).drop (firstP (c :: r)).2.1) := by
  have hm := firstP_many (c :: r) (by simp)
  unfold tA
  rw [ptsAt_cons at_ c r]
  by_cases hw : (firstP (c :: r)).2.2 = true
  · rw [if_pos hw]
    simp only [List.cons_append, List.length_drop]
    congr 2
    split
    · rfl
    · congr 2
      omega
  · rw [if_neg hw]
    have h2 := firstP_wait c r (by simpa using hw)
    have e : (c :: r).drop (firstP (c :: r)).2.1 = [] := List.drop_eq_nil_of_le (by rw [h2.2]; simp)
    rw [e, ptsAt_nil, h2.1]
    simp
def oneC (x : Nat × Nat) : List Value := [.int .i64 (x.1 : Int), .int .i64 (x.2 : Int)]
def cellsA (l : List (Nat × Nat)) : List Value := l.flatMap oneC
theorem cellsA_snoc (l : List (Nat × Nat)) (x : Nat × Nat) : cellsA (l ++ [x]) = cellsA l ++ [.int .i64 (x.1 : Int), .int .i64 (x.2 : Int)] := by simp [cellsA, oneC]
theorem cellsA_length (l : List (Nat × Nat)) : (cellsA l).length = l.length * 2 := by
  induction l with
  | nil => rfl
  | cons x l ih => simp only [cellsA, List.flatMap_cons, List.length_append] at ih ⊢; rw [ih]; simp [oneC]; omega
theorem rd_drop {W : World} {n cp k : Nat} {b o : Nat} {xs : List Value} (h : RdS W 1 (.slice (some ⟨b, o, none⟩) n cp) n xs) (hk : k ≤ n) : RdS W 1 (.slice (some ⟨b, o + k, none⟩) (n - k) (cp - k)) (n - k) (xs.drop k) := by
  obtain ⟨h1, A', c', he, hc, hr⟩ := h
  obtain ⟨rfl, -, rfl⟩ : some ⟨b, o, none⟩ = A' ∧ n = n ∧ cp = c' := by simpa using he
  refine ⟨by rw [List.length_drop, h1]; omega, _, _, rfl, by omega, fun hne => ?_⟩
  obtain ⟨b', o', he', hrd⟩ := hr (by rintro rfl; simp at hne)
  obtain ⟨rfl, rfl⟩ : b = b' ∧ o = o' := by simpa using he'
  exact ⟨b, o + k, rfl, hrd.drop k⟩
theorem slice_low (bb o len cp k : Nat) (hk : k ≤ len) (hkc : k < cp) (hc : len ≤ cp) (W : World) : (Instr.sliceAt 52 (.slice (some ⟨bb, o, none⟩) len cp) (some (.int .i64 (k : Int))) none none).run Tryz.prog W = .ok (.slice (some ⟨bb, o + k, none⟩) (len - k) (cp - k)) W := by
  have hu : Tryz.prog.underlying 52 = some (.slice 5) := El.el
  have he : Tryz.prog.elem 52 = 5 := by kernel_rfl
  rw [run_sliceAt_slice _ _ _ _ _ _ (by rw [he]; exact hu), run_slice_l _ _ _ _ _ (by rw [he]; exact hu) .i64 (k : Int) (by omega) (by omega), he, run_sizeOf (agg := false) (k := 1)]
  have hne : ¬ cp = k := by omega
  simp [sliced, Result.andThen, hne, addr_add]
/-- All points of bytes. -/
theorem all_c (w0 : World) (b : List UInt8) (A : Option Addr) (cp : Nat) (hlen : b.length ≤ 1099511627776) (hr : RdS w0 1 (.slice A b.length cp) b.length (bv b)) :
    Calls Tryz.prog 228 #[.slice A b.length cp] w0 fun e w' => ∃ v, e = .returned v ∧ St [] w0 w' [own 346 2 v (toldAt b).length (cellsA (toldAt b))] := by
  obtain ⟨R, hR⟩ : ∃ R, R = toldAt b := ⟨_, rfl⟩
  rw [← hR]
  have HR : Hid (R = tA 0 b) := Lib.hid (by rw [hR, tA_zero])
  have Hr := Lib.hid hr
  clear hR hr
  go_enter Tryz.func228, Tryz.ntmps228
  have hS := (St.start [] w0).addNil (c' := own 346 2 (.slice none 0 0) 0 []) (ownNil _ _ _) rfl
  go_wp2_with (first | ((with_reducible apply l_want); rfl) | ((with_reducible apply l_alloc); assumption; rfl; clear hS; intro b w hS) | ((with_reducible apply l_box); assumption; rfl; clear hS; intro b w hS) | ((with_reducible apply l_load); assumption; rfl; (repeat (first | exact Has.head | apply Has.tail)); (first | rfl | (simp [takeV]; done))) | ((with_reducible apply l_build); rfl; (simp [fillL, splice, Value.cells, Act.eval]; rfl)) | ((with_reducible apply l_buildA); rfl; (simp [fillL, splice, Value.cells, Act.eval]; rfl)) | ((with_reducible apply l_bslice); assumption; rfl; rfl; (first | (simp [fillL, splice, zeros, Value.cells, Act.eval]; rfl) | rfl); clear hS; intro b w hS) | ((with_reducible apply l_storeF); assumption; rfl; rfl; (repeat (first | exact Upd.head | apply Upd.tail)); rfl; clear hS; intro w hS) | ((with_reducible apply l_store); assumption; rfl; rfl; (repeat (first | exact Upd.head | apply Upd.tail)); rfl; clear hS; intro w hS; simp only [splice] at hS; try rw [splice_nil] at hS))
  go_loopg [3, 4] b.length (fun g t3 t4 wr => ∃ (n : Nat) (done : List (Nat × Nat)), n + g = b.length ∧ t4 = .int .i64 (n : Int) ∧ done.length ≤ n ∧ Hid (R = done ++ tA n (b.drop n)) ∧ St [] w0 wr [own 346 2 t3 done.length (cellsA done)])
  case atStart => exact ⟨0, [], by omega, rfl, by simp, by simpa using HR, hS⟩
  case round =>
    obtain ⟨n, done, hng, rfl, hdn, HT, hS⟩ := hrel
    by_cases hn : n < b.length
    · obtain ⟨hr1, A', c', he, hc, hr2⟩ := Hr.out
      obtain ⟨rfl, rfl⟩ : A = A' ∧ cp = c' := by simpa using he
      obtain ⟨bb, o, rfl, hr3⟩ := hr2 (by intro h; have := congrArg List.length h; rw [bv_length] at this; simp at this; rw [this] at hn; simp at hn)
      have e : (b.drop n).length = b.length - n := List.length_drop
      have hrd := rd_drop (RdS.of_rd (cs := bv b) hr3 (by rw [bv_length]; omega) hc) (Nat.le_of_lt hn)
      rw [bv_drop] at hrd
      have hfu := fun W (hf : Fr [] w0 W) => first_u W (b.drop n) (some ⟨bb, o + n, none⟩) (cp - n) (by intro h; rw [h] at e; simp at e; omega) (by omega) (by rw [e]; exact hrd.keep hf)
      rw [e] at hfu
      obtain ⟨c, r, hcr⟩ : ∃ c r, b.drop n = c :: r := by
        cases h : b.drop n with
        | nil => rw [h] at e; simp at e; omega
        | cons c r => exact ⟨c, r, rfl⟩
      have hm := firstP_many (c :: r) (by simp)
      have hrl : (c :: r).length = b.length - n := by rw [← hcr, e]
      obtain ⟨p, hp⟩ : ∃ p, p = (firstP (c :: r)).1 := ⟨_, rfl⟩
      obtain ⟨m, hme⟩ : ∃ m, m = (firstP (c :: r)).2.1 := ⟨_, rfl⟩
      obtain ⟨ww, hw⟩ : ∃ ww, ww = (firstP (c :: r)).2.2 := ⟨_, rfl⟩
      have hfv : firstV (b.drop n) = .tuple #[.int .i64 (p : Int), .int .i64 (m : Int), .bool ww] := by rw [hcr, hp, hme, hw]; rfl
      rw [hfv] at hfu
      have hdd : (c :: r).drop m = b.drop (n + m) := by rw [← hcr, List.drop_drop]
      have HN : Hid (R = (done ++ [(n, p)]) ++ tA (n + m) (b.drop (n + m))) := Lib.hid (by rw [HT.out, hcr, tA_cons, ← hp, ← hme, hdd]; simp)
      rw [← hme, hrl] at hm
      have Hfu := Lib.hid hfu
      have hsl := slice_low bb o b.length cp n (Nat.le_of_lt hn) (by omega) hc
      clear hr1 hr2 hr3 e hrd hfu hcr hrl hp hme hw hfv hdd HT he
      go_wp2_with (first | ((with_reducible apply l_want); rfl) | (go_at_call 275; go_must (refine (Hfu.out _ hS.fr).mono ?_); rintro en w1 ⟨rfl, hf1⟩; replace hS := hS.keep hf1) | ((with_reducible apply l_append); assumption; rfl; rfl; (intro v'; (repeat (first | exact Upd.head | apply Upd.tail))); rfl; exact RdS.of_row (hS.get (by exact Has.head)) 1 1 rfl (Nat.le_refl _); (intro u hu; rcases List.mem_cons.1 hu with rfl | hu; rfl; rcases List.mem_cons.1 hu with rfl | hu; rfl; cases hu); omega; omega; clear hS; intro v' w hS hnil) | ((with_reducible apply l_alloc); assumption; rfl; clear hS; intro b w hS) | ((with_reducible apply l_box); assumption; rfl; clear hS; intro b w hS) | ((with_reducible apply l_load); assumption; rfl; (repeat (first | exact Has.head | apply Has.tail)); (first | rfl | (simp [takeV]; done))) | ((with_reducible apply l_build); rfl; (simp [fillL, splice, Value.cells, Act.eval]; rfl)) | ((with_reducible apply l_buildA); rfl; (simp [fillL, splice, Value.cells, Act.eval]; rfl)) | ((with_reducible apply l_bslice); assumption; rfl; rfl; (first | (simp [fillL, splice, zeros, Value.cells, Act.eval]; rfl) | rfl); clear hS; intro b w hS) | ((with_reducible apply l_storeF); assumption; rfl; rfl; (repeat (first | exact Upd.head | apply Upd.tail)); rfl; clear hS; intro w hS) | ((with_reducible apply l_store); assumption; rfl; rfl; (repeat (first | exact Upd.head | apply Upd.tail)); rfl; clear hS; intro w hS; simp only [splice] at hS; try rw [splice_nil] at hS))
      replace hS := hS.sub (L' := [own 346 2 v' (done.length + 1) (cellsA done ++ [.int .i64 (n : Int), .int .i64 (p : Int)])]) (by (repeat (first | exact List.Sublist.slnil | exact List.Sublist.refl _ | apply List.Sublist.cons_cons | apply List.Sublist.cons)))
      go_roundg (gk - m)
      case measure => omega
      case rel => exact ⟨n + m, done ++ [(n, p)], by omega, by go_num, by simp; omega, HN, by rw [cellsA_snoc, List.length_append]; exact hS⟩
    · have hne : n = b.length := by omega
      have HN : Hid (R = done) := Lib.hid (by rw [HT.out, hne, List.drop_length, tA_nil]; simp)
      have hnn : decide ((n : Int) < (b.length : Int)) = false := by simp; omega
      clear HT hne
      go_wp2_with (first | ((with_reducible apply l_want); rfl) | ((with_reducible apply l_alloc); assumption; rfl; clear hS; intro b w hS) | ((with_reducible apply l_box); assumption; rfl; clear hS; intro b w hS) | ((with_reducible apply l_load); assumption; rfl; (repeat (first | exact Has.head | apply Has.tail)); (first | rfl | (simp [takeV]; done))) | ((with_reducible apply l_build); rfl; (simp [fillL, splice, Value.cells, Act.eval]; rfl)) | ((with_reducible apply l_buildA); rfl; (simp [fillL, splice, Value.cells, Act.eval]; rfl)) | ((with_reducible apply l_bslice); assumption; rfl; rfl; (first | (simp [fillL, splice, zeros, Value.cells, Act.eval]; rfl) | rfl); clear hS; intro b w hS) | ((with_reducible apply l_storeF); assumption; rfl; rfl; (repeat (first | exact Upd.head | apply Upd.tail)); rfl; clear hS; intro w hS) | ((with_reducible apply l_store); assumption; rfl; rfl; (repeat (first | exact Upd.head | apply Upd.tail)); rfl; clear hS; intro w hS; simp only [splice] at hS; try rw [splice_nil] at hS))
      go_ret
      refine ⟨_, rfl, ?_⟩
      rw [HN.out]
      exact hS
def flatP (l : List (Nat × Nat)) : List UInt8 := l.flatMap fun x => ptBytes x.2
theorem ptBytes_len (p : Nat) : (ptBytes p).length ≤ 4 := by
  unfold ptBytes
  split
  · simp
  · split
    · simp
    · split <;> simp
theorem flatP_len (l : List (Nat × Nat)) : (flatP l).length ≤ 4 * l.length := by
  induction l with
  | nil => simp [flatP]
  | cons x l ih =>
    have := ptBytes_len x.2
    simp only [flatP, List.flatMap_cons, List.length_append, List.length_cons] at ih ⊢
    omega
theorem flatP_told (b : List UInt8) : flatP (toldAt b) = utf8Of b := by
  unfold flatP utf8Of told
  rw [List.flatMap_map]
theorem flatP_succ {l : List (Nat × Nat)} {i : Nat} {x : Nat × Nat} (h : l[i]? = some x) : flatP (l.take (i + 1)) = flatP (l.take i) ++ ptBytes x.2 := by
  obtain ⟨hlt, rfl⟩ := List.getElem?_eq_some_iff.1 h
  unfold flatP
  rw [List.take_succ_eq_append_getElem hlt, List.flatMap_append]
  simp only [List.flatMap_cons, List.flatMap_nil, List.append_nil]
theorem cellsA_drop (l : List (Nat × Nat)) : ∀ i : Nat, (cellsA l).drop (i * 2) = cellsA (l.drop i) := by
  induction l with
  | nil => intro i; simp [cellsA]
  | cons x l ih =>
    intro i
    cases i with
    | zero => simp
    | succ i =>
      have e : (i + 1) * 2 = i * 2 + 2 := by omega
      rw [e, List.drop_succ_cons]
      have := ih i
      simp only [cellsA, List.flatMap_cons, oneC, List.cons_append, List.nil_append, List.drop_succ_cons] at this ⊢
      exact this
/-- The text of bytes' points. -/
theorem of_u (w0 : World) (b : List UInt8) (A : Option Addr) (cp : Nat) (hlen : b.length ≤ 1099511627776) (hr : RdS w0 1 (.slice A b.length cp) b.length (bv b)) :
    Calls Tryz.prog 190 #[.slice A b.length cp] w0 fun e w' => e = .returned (txt (utf8Of b)) ∧ Fr [] w0 w' := by
  have hall := fun W (hf : Fr [] w0 W) => all_c W b A cp hlen (hr.keep hf)
  have hTl := toldAt_len b
  have hTv : ∀ x ∈ toldAt b, x.2 ≤ 1114111 := fun x hx => (toldAt_valid b x hx).1
  rw [← flatP_told]
  obtain ⟨T, hT⟩ : ∃ T, T = toldAt b := ⟨_, rfl⟩
  rw [← hT] at hall hTl hTv ⊢
  have Hall := Lib.hid hall
  clear hall hT hr
  go_enter Tryz.func190, Tryz.ntmps190
  have hS := (St.start [] w0).addNil (c' := own 5 1 (.slice none 0 0) 0 []) (ownNil _ _ _) rfl
  go_wp2_with (first | ((with_reducible apply l_want); rfl) | (go_at_call 228; go_must (refine (Hall.out _ hS.fr).mono ?_); rintro en w1 ⟨v, rfl, hT⟩; replace hS := hS.join hT; obtain ⟨A2, c2, rfl, hc2⟩ := (RdS.of_own (hS.get (c := own 346 2 v T.length (cellsA T)) (by exact Has.head))).shape; clear hT) | ((with_reducible apply l_alloc); assumption; rfl; clear hS; intro b w hS) | ((with_reducible apply l_box); assumption; rfl; clear hS; intro b w hS) | ((with_reducible apply l_load); assumption; rfl; (repeat (first | exact Has.head | apply Has.tail)); (first | rfl | (simp [takeV]; done))) | ((with_reducible apply l_build); rfl; (simp [fillL, splice, Value.cells, Act.eval]; rfl)) | ((with_reducible apply l_buildA); rfl; (simp [fillL, splice, Value.cells, Act.eval]; rfl)) | ((with_reducible apply l_bslice); assumption; rfl; rfl; (first | (simp [fillL, splice, zeros, Value.cells, Act.eval]; rfl) | rfl); clear hS; intro b w hS) | ((with_reducible apply l_storeF); assumption; rfl; rfl; (repeat (first | exact Upd.head | apply Upd.tail)); rfl; clear hS; intro w hS) | ((with_reducible apply l_store); assumption; rfl; rfl; (repeat (first | exact Upd.head | apply Upd.tail)); rfl; clear hS; intro w hS; simp only [splice] at hS; try rw [splice_nil] at hS))
  replace hS : St [] w0 w1 [own 346 2 (.slice A2 T.length c2) T.length (cellsA T), own 5 1 (.slice none 0 0) 0 []] := hS
  go_loopg [3, 5] T.length (fun g t3 t5 wr => ∃ i : Nat, i + g = T.length ∧ t5 = .int .i64 (i : Int) ∧ St [] w0 wr [own 346 2 (.slice A2 T.length c2) T.length (cellsA T), own 5 1 t3 (flatP (T.take i)).length (bv (flatP (T.take i)))])
  case atStart => exact ⟨0, by omega, rfl, hS⟩
  case round =>
    obtain ⟨i, hig, rfl, hS⟩ := hrel
    by_cases hi : i < T.length
    · obtain ⟨x, hx⟩ : ∃ x, T[i]? = some x := ⟨_, List.getElem?_eq_getElem hi⟩
      have hxv := hTv x (List.mem_of_getElem? hx)
      obtain ⟨_, bb, o, rfl, hrd⟩ := (RdS.of_own (hS.get (c := own 346 2 (.slice A2 T.length c2) T.length (cellsA T)) (by exact Has.head))).at i hi (by decide)
      have hrd1 : Rd wr bb (o + i * 2 + 1) [.int .i64 (x.2 : Int)] := by
        have h1 := (hrd.drop 1).take 1
        rw [cellsA_drop, List.drop_eq_getElem_cons hi, (List.getElem?_eq_some_iff.1 hx).2] at h1
        exact h1
      have Hrd := Lib.hid hrd1
      have hfl := flatP_len (T.take i)
      rw [List.length_take] at hfl
      have hpl := ptBytes_len x.2
      have hsu := flatP_succ hx
      obtain ⟨F, hF⟩ : ∃ F, F = flatP (T.take i) := ⟨_, rfl⟩
      rw [← hF] at hS hfl hsu
      have Hsu := Lib.hid hsu
      obtain ⟨p, hp⟩ : ∃ p, p = x.2 := ⟨_, rfl⟩
      rw [← hp] at hxv Hrd hpl Hsu
      clear hrd hrd1 hx hF hsu hp
      go_wp2_with (first | ((with_reducible apply l_want); rfl) | ((with_reducible apply l_read); rfl; exact Hrd.out; rfl) | (go_at_call 230; go_must (refine (ptb_u _ p hxv).mono ?_); rintro en w1 ⟨v, rfl, hT⟩; replace hS := hS.join hT; obtain ⟨A3, c3, rfl, hc3⟩ := (hT.get (c := rdS 1 v (ptBytes p).length (bv (ptBytes p))) (by exact Has.head)).shape; clear hT) | ((with_reducible apply l_append (m := (ptBytes p).length) (news := bv (ptBytes p))); assumption; rfl; rfl; (intro v'; (repeat (first | exact Upd.head | apply Upd.tail))); rfl; exact hS.get (c := rdS 1 _ (ptBytes p).length (bv (ptBytes p))) (by exact Has.head); exact bv_one _; omega; omega; clear hS; intro v' w hS hnil) | ((with_reducible apply l_alloc); assumption; rfl; clear hS; intro b w hS) | ((with_reducible apply l_box); assumption; rfl; clear hS; intro b w hS) | ((with_reducible apply l_load); assumption; rfl; (repeat (first | exact Has.head | apply Has.tail)); (first | rfl | (simp [takeV]; done))) | ((with_reducible apply l_build); rfl; (simp [fillL, splice, Value.cells, Act.eval]; rfl)) | ((with_reducible apply l_buildA); rfl; (simp [fillL, splice, Value.cells, Act.eval]; rfl)) | ((with_reducible apply l_bslice); assumption; rfl; rfl; (first | (simp [fillL, splice, zeros, Value.cells, Act.eval]; rfl) | rfl); clear hS; intro b w hS) | ((with_reducible apply l_storeF); assumption; rfl; rfl; (repeat (first | exact Upd.head | apply Upd.tail)); rfl; clear hS; intro w hS) | ((with_reducible apply l_store); assumption; rfl; rfl; (repeat (first | exact Upd.head | apply Upd.tail)); rfl; clear hS; intro w hS; simp only [splice] at hS; try rw [splice_nil] at hS))
      replace hS := hS.sub (L' := [own 346 2 (.slice (some ⟨bb, o, none⟩) T.length c2) T.length (cellsA T), own 5 1 v' (F.length + (ptBytes p).length) (bv F ++ bv (ptBytes p))]) (by (repeat (first | exact List.Sublist.slnil | exact List.Sublist.refl _ | apply List.Sublist.cons_cons | apply List.Sublist.cons)))
      go_roundg (gk - 1)
      case measure => omega
      case rel => exact ⟨i + 1, by omega, by go_num, by rw [Hsu.out, List.length_append, bv_append]; exact hS⟩
    · have hie : i = T.length := by omega
      subst hie
      rw [List.take_length] at hS
      have hnn : decide ((T.length : Int) < (T.length : Int)) = false := by simp
      go_wp2_with (first | ((with_reducible apply l_want); rfl) | ((with_reducible apply l_b2s (l := flatP T)); rfl; exact RdS.of_own (hS.get (c := own 5 1 _ (flatP T).length (bv (flatP T))) (by exact Has.head.tail))) | ((with_reducible apply l_alloc); assumption; rfl; clear hS; intro b w hS) | ((with_reducible apply l_box); assumption; rfl; clear hS; intro b w hS) | ((with_reducible apply l_load); assumption; rfl; (repeat (first | exact Has.head | apply Has.tail)); (first | rfl | (simp [takeV]; done))) | ((with_reducible apply l_build); rfl; (simp [fillL, splice, Value.cells, Act.eval]; rfl)) | ((with_reducible apply l_buildA); rfl; (simp [fillL, splice, Value.cells, Act.eval]; rfl)) | ((with_reducible apply l_bslice); assumption; rfl; rfl; (first | (simp [fillL, splice, zeros, Value.cells, Act.eval]; rfl) | rfl); clear hS; intro b w hS) | ((with_reducible apply l_storeF); assumption; rfl; rfl; (repeat (first | exact Upd.head | apply Upd.tail)); rfl; clear hS; intro w hS) | ((with_reducible apply l_store); assumption; rfl; rfl; (repeat (first | exact Upd.head | apply Upd.tail)); rfl; clear hS; intro w hS; simp only [splice] at hS; try rw [splice_nil] at hS))
      go_ret
      exact ⟨rfl, hS.fr⟩
/-- Is a text sound? -/
theorem sound_u (w0 : World) (l : List UInt8) (hl : l.length ≤ 1099511627776) : Calls Tryz.prog 111 #[txt l] w0 fun e w' => e = .returned (.bool (sound l)) ∧ Fr [] w0 w' := by
  have ho := fun W A cp hr => of_u W l A cp hl hr
  have hs : sound l = (utf8Of l == l) := rfl
  rw [hs]
  obtain ⟨u, hu⟩ : ∃ u, u = utf8Of l := ⟨_, rfl⟩
  rw [← hu] at ho ⊢
  have Ho := Lib.hid ho
  clear ho hs hu
  go_enter Tryz.func111, Tryz.ntmps111
  have hS := St.start [] w0
  go_wp2_with (first | ((with_reducible apply l_want); rfl) | ((with_reducible apply l_s2b); assumption; rfl; clear hS; intro v w hS; obtain ⟨A, cp, rfl, hcp⟩ := (hS.get (c := rdS 1 v l.length (bv l)) (by exact Has.head)).shape) | (go_at_call 190; go_must (refine (Ho.out _ _ _ (hS.get (c := rdS 1 _ l.length (bv l)) (by exact Has.head))).mono ?_); rintro en w1 ⟨rfl, hf1⟩; replace hS := hS.keep hf1) | ((with_reducible apply l_alloc); assumption; rfl; clear hS; intro b w hS) | ((with_reducible apply l_box); assumption; rfl; clear hS; intro b w hS) | ((with_reducible apply l_load); assumption; rfl; (repeat (first | exact Has.head | apply Has.tail)); (first | rfl | (simp [takeV]; done))) | ((with_reducible apply l_build); rfl; (simp [fillL, splice, Value.cells, Act.eval]; rfl)) | ((with_reducible apply l_buildA); rfl; (simp [fillL, splice, Value.cells, Act.eval]; rfl)) | ((with_reducible apply l_bslice); assumption; rfl; rfl; (first | (simp [fillL, splice, zeros, Value.cells, Act.eval]; rfl) | rfl); clear hS; intro b w hS) | ((with_reducible apply l_storeF); assumption; rfl; rfl; (repeat (first | exact Upd.head | apply Upd.tail)); rfl; clear hS; intro w hS) | ((with_reducible apply l_store); assumption; rfl; rfl; (repeat (first | exact Upd.head | apply Upd.tail)); rfl; clear hS; intro w hS; simp only [splice] at hS; try rw [splice_nil] at hS))
  go_ret
  exact ⟨rfl, hS.fr⟩
end Go.Proofs.YtaejmginhkbbhaaGreatDoor
