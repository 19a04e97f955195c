/- The walks through the document's own layer 4 (package bellmanref04), first part: the points whose bytes begin so (F313). Conditions: as each contract says. -/
import Derived.Test.YtaejmginhkbbhaaGreatDoorX1
import Derived.Test.YtaejmginhkbbhaaGreatDoorRu
set_option linter.unusedSimpArgs false
set_option linter.unusedVariables false
set_option maxRecDepth 100000
set_option maxHeartbeats 1000000
namespace Go.Proofs.YtaejmginhkbbhaaGreatDoor
open Go Go.RowKit
attribute [local irreducible] Calls
theorem results_tmp4 {fn : Func} {t u v x : Tmp} (h : fn.results = #[.tmp t, .tmp u, .tmp v, .tmp x]) (tmps : Array Value) (P : Program) (w : World) :
    (results fn tmps).run P w = .ok (.tuple #[tmps.getD t undef, tmps.getD u undef, tmps.getD v undef, tmps.getD x undef]) w := by
  simp [results, h]
def spanV (b : List UInt8) : Value := match spanP b with
  | none => .tuple #[.int .i64 0, .int .i64 0, .int .i64 0, .bool false]
  | some (m, l, t) => .tuple #[.int .i64 (m : Int), .int .i64 (l : Int), .int .i64 (t : Int), .bool true]
/-- One byte of a row that is read. -/
theorem rd_byte {W : World} {A : Option Addr} {cp : Nat} {b : List UInt8} (h : RdS W 1 (.slice A b.length cp) b.length (bv b)) (i : Nat) (hi : i < b.length) : ∃ bb o, A = some ⟨bb, o, none⟩ ∧ Rd W bb (o + i) [.int .u8 ((b.getD i 0).toNat : Int)] := by
  obtain ⟨_, bb, o, rfl, hrd⟩ := h.at i hi (by decide)
  refine ⟨bb, o, rfl, ?_⟩
  have := hrd.take 1
  rw [Nat.mul_one] at this
  have e1 : ((bv b).drop i).take 1 = [.int .u8 ((b.getD i 0).toNat : Int)] := by
    rw [bv_drop, List.drop_eq_getElem_cons hi, List.getD_eq_getElem?_getD, List.getElem?_eq_getElem hi]
    rfl
  rwa [e1] at this
theorem drop_at (c : UInt8) (r : List UInt8) (i : Nat) (h1 : 1 ≤ i) (h2 : i < r.length + 1) : r.drop (i - 1) = (c :: r).getD i 0 :: r.drop i := by
  obtain ⟨j, rfl⟩ : ∃ j, i = j + 1 := ⟨i - 1, by omega⟩
  have hj : j < r.length := by omega
  rw [Nat.add_sub_cancel, List.drop_eq_getElem_cons hj]
  simp [List.getD, hj]
theorem tmod_nat (n k : Nat) : Int.tmod (n : Int) (k : Int) = ((n % k : Nat) : Int) := by
  rw [Int.tmod_eq_emod_of_nonneg (by omega)]
  rfl
theorem span_na (w0 : World) (c : UInt8) (r : List UInt8) (A : Option Addr) (cp : Nat) (h1 : 128 ≤ c.toNat) (h2 : c.toNat < 192) (hr : RdS w0 1 (.slice A (r.length + 1) cp) (r.length + 1) (bv (c :: r))) :
    Calls Tryz.prog 313 #[.slice A (r.length + 1) cp] w0 fun e w' => e = .returned (.tuple #[.int .i64 0, .int .i64 0, .int .i64 0, .bool false]) ∧ Fr [] w0 w' := by
  obtain ⟨bb, o, rfl, h0⟩ := rd_byte (b := c :: r) hr 0 (by simp)
  have H0 : Hid (Rd w0 bb o [.int .u8 (c.toNat : Int)]) := Lib.hid h0
  obtain ⟨n, hn⟩ : ∃ n, n = c.toNat := ⟨_, rfl⟩
  rw [← hn] at H0
  rw [← hn] at h1 h2
  clear h0 hr hn
  have h3 : ¬ n < 128 := by omega
  go_enter Tryz.func313, Tryz.ntmps313
  have hS := St.start [] w0
  go_wp2_with (first | ((with_reducible apply l_want); rfl) | ((with_reducible apply l_read); rfl; exact H0.out; rfl) | ((with_reducible apply l_alloc); assumption; rfl; clear hS; intro b w hS) | ((with_reducible apply l_box); assumption; rfl; clear hS; intro b w hS) | ((with_reducible apply l_load); assumption; rfl; (repeat (first | exact Has.head | apply Has.tail)); (first | rfl | (simp [takeV]; done))) | ((with_reducible apply l_build); rfl; (simp [fillL, splice, Value.cells, Act.eval]; rfl)) | ((with_reducible apply l_buildA); rfl; (simp [fillL, splice, Value.cells, Act.eval]; rfl)) | ((with_reducible apply l_bslice); assumption; rfl; rfl; (first | (simp [fillL, splice, zeros, Value.cells, Act.eval]; rfl) | rfl); clear hS; intro b w hS) | ((with_reducible apply l_storeF); assumption; rfl; rfl; (repeat (first | exact Upd.head | apply Upd.tail)); rfl; clear hS; intro w hS) | ((with_reducible apply l_store); assumption; rfl; rfl; (repeat (first | exact Upd.head | apply Upd.tail)); rfl; clear hS; intro w hS; simp only [splice] at hS; try rw [splice_nil] at hS))
  refine bodyPost_ret (results_tmp4 rfl _ _ _) rfl ⟨rfl, hS.fr⟩
theorem span_nb (w0 : World) (c : UInt8) (r : List UInt8) (A : Option Addr) (cp : Nat) (h1 : 248 ≤ c.toNat) (h2 : c.toNat < 256) (hr : RdS w0 1 (.slice A (r.length + 1) cp) (r.length + 1) (bv (c :: r))) :
    Calls Tryz.prog 313 #[.slice A (r.length + 1) cp] w0 fun e w' => e = .returned (.tuple #[.int .i64 0, .int .i64 0, .int .i64 0, .bool false]) ∧ Fr [] w0 w' := by
  obtain ⟨bb, o, rfl, h0⟩ := rd_byte (b := c :: r) hr 0 (by simp)
  have H0 : Hid (Rd w0 bb o [.int .u8 (c.toNat : Int)]) := Lib.hid h0
  obtain ⟨n, hn⟩ : ∃ n, n = c.toNat := ⟨_, rfl⟩
  rw [← hn] at H0
  rw [← hn] at h1 h2
  clear h0 hr hn
  have h3 : ¬ n < 128 := by omega
  have h4 : ¬ n < 224 := by omega
  have h5 : ¬ n < 240 := by omega
  have h6 : ¬ n < 248 := by omega
  go_enter Tryz.func313, Tryz.ntmps313
  have hS := St.start [] w0
  go_wp2_with (first | ((with_reducible apply l_want); rfl) | ((with_reducible apply l_read); rfl; exact H0.out; rfl) | ((with_reducible apply l_alloc); assumption; rfl; clear hS; intro b w hS) | ((with_reducible apply l_box); assumption; rfl; clear hS; intro b w hS) | ((with_reducible apply l_load); assumption; rfl; (repeat (first | exact Has.head | apply Has.tail)); (first | rfl | (simp [takeV]; done))) | ((with_reducible apply l_build); rfl; (simp [fillL, splice, Value.cells, Act.eval]; rfl)) | ((with_reducible apply l_buildA); rfl; (simp [fillL, splice, Value.cells, Act.eval]; rfl)) | ((with_reducible apply l_bslice); assumption; rfl; rfl; (first | (simp [fillL, splice, zeros, Value.cells, Act.eval]; rfl) | rfl); clear hS; intro b w hS) | ((with_reducible apply l_storeF); assumption; rfl; rfl; (repeat (first | exact Upd.head | apply Upd.tail)); rfl; clear hS; intro w hS) | ((with_reducible apply l_store); assumption; rfl; rfl; (repeat (first | exact Upd.head | apply Upd.tail)); rfl; clear hS; intro w hS; simp only [splice] at hS; try rw [splice_nil] at hS))
  refine bodyPost_ret (results_tmp4 rfl _ _ _) rfl ⟨rfl, hS.fr⟩
theorem span_1 (w0 : World) (c : UInt8) (r : List UInt8) (A : Option Addr) (cp : Nat) (hlen : r.length + 1 ≤ 1099511627776) (h1 : c.toNat < 128) (hr : RdS w0 1 (.slice A (r.length + 1) cp) (r.length + 1) (bv (c :: r))) :
    Calls Tryz.prog 313 #[.slice A (r.length + 1) cp] w0 fun e w' => e = .returned (spanV (c :: r)) ∧ Fr [] w0 w' := by
  obtain ⟨R, hR⟩ : ∃ R, R = spanV (c :: r) := ⟨_, rfl⟩
  rw [← hR]
  have hcl : classP c.toNat = some (1, c.toNat) := by
    unfold classP
    rw [if_pos h1]
  have hsp : R = match spanL 0 (c.toNat) (c.toNat) r with | none => .tuple #[.int .i64 0, .int .i64 0, .int .i64 0, .bool false] | some (l, t) => .tuple #[.int .i64 1, .int .i64 (l : Int), .int .i64 (t : Int), .bool true] := by
    rw [hR]
    unfold spanV spanP
    simp only [hcl, Nat.reduceSub]
    cases spanL 0 (c.toNat) (c.toNat) r <;> rfl
  have Hr := Lib.hid hr
  obtain ⟨bb, o, rfl, h0⟩ := rd_byte (b := c :: r) hr 0 (by simp)
  have H0 : Hid (Rd w0 bb o [.int .u8 (c.toNat : Int)]) := Lib.hid h0
  obtain ⟨n, hn⟩ : ∃ n, n = c.toNat := ⟨_, rfl⟩
  rw [← hn] at H0
  rw [← hn] at hsp h1
  have Hsp := Lib.hid hsp
  clear h0 hr hn hcl hsp hR
  have g1 : decide ((n : Int) < 128) = true := by simp; omega
  obtain ⟨l0, hl0⟩ : ∃ l0, l0 = n := ⟨_, rfl⟩
  have hl1 : l0 < 128 := by omega
  rw [← hl0] at Hsp H0 g1 h1
  clear hl0
  go_enter Tryz.func313, Tryz.ntmps313
  have hS := St.start [] w0
  go_wp2_with (first | ((with_reducible apply l_want); rfl) | ((with_reducible apply l_read); rfl; exact H0.out; rfl) | ((with_reducible apply l_alloc); assumption; rfl; clear hS; intro b w hS) | ((with_reducible apply l_box); assumption; rfl; clear hS; intro b w hS) | ((with_reducible apply l_load); assumption; rfl; (repeat (first | exact Has.head | apply Has.tail)); (first | rfl | (simp [takeV]; done))) | ((with_reducible apply l_build); rfl; (simp [fillL, splice, Value.cells, Act.eval]; rfl)) | ((with_reducible apply l_buildA); rfl; (simp [fillL, splice, Value.cells, Act.eval]; rfl)) | ((with_reducible apply l_bslice); assumption; rfl; rfl; (first | (simp [fillL, splice, zeros, Value.cells, Act.eval]; rfl) | rfl); clear hS; intro b w hS) | ((with_reducible apply l_storeF); assumption; rfl; rfl; (repeat (first | exact Upd.head | apply Upd.tail)); rfl; clear hS; intro w hS) | ((with_reducible apply l_store); assumption; rfl; rfl; (repeat (first | exact Upd.head | apply Upd.tail)); rfl; clear hS; intro w hS; simp only [splice] at hS; try rw [splice_nil] at hS))
  clear h1 g1
  go_loopg [8, 9, 10] 0 (fun g t8 t9 t10 wr => ∃ i l t : Nat, i + g = 1 ∧ t10 = .int .i64 (i : Int) ∧ t8 = .int .i64 (l : Int) ∧ t9 = .int .i64 (t : Int) ∧ 1 ≤ i ∧ l ≤ t ∧ (i = 1 → t < 128) ∧ (i = 2 → t < 8192) ∧ (i = 3 → t < 524288) ∧ Hid (spanL 0 l0 l0 r = spanL (1 - i) l t (r.drop (i - 1))) ∧ St [] w0 wr [])
  case atStart => exact ⟨1, l0, l0, by omega, rfl, rfl, rfl, by omega, by omega, by omega, by omega, by omega, Lib.hid rfl, hS⟩
  case round =>
    obtain ⟨i, l, t, hig, rfl, rfl, rfl, hi1, hlt, hb1, hb2, hb3, HT, hS⟩ := hrel
    by_cases him : i < 1
    · exfalso
      omega
    · obtain rfl : i = 1 := by omega
      have HN : Hid (spanL 0 l0 l0 r = some (l, t)) := Lib.hid (by rw [HT.out]; exact spanL_zero _ _ _)
      clear HT
      go_wp2_with (first | ((with_reducible apply l_want); rfl) | ((with_reducible apply l_alloc); assumption; rfl; clear hS; intro b w hS) | ((with_reducible apply l_box); assumption; rfl; clear hS; intro b w hS) | ((with_reducible apply l_load); assumption; rfl; (repeat (first | exact Has.head | apply Has.tail)); (first | rfl | (simp [takeV]; done))) | ((with_reducible apply l_build); rfl; (simp [fillL, splice, Value.cells, Act.eval]; rfl)) | ((with_reducible apply l_buildA); rfl; (simp [fillL, splice, Value.cells, Act.eval]; rfl)) | ((with_reducible apply l_bslice); assumption; rfl; rfl; (first | (simp [fillL, splice, zeros, Value.cells, Act.eval]; rfl) | rfl); clear hS; intro b w hS) | ((with_reducible apply l_storeF); assumption; rfl; rfl; (repeat (first | exact Upd.head | apply Upd.tail)); rfl; clear hS; intro w hS) | ((with_reducible apply l_store); assumption; rfl; rfl; (repeat (first | exact Upd.head | apply Upd.tail)); rfl; clear hS; intro w hS; simp only [splice] at hS; try rw [splice_nil] at hS))
      refine bodyPost_ret (results_tmp4 rfl _ _ _) rfl ⟨?_, hS.fr⟩
      rw [Hsp.out, HN.out]
      rfl
theorem span_2 (w0 : World) (c : UInt8) (r : List UInt8) (A : Option Addr) (cp : Nat) (hlen : r.length + 1 ≤ 1099511627776) (h1 : 192 ≤ c.toNat ∧ c.toNat < 224) (hr : RdS w0 1 (.slice A (r.length + 1) cp) (r.length + 1) (bv (c :: r))) :
    Calls Tryz.prog 313 #[.slice A (r.length + 1) cp] w0 fun e w' => e = .returned (spanV (c :: r)) ∧ Fr [] w0 w' := by
  obtain ⟨R, hR⟩ : ∃ R, R = spanV (c :: r) := ⟨_, rfl⟩
  rw [← hR]
  have hcl : classP c.toNat = some (2, c.toNat % 32) := by
    unfold classP
    rw [if_neg (by omega), if_pos h1]
  have hsp : R = match spanL 1 (c.toNat % 32) (c.toNat % 32) r with | none => .tuple #[.int .i64 0, .int .i64 0, .int .i64 0, .bool false] | some (l, t) => .tuple #[.int .i64 2, .int .i64 (l : Int), .int .i64 (t : Int), .bool true] := by
    rw [hR]
    unfold spanV spanP
    simp only [hcl, Nat.reduceSub]
    cases spanL 1 (c.toNat % 32) (c.toNat % 32) r <;> rfl
  have Hr := Lib.hid hr
  obtain ⟨bb, o, rfl, h0⟩ := rd_byte (b := c :: r) hr 0 (by simp)
  have H0 : Hid (Rd w0 bb o [.int .u8 (c.toNat : Int)]) := Lib.hid h0
  obtain ⟨n, hn⟩ : ∃ n, n = c.toNat := ⟨_, rfl⟩
  rw [← hn] at H0
  rw [← hn] at hsp h1
  have Hsp := Lib.hid hsp
  clear h0 hr hn hcl hsp hR
  have g1 : decide ((n : Int) < 128) = false := by simp; omega
  have g2 : decide ((n : Int) < 224) = true := by simp; omega
  have g3 : 192 ≤ n := h1.1
  have hmod : Int.tmod (n : Int) 32 = ((n % 32 : Nat) : Int) := tmod_nat n 32
  obtain ⟨l0, hl0⟩ : ∃ l0, l0 = n % 32 := ⟨_, rfl⟩
  have hl1 : l0 < 128 := by omega
  rw [← hl0] at Hsp hmod
  clear hl0
  go_enter Tryz.func313, Tryz.ntmps313
  have hS := St.start [] w0
  go_wp2_with (first | ((with_reducible apply l_want); rfl) | ((with_reducible apply l_read); rfl; exact H0.out; rfl) | ((with_reducible apply l_alloc); assumption; rfl; clear hS; intro b w hS) | ((with_reducible apply l_box); assumption; rfl; clear hS; intro b w hS) | ((with_reducible apply l_load); assumption; rfl; (repeat (first | exact Has.head | apply Has.tail)); (first | rfl | (simp [takeV]; done))) | ((with_reducible apply l_build); rfl; (simp [fillL, splice, Value.cells, Act.eval]; rfl)) | ((with_reducible apply l_buildA); rfl; (simp [fillL, splice, Value.cells, Act.eval]; rfl)) | ((with_reducible apply l_bslice); assumption; rfl; rfl; (first | (simp [fillL, splice, zeros, Value.cells, Act.eval]; rfl) | rfl); clear hS; intro b w hS) | ((with_reducible apply l_storeF); assumption; rfl; rfl; (repeat (first | exact Upd.head | apply Upd.tail)); rfl; clear hS; intro w hS) | ((with_reducible apply l_store); assumption; rfl; rfl; (repeat (first | exact Upd.head | apply Upd.tail)); rfl; clear hS; intro w hS; simp only [splice] at hS; try rw [splice_nil] at hS))
  clear h1 g1 g2 g3 hmod
  go_loopg [8, 9, 10] 1 (fun g t8 t9 t10 wr => ∃ i l t : Nat, i + g = 2 ∧ t10 = .int .i64 (i : Int) ∧ t8 = .int .i64 (l : Int) ∧ t9 = .int .i64 (t : Int) ∧ 1 ≤ i ∧ l ≤ t ∧ (i = 1 → t < 128) ∧ (i = 2 → t < 8192) ∧ (i = 3 → t < 524288) ∧ Hid (spanL 1 l0 l0 r = spanL (2 - i) l t (r.drop (i - 1))) ∧ St [] w0 wr [])
  case atStart => exact ⟨1, l0, l0, by omega, rfl, rfl, rfl, by omega, by omega, by omega, by omega, by omega, Lib.hid rfl, hS⟩
  case round =>
    obtain ⟨i, l, t, hig, rfl, rfl, rfl, hi1, hlt, hb1, hb2, hb3, HT, hS⟩ := hrel
    by_cases him : i < 2
    · have ht : t < 524288 := by omega
      obtain ⟨k, hk⟩ : ∃ k, 2 - i = k + 1 := ⟨2 - i - 1, by omega⟩
      have hk2 : 2 - (i + 1) = k := by omega
      rw [hk] at HT
      by_cases hib : i < r.length + 1
      · obtain ⟨_, _, he, hx⟩ := rd_byte (b := c :: r) Hr.out i (by simpa using hib)
        obtain ⟨rfl, rfl⟩ : bb = _ ∧ o = _ := by simpa using he
        rw [drop_at c r i hi1 hib] at HT
        obtain ⟨d, hd⟩ : ∃ d, d = (c :: r).getD i 0 := ⟨_, rfl⟩
        rw [← hd] at hx HT
        obtain ⟨x, hxn⟩ : ∃ x, x = d.toNat := ⟨_, rfl⟩
        have hx256 : x < 256 := by rw [hxn]; exact d.toNat_lt
        have hmx : Int.tmod (x : Int) 64 = ((x % 64 : Nat) : Int) := tmod_nat x 64
        rw [← hxn] at hx
        have Hx := Lib.hid hx
        by_cases hbad : x < 128 ∨ 191 < x
        · have hnone : spanL (k + 1) l t (d :: r.drop i) = none := spanL_bad _ _ _ _ _ (by rw [← hxn]; exact hbad)
          have HN : Hid (spanL 1 l0 l0 r = none) := Lib.hid (HT.out.trans hnone)
          clear hx hd hxn he HT hnone
          by_cases hb : x < 128
          · have hb3 : decide ((x : Int) < 128) = true := by simp; omega
            go_wp2_with (first | ((with_reducible apply l_want); rfl) | ((with_reducible apply l_read); rfl; exact Hx.out.fr hS.fr (by simp); rfl) | ((with_reducible apply l_alloc); assumption; rfl; clear hS; intro b w hS) | ((with_reducible apply l_box); assumption; rfl; clear hS; intro b w hS) | ((with_reducible apply l_load); assumption; rfl; (repeat (first | exact Has.head | apply Has.tail)); (first | rfl | (simp [takeV]; done))) | ((with_reducible apply l_build); rfl; (simp [fillL, splice, Value.cells, Act.eval]; rfl)) | ((with_reducible apply l_buildA); rfl; (simp [fillL, splice, Value.cells, Act.eval]; rfl)) | ((with_reducible apply l_bslice); assumption; rfl; rfl; (first | (simp [fillL, splice, zeros, Value.cells, Act.eval]; rfl) | rfl); clear hS; intro b w hS) | ((with_reducible apply l_storeF); assumption; rfl; rfl; (repeat (first | exact Upd.head | apply Upd.tail)); rfl; clear hS; intro w hS) | ((with_reducible apply l_store); assumption; rfl; rfl; (repeat (first | exact Upd.head | apply Upd.tail)); rfl; clear hS; intro w hS; simp only [splice] at hS; try rw [splice_nil] at hS))
            refine bodyPost_ret (results_tmp4 rfl _ _ _) rfl ⟨?_, hS.fr⟩
            rw [Hsp.out, HN.out]
            rfl
          · have hb3 : decide ((x : Int) < 128) = false := by simp; omega
            have hb4 : decide ((191 : Int) < (x : Int)) = true := by simp; omega
            go_wp2_with (first | ((with_reducible apply l_want); rfl) | ((with_reducible apply l_read); rfl; exact Hx.out.fr hS.fr (by simp); rfl) | ((with_reducible apply l_alloc); assumption; rfl; clear hS; intro b w hS) | ((with_reducible apply l_box); assumption; rfl; clear hS; intro b w hS) | ((with_reducible apply l_load); assumption; rfl; (repeat (first | exact Has.head | apply Has.tail)); (first | rfl | (simp [takeV]; done))) | ((with_reducible apply l_build); rfl; (simp [fillL, splice, Value.cells, Act.eval]; rfl)) | ((with_reducible apply l_buildA); rfl; (simp [fillL, splice, Value.cells, Act.eval]; rfl)) | ((with_reducible apply l_bslice); assumption; rfl; rfl; (first | (simp [fillL, splice, zeros, Value.cells, Act.eval]; rfl) | rfl); clear hS; intro b w hS) | ((with_reducible apply l_storeF); assumption; rfl; rfl; (repeat (first | exact Upd.head | apply Upd.tail)); rfl; clear hS; intro w hS) | ((with_reducible apply l_store); assumption; rfl; rfl; (repeat (first | exact Upd.head | apply Upd.tail)); rfl; clear hS; intro w hS; simp only [splice] at hS; try rw [splice_nil] at hS))
            refine bodyPost_ret (results_tmp4 rfl _ _ _) rfl ⟨?_, hS.fr⟩
            rw [Hsp.out, HN.out]
            rfl
        · have hok : spanL (k + 1) l t (d :: r.drop i) = spanL k (64 * l + x % 64) (64 * t + x % 64) (r.drop i) := by rw [hxn]; exact spanL_ok _ _ _ _ _ (by rw [← hxn]; exact hbad)
          have HN : Hid (spanL 1 l0 l0 r = spanL k (64 * l + x % 64) (64 * t + x % 64) (r.drop i)) := Lib.hid (HT.out.trans hok)
          have hb5 : decide ((x : Int) < 128) = false := by simp; omega
          have hb6 : decide ((191 : Int) < (x : Int)) = false := by simp; omega
          clear hx hd hxn he HT hok hbad
          go_wp2_with (first | ((with_reducible apply l_want); rfl) | ((with_reducible apply l_read); rfl; exact Hx.out.fr hS.fr (by simp); rfl) | ((with_reducible apply l_alloc); assumption; rfl; clear hS; intro b w hS) | ((with_reducible apply l_box); assumption; rfl; clear hS; intro b w hS) | ((with_reducible apply l_load); assumption; rfl; (repeat (first | exact Has.head | apply Has.tail)); (first | rfl | (simp [takeV]; done))) | ((with_reducible apply l_build); rfl; (simp [fillL, splice, Value.cells, Act.eval]; rfl)) | ((with_reducible apply l_buildA); rfl; (simp [fillL, splice, Value.cells, Act.eval]; rfl)) | ((with_reducible apply l_bslice); assumption; rfl; rfl; (first | (simp [fillL, splice, zeros, Value.cells, Act.eval]; rfl) | rfl); clear hS; intro b w hS) | ((with_reducible apply l_storeF); assumption; rfl; rfl; (repeat (first | exact Upd.head | apply Upd.tail)); rfl; clear hS; intro w hS) | ((with_reducible apply l_store); assumption; rfl; rfl; (repeat (first | exact Upd.head | apply Upd.tail)); rfl; clear hS; intro w hS; simp only [splice] at hS; try rw [splice_nil] at hS))
          refine mix_start mixed (by kernel_rfl) _ (Stable.st _ _ _) hS.drew ?_
          replace hS := hS.drew
          apply mix_f 0 rfl (by kernel_rfl) rfl
          · intro w; go_wp2_with (first | ((with_reducible apply l_want); rfl)); exact ⟨rfl, Fr.refl _ _⟩
          · rfl
          apply mix_q 1 rfl (by kernel_rfl) rfl rfl
          · intro w hS; go_wp2_with (first | ((with_reducible apply l_want); rfl)); exact ⟨rfl, by first | exact Fr.refl _ _ | assumption⟩
          · rfl
          apply mix_f 2 rfl (by kernel_rfl) rfl
          · intro w; go_wp2_with (first | ((with_reducible apply l_want); rfl)); exact ⟨rfl, Fr.refl _ _⟩
          · rfl
          apply mix_f 3 rfl (by kernel_rfl) rfl
          · intro w; go_wp2_with (first | ((with_reducible apply l_want); rfl)); exact ⟨rfl, Fr.refl _ _⟩
          · rfl
          apply mix_q 4 rfl (by kernel_rfl) rfl rfl
          · intro w hS; go_wp2_with (first | ((with_reducible apply l_want); rfl)); exact ⟨rfl, by first | exact Fr.refl _ _ | assumption⟩
          · rfl
          apply mix_q 5 rfl (by kernel_rfl) rfl rfl
          · intro w hS; go_wp2_with (first | ((with_reducible apply l_want); rfl) | ((with_reducible apply l_read); rfl; exact Hx.out.fr hS.fr (by simp); rfl) | ((with_reducible apply l_load); assumption; rfl; (repeat (first | exact Has.head | apply Has.tail)); (first | rfl | (simp [takeV]; done)))); exact ⟨rfl, by first | exact Fr.refl _ _ | assumption⟩
          · rfl
          apply mix_q 6 rfl (by kernel_rfl) rfl rfl
          · intro w hS; go_wp2_with (first | ((with_reducible apply l_want); rfl)); exact ⟨rfl, by first | exact Fr.refl _ _ | assumption⟩
          · rfl
          apply mix_q 7 rfl (by kernel_rfl) rfl rfl
          · intro w hS; go_wp2_with (first | ((with_reducible apply l_want); rfl)); exact ⟨rfl, by first | exact Fr.refl _ _ | assumption⟩
          · rfl
          apply mix_q 8 rfl (by kernel_rfl) rfl rfl
          · intro w hS; go_wp2_with (first | ((with_reducible apply l_want); rfl)); exact ⟨rfl, by first | exact Fr.refl _ _ | assumption⟩
          · rfl
          apply mix_f 9 rfl (by kernel_rfl) rfl
          · intro w; go_wp2_with (first | ((with_reducible apply l_want); rfl)); exact ⟨rfl, Fr.refl _ _⟩
          · rfl
          apply mix_q 10 rfl (by kernel_rfl) rfl rfl
          · intro w hS; go_wp2_with (first | ((with_reducible apply l_want); rfl)); exact ⟨rfl, by first | exact Fr.refl _ _ | assumption⟩
          · rfl
          apply mix_f 11 rfl (by kernel_rfl) rfl
          · intro w; go_wp2_with (first | ((with_reducible apply l_want); rfl)); exact ⟨rfl, Fr.refl _ _⟩
          · rfl
          apply mix_f 12 rfl (by kernel_rfl) rfl
          · intro w; go_wp2_with (first | ((with_reducible apply l_want); rfl)); exact ⟨rfl, Fr.refl _ _⟩
          · rfl
          apply mix_q 13 rfl (by kernel_rfl) rfl rfl
          · intro w hS; go_wp2_with (first | ((with_reducible apply l_want); rfl)); exact ⟨rfl, by first | exact Fr.refl _ _ | assumption⟩
          · rfl
          apply mix_q 14 rfl (by kernel_rfl) rfl rfl
          · intro w hS; go_wp2_with (first | ((with_reducible apply l_want); rfl) | ((with_reducible apply l_read); rfl; exact Hx.out.fr hS.fr (by simp); rfl) | ((with_reducible apply l_load); assumption; rfl; (repeat (first | exact Has.head | apply Has.tail)); (first | rfl | (simp [takeV]; done)))); exact ⟨rfl, by first | exact Fr.refl _ _ | assumption⟩
          · rfl
          apply mix_q 15 rfl (by kernel_rfl) rfl rfl
          · intro w hS; go_wp2_with (first | ((with_reducible apply l_want); rfl)); exact ⟨rfl, by first | exact Fr.refl _ _ | assumption⟩
          · rfl
          apply mix_q 16 rfl (by kernel_rfl) rfl rfl
          · intro w hS; go_wp2_with (first | ((with_reducible apply l_want); rfl)); exact ⟨rfl, by first | exact Fr.refl _ _ | assumption⟩
          · rfl
          apply mix_q 17 rfl (by kernel_rfl) rfl rfl
          · intro w hS; go_wp2_with (first | ((with_reducible apply l_want); rfl)); exact ⟨rfl, by first | exact Fr.refl _ _ | assumption⟩
          · rfl
          apply mix_f 18 rfl (by kernel_rfl) rfl
          · intro w; go_wp2_with (first | ((with_reducible apply l_want); rfl)); exact ⟨rfl, Fr.refl _ _⟩
          · rfl
          apply mix_f 19 rfl (by kernel_rfl) rfl
          · intro w; go_wp2_with (first | ((with_reducible apply l_want); rfl)); exact ⟨rfl, Fr.refl _ _⟩
          · rfl
          refine mixE (by kernel_rfl) ?_
          intro w hf _; replace hS := hS.keep hf; clear hf
          go_wp2_with (first | ((with_reducible apply l_want); rfl) | ((with_reducible apply l_alloc); assumption; rfl; clear hS; intro b w hS) | ((with_reducible apply l_box); assumption; rfl; clear hS; intro b w hS) | ((with_reducible apply l_load); assumption; rfl; (repeat (first | exact Has.head | apply Has.tail)); (first | rfl | (simp [takeV]; done))) | ((with_reducible apply l_build); rfl; (simp [fillL, splice, Value.cells, Act.eval]; rfl)) | ((with_reducible apply l_buildA); rfl; (simp [fillL, splice, Value.cells, Act.eval]; rfl)) | ((with_reducible apply l_bslice); assumption; rfl; rfl; (first | (simp [fillL, splice, zeros, Value.cells, Act.eval]; rfl) | rfl); clear hS; intro b w hS) | ((with_reducible apply l_storeF); assumption; rfl; rfl; (repeat (first | exact Upd.head | apply Upd.tail)); rfl; clear hS; intro w hS) | ((with_reducible apply l_store); assumption; rfl; rfl; (repeat (first | exact Upd.head | apply Upd.tail)); rfl; clear hS; intro w hS; simp only [splice] at hS; try rw [splice_nil] at hS))
          go_roundg (gk - 1)
          case measure => omega
          case rel => exact ⟨i + 1, 64 * l + x % 64, 64 * t + x % 64, by omega, by go_num, by go_num, by go_num, by omega, by omega, by omega, by omega, by omega, (by rw [hk2]; exact HN), hS⟩
      · have hr0 : r.drop (i - 1) = [] := List.drop_eq_nil_of_le (by omega)
        have hr1 : r.drop i = [] := List.drop_eq_nil_of_le (by omega)
        rw [hr0] at HT
        have HN : Hid (spanL 1 l0 l0 r = spanL k (64 * l) (64 * t + 63) []) := Lib.hid HT.out
        clear HT
        go_wp2_with (first | ((with_reducible apply l_want); rfl) | ((with_reducible apply l_alloc); assumption; rfl; clear hS; intro b w hS) | ((with_reducible apply l_box); assumption; rfl; clear hS; intro b w hS) | ((with_reducible apply l_load); assumption; rfl; (repeat (first | exact Has.head | apply Has.tail)); (first | rfl | (simp [takeV]; done))) | ((with_reducible apply l_build); rfl; (simp [fillL, splice, Value.cells, Act.eval]; rfl)) | ((with_reducible apply l_buildA); rfl; (simp [fillL, splice, Value.cells, Act.eval]; rfl)) | ((with_reducible apply l_bslice); assumption; rfl; rfl; (first | (simp [fillL, splice, zeros, Value.cells, Act.eval]; rfl) | rfl); clear hS; intro b w hS) | ((with_reducible apply l_storeF); assumption; rfl; rfl; (repeat (first | exact Upd.head | apply Upd.tail)); rfl; clear hS; intro w hS) | ((with_reducible apply l_store); assumption; rfl; rfl; (repeat (first | exact Upd.head | apply Upd.tail)); rfl; clear hS; intro w hS; simp only [splice] at hS; try rw [splice_nil] at hS))
        go_roundg (gk - 1)
        case measure => omega
        case rel => exact ⟨i + 1, 64 * l, 64 * t + 63, by omega, by go_num, by go_num, by go_num, by omega, by omega, by omega, by omega, by omega, (by rw [hk2, Nat.add_sub_cancel, hr1]; exact HN), hS⟩
    · obtain rfl : i = 2 := by omega
      have HN : Hid (spanL 1 l0 l0 r = some (l, t)) := Lib.hid (by rw [HT.out]; exact spanL_zero _ _ _)
      clear HT
      go_wp2_with (first | ((with_reducible apply l_want); rfl) | ((with_reducible apply l_alloc); assumption; rfl; clear hS; intro b w hS) | ((with_reducible apply l_box); assumption; rfl; clear hS; intro b w hS) | ((with_reducible apply l_load); assumption; rfl; (repeat (first | exact Has.head | apply Has.tail)); (first | rfl | (simp [takeV]; done))) | ((with_reducible apply l_build); rfl; (simp [fillL, splice, Value.cells, Act.eval]; rfl)) | ((with_reducible apply l_buildA); rfl; (simp [fillL, splice, Value.cells, Act.eval]; rfl)) | ((with_reducible apply l_bslice); assumption; rfl; rfl; (first | (simp [fillL, splice, zeros, Value.cells, Act.eval]; rfl) | rfl); clear hS; intro b w hS) | ((with_reducible apply l_storeF); assumption; rfl; rfl; (repeat (first | exact Upd.head | apply Upd.tail)); rfl; clear hS; intro w hS) | ((with_reducible apply l_store); assumption; rfl; rfl; (repeat (first | exact Upd.head | apply Upd.tail)); rfl; clear hS; intro w hS; simp only [splice] at hS; try rw [splice_nil] at hS))
      refine bodyPost_ret (results_tmp4 rfl _ _ _) rfl ⟨?_, hS.fr⟩
      rw [Hsp.out, HN.out]
      rfl
theorem span_3 (w0 : World) (c : UInt8) (r : List UInt8) (A : Option Addr) (cp : Nat) (hlen : r.length + 1 ≤ 1099511627776) (h1 : 224 ≤ c.toNat ∧ c.toNat < 240) (hr : RdS w0 1 (.slice A (r.length + 1) cp) (r.length + 1) (bv (c :: r))) :
    Calls Tryz.prog 313 #[.slice A (r.length + 1) cp] w0 fun e w' => e = .returned (spanV (c :: r)) ∧ Fr [] w0 w' := by
  obtain ⟨R, hR⟩ : ∃ R, R = spanV (c :: r) := ⟨_, rfl⟩
  rw [← hR]
  have hcl : classP c.toNat = some (3, c.toNat % 16) := by
    unfold classP
    rw [if_neg (by omega), if_neg (by omega), if_pos h1]
  have hsp : R = match spanL 2 (c.toNat % 16) (c.toNat % 16) r with | none => .tuple #[.int .i64 0, .int .i64 0, .int .i64 0, .bool false] | some (l, t) => .tuple #[.int .i64 3, .int .i64 (l : Int), .int .i64 (t : Int), .bool true] := by
    rw [hR]
    unfold spanV spanP
    simp only [hcl, Nat.reduceSub]
    cases spanL 2 (c.toNat % 16) (c.toNat % 16) r <;> rfl
  have Hr := Lib.hid hr
  obtain ⟨bb, o, rfl, h0⟩ := rd_byte (b := c :: r) hr 0 (by simp)
  have H0 : Hid (Rd w0 bb o [.int .u8 (c.toNat : Int)]) := Lib.hid h0
  obtain ⟨n, hn⟩ : ∃ n, n = c.toNat := ⟨_, rfl⟩
  rw [← hn] at H0
  rw [← hn] at hsp h1
  have Hsp := Lib.hid hsp
  clear h0 hr hn hcl hsp hR
  have g1 : decide ((n : Int) < 128) = false := by simp; omega
  have g2 : decide ((n : Int) < 224) = false := by simp; omega
  have g3 : decide ((n : Int) < 240) = true := by simp; omega
  have g4 : 224 ≤ n := h1.1
  have hmod : Int.tmod (n : Int) 16 = ((n % 16 : Nat) : Int) := tmod_nat n 16
  obtain ⟨l0, hl0⟩ : ∃ l0, l0 = n % 16 := ⟨_, rfl⟩
  have hl1 : l0 < 128 := by omega
  rw [← hl0] at Hsp hmod
  clear hl0
  go_enter Tryz.func313, Tryz.ntmps313
  have hS := St.start [] w0
  go_wp2_with (first | ((with_reducible apply l_want); rfl) | ((with_reducible apply l_read); rfl; exact H0.out; rfl) | ((with_reducible apply l_alloc); assumption; rfl; clear hS; intro b w hS) | ((with_reducible apply l_box); assumption; rfl; clear hS; intro b w hS) | ((with_reducible apply l_load); assumption; rfl; (repeat (first | exact Has.head | apply Has.tail)); (first | rfl | (simp [takeV]; done))) | ((with_reducible apply l_build); rfl; (simp [fillL, splice, Value.cells, Act.eval]; rfl)) | ((with_reducible apply l_buildA); rfl; (simp [fillL, splice, Value.cells, Act.eval]; rfl)) | ((with_reducible apply l_bslice); assumption; rfl; rfl; (first | (simp [fillL, splice, zeros, Value.cells, Act.eval]; rfl) | rfl); clear hS; intro b w hS) | ((with_reducible apply l_storeF); assumption; rfl; rfl; (repeat (first | exact Upd.head | apply Upd.tail)); rfl; clear hS; intro w hS) | ((with_reducible apply l_store); assumption; rfl; rfl; (repeat (first | exact Upd.head | apply Upd.tail)); rfl; clear hS; intro w hS; simp only [splice] at hS; try rw [splice_nil] at hS))
  clear h1 g1 g2 g3 g4 hmod
  go_loopg [8, 9, 10] 2 (fun g t8 t9 t10 wr => ∃ i l t : Nat, i + g = 3 ∧ t10 = .int .i64 (i : Int) ∧ t8 = .int .i64 (l : Int) ∧ t9 = .int .i64 (t : Int) ∧ 1 ≤ i ∧ l ≤ t ∧ (i = 1 → t < 128) ∧ (i = 2 → t < 8192) ∧ (i = 3 → t < 524288) ∧ Hid (spanL 2 l0 l0 r = spanL (3 - i) l t (r.drop (i - 1))) ∧ St [] w0 wr [])
  case atStart => exact ⟨1, l0, l0, by omega, rfl, rfl, rfl, by omega, by omega, by omega, by omega, by omega, Lib.hid rfl, hS⟩
  case round =>
    obtain ⟨i, l, t, hig, rfl, rfl, rfl, hi1, hlt, hb1, hb2, hb3, HT, hS⟩ := hrel
    by_cases him : i < 3
    · have ht : t < 524288 := by omega
      obtain ⟨k, hk⟩ : ∃ k, 3 - i = k + 1 := ⟨3 - i - 1, by omega⟩
      have hk2 : 3 - (i + 1) = k := by omega
      rw [hk] at HT
      by_cases hib : i < r.length + 1
      · obtain ⟨_, _, he, hx⟩ := rd_byte (b := c :: r) Hr.out i (by simpa using hib)
        obtain ⟨rfl, rfl⟩ : bb = _ ∧ o = _ := by simpa using he
        rw [drop_at c r i hi1 hib] at HT
        obtain ⟨d, hd⟩ : ∃ d, d = (c :: r).getD i 0 := ⟨_, rfl⟩
        rw [← hd] at hx HT
        obtain ⟨x, hxn⟩ : ∃ x, x = d.toNat := ⟨_, rfl⟩
        have hx256 : x < 256 := by rw [hxn]; exact d.toNat_lt
        have hmx : Int.tmod (x : Int) 64 = ((x % 64 : Nat) : Int) := tmod_nat x 64
        rw [← hxn] at hx
        have Hx := Lib.hid hx
        by_cases hbad : x < 128 ∨ 191 < x
        · have hnone : spanL (k + 1) l t (d :: r.drop i) = none := spanL_bad _ _ _ _ _ (by rw [← hxn]; exact hbad)
          have HN : Hid (spanL 2 l0 l0 r = none) := Lib.hid (HT.out.trans hnone)
          clear hx hd hxn he HT hnone
          by_cases hb : x < 128
          · have hb3 : decide ((x : Int) < 128) = true := by simp; omega
            go_wp2_with (first | ((with_reducible apply l_want); rfl) | ((with_reducible apply l_read); rfl; exact Hx.out.fr hS.fr (by simp); rfl) | ((with_reducible apply l_alloc); assumption; rfl; clear hS; intro b w hS) | ((with_reducible apply l_box); assumption; rfl; clear hS; intro b w hS) | ((with_reducible apply l_load); assumption; rfl; (repeat (first | exact Has.head | apply Has.tail)); (first | rfl | (simp [takeV]; done))) | ((with_reducible apply l_build); rfl; (simp [fillL, splice, Value.cells, Act.eval]; rfl)) | ((with_reducible apply l_buildA); rfl; (simp [fillL, splice, Value.cells, Act.eval]; rfl)) | ((with_reducible apply l_bslice); assumption; rfl; rfl; (first | (simp [fillL, splice, zeros, Value.cells, Act.eval]; rfl) | rfl); clear hS; intro b w hS) | ((with_reducible apply l_storeF); assumption; rfl; rfl; (repeat (first | exact Upd.head | apply Upd.tail)); rfl; clear hS; intro w hS) | ((with_reducible apply l_store); assumption; rfl; rfl; (repeat (first | exact Upd.head | apply Upd.tail)); rfl; clear hS; intro w hS; simp only [splice] at hS; try rw [splice_nil] at hS))
            refine bodyPost_ret (results_tmp4 rfl _ _ _) rfl ⟨?_, hS.fr⟩
            rw [Hsp.out, HN.out]
            rfl
          · have hb3 : decide ((x : Int) < 128) = false := by simp; omega
            have hb4 : decide ((191 : Int) < (x : Int)) = true := by simp; omega
            go_wp2_with (first | ((with_reducible apply l_want); rfl) | ((with_reducible apply l_read); rfl; exact Hx.out.fr hS.fr (by simp); rfl) | ((with_reducible apply l_alloc); assumption; rfl; clear hS; intro b w hS) | ((with_reducible apply l_box); assumption; rfl; clear hS; intro b w hS) | ((with_reducible apply l_load); assumption; rfl; (repeat (first | exact Has.head | apply Has.tail)); (first | rfl | (simp [takeV]; done))) | ((with_reducible apply l_build); rfl; (simp [fillL, splice, Value.cells, Act.eval]; rfl)) | ((with_reducible apply l_buildA); rfl; (simp [fillL, splice, Value.cells, Act.eval]; rfl)) | ((with_reducible apply l_bslice); assumption; rfl; rfl; (first | (simp [fillL, splice, zeros, Value.cells, Act.eval]; rfl) | rfl); clear hS; intro b w hS) | ((with_reducible apply l_storeF); assumption; rfl; rfl; (repeat (first | exact Upd.head | apply Upd.tail)); rfl; clear hS; intro w hS) | ((with_reducible apply l_store); assumption; rfl; rfl; (repeat (first | exact Upd.head | apply Upd.tail)); rfl; clear hS; intro w hS; simp only [splice] at hS; try rw [splice_nil] at hS))
            refine bodyPost_ret (results_tmp4 rfl _ _ _) rfl ⟨?_, hS.fr⟩
            rw [Hsp.out, HN.out]
            rfl
        · have hok : spanL (k + 1) l t (d :: r.drop i) = spanL k (64 * l + x % 64) (64 * t + x % 64) (r.drop i) := by rw [hxn]; exact spanL_ok _ _ _ _ _ (by rw [← hxn]; exact hbad)
          have HN : Hid (spanL 2 l0 l0 r = spanL k (64 * l + x % 64) (64 * t + x % 64) (r.drop i)) := Lib.hid (HT.out.trans hok)
          have hb5 : decide ((x : Int) < 128) = false := by simp; omega
          have hb6 : decide ((191 : Int) < (x : Int)) = false := by simp; omega
          clear hx hd hxn he HT hok hbad
          go_wp2_with (first | ((with_reducible apply l_want); rfl) | ((with_reducible apply l_read); rfl; exact Hx.out.fr hS.fr (by simp); rfl) | ((with_reducible apply l_alloc); assumption; rfl; clear hS; intro b w hS) | ((with_reducible apply l_box); assumption; rfl; clear hS; intro b w hS) | ((with_reducible apply l_load); assumption; rfl; (repeat (first | exact Has.head | apply Has.tail)); (first | rfl | (simp [takeV]; done))) | ((with_reducible apply l_build); rfl; (simp [fillL, splice, Value.cells, Act.eval]; rfl)) | ((with_reducible apply l_buildA); rfl; (simp [fillL, splice, Value.cells, Act.eval]; rfl)) | ((with_reducible apply l_bslice); assumption; rfl; rfl; (first | (simp [fillL, splice, zeros, Value.cells, Act.eval]; rfl) | rfl); clear hS; intro b w hS) | ((with_reducible apply l_storeF); assumption; rfl; rfl; (repeat (first | exact Upd.head | apply Upd.tail)); rfl; clear hS; intro w hS) | ((with_reducible apply l_store); assumption; rfl; rfl; (repeat (first | exact Upd.head | apply Upd.tail)); rfl; clear hS; intro w hS; simp only [splice] at hS; try rw [splice_nil] at hS))
          refine mix_start mixed (by kernel_rfl) _ (Stable.st _ _ _) hS.drew ?_
          replace hS := hS.drew
          apply mix_f 0 rfl (by kernel_rfl) rfl
          · intro w; go_wp2_with (first | ((with_reducible apply l_want); rfl)); exact ⟨rfl, Fr.refl _ _⟩
          · rfl
          apply mix_q 1 rfl (by kernel_rfl) rfl rfl
          · intro w hS; go_wp2_with (first | ((with_reducible apply l_want); rfl)); exact ⟨rfl, by first | exact Fr.refl _ _ | assumption⟩
          · rfl
          apply mix_f 2 rfl (by kernel_rfl) rfl
          · intro w; go_wp2_with (first | ((with_reducible apply l_want); rfl)); exact ⟨rfl, Fr.refl _ _⟩
          · rfl
          apply mix_f 3 rfl (by kernel_rfl) rfl
          · intro w; go_wp2_with (first | ((with_reducible apply l_want); rfl)); exact ⟨rfl, Fr.refl _ _⟩
          · rfl
          apply mix_q 4 rfl (by kernel_rfl) rfl rfl
          · intro w hS; go_wp2_with (first | ((with_reducible apply l_want); rfl)); exact ⟨rfl, by first | exact Fr.refl _ _ | assumption⟩
          · rfl
          apply mix_q 5 rfl (by kernel_rfl) rfl rfl
          · intro w hS; go_wp2_with (first | ((with_reducible apply l_want); rfl) | ((with_reducible apply l_read); rfl; exact Hx.out.fr hS.fr (by simp); rfl) | ((with_reducible apply l_load); assumption; rfl; (repeat (first | exact Has.head | apply Has.tail)); (first | rfl | (simp [takeV]; done)))); exact ⟨rfl, by first | exact Fr.refl _ _ | assumption⟩
          · rfl
          apply mix_q 6 rfl (by kernel_rfl) rfl rfl
          · intro w hS; go_wp2_with (first | ((with_reducible apply l_want); rfl)); exact ⟨rfl, by first | exact Fr.refl _ _ | assumption⟩
          · rfl
          apply mix_q 7 rfl (by kernel_rfl) rfl rfl
          · intro w hS; go_wp2_with (first | ((with_reducible apply l_want); rfl)); exact ⟨rfl, by first | exact Fr.refl _ _ | assumption⟩
          · rfl
          apply mix_q 8 rfl (by kernel_rfl) rfl rfl
          · intro w hS; go_wp2_with (first | ((with_reducible apply l_want); rfl)); exact ⟨rfl, by first | exact Fr.refl _ _ | assumption⟩
          · rfl
          apply mix_f 9 rfl (by kernel_rfl) rfl
          · intro w; go_wp2_with (first | ((with_reducible apply l_want); rfl)); exact ⟨rfl, Fr.refl _ _⟩
          · rfl
          apply mix_q 10 rfl (by kernel_rfl) rfl rfl
          · intro w hS; go_wp2_with (first | ((with_reducible apply l_want); rfl)); exact ⟨rfl, by first | exact Fr.refl _ _ | assumption⟩
          · rfl
          apply mix_f 11 rfl (by kernel_rfl) rfl
          · intro w; go_wp2_with (first | ((with_reducible apply l_want); rfl)); exact ⟨rfl, Fr.refl _ _⟩
          · rfl
          apply mix_f 12 rfl (by kernel_rfl) rfl
          · intro w; go_wp2_with (first | ((with_reducible apply l_want); rfl)); exact ⟨rfl, Fr.refl _ _⟩
          · rfl
          apply mix_q 13 rfl (by kernel_rfl) rfl rfl
          · intro w hS; go_wp2_with (first | ((with_reducible apply l_want); rfl)); exact ⟨rfl, by first | exact Fr.refl _ _ | assumption⟩
          · rfl
          apply mix_q 14 rfl (by kernel_rfl) rfl rfl
          · intro w hS; go_wp2_with (first | ((with_reducible apply l_want); rfl) | ((with_reducible apply l_read); rfl; exact Hx.out.fr hS.fr (by simp); rfl) | ((with_reducible apply l_load); assumption; rfl; (repeat (first | exact Has.head | apply Has.tail)); (first | rfl | (simp [takeV]; done)))); exact ⟨rfl, by first | exact Fr.refl _ _ | assumption⟩
          · rfl
          apply mix_q 15 rfl (by kernel_rfl) rfl rfl
          · intro w hS; go_wp2_with (first | ((with_reducible apply l_want); rfl)); exact ⟨rfl, by first | exact Fr.refl _ _ | assumption⟩
          · rfl
          apply mix_q 16 rfl (by kernel_rfl) rfl rfl
          · intro w hS; go_wp2_with (first | ((with_reducible apply l_want); rfl)); exact ⟨rfl, by first | exact Fr.refl _ _ | assumption⟩
          · rfl
          apply mix_q 17 rfl (by kernel_rfl) rfl rfl
          · intro w hS; go_wp2_with (first | ((with_reducible apply l_want); rfl)); exact ⟨rfl, by first | exact Fr.refl _ _ | assumption⟩
          · rfl
          apply mix_f 18 rfl (by kernel_rfl) rfl
          · intro w; go_wp2_with (first | ((with_reducible apply l_want); rfl)); exact ⟨rfl, Fr.refl _ _⟩
          · rfl
          apply mix_f 19 rfl (by kernel_rfl) rfl
          · intro w; go_wp2_with (first | ((with_reducible apply l_want); rfl)); exact ⟨rfl, Fr.refl _ _⟩
          · rfl
          refine mixE (by kernel_rfl) ?_
          intro w hf _; replace hS := hS.keep hf; clear hf
          go_wp2_with (first | ((with_reducible apply l_want); rfl) | ((with_reducible apply l_alloc); assumption; rfl; clear hS; intro b w hS) | ((with_reducible apply l_box); assumption; rfl; clear hS; intro b w hS) | ((with_reducible apply l_load); assumption; rfl; (repeat (first | exact Has.head | apply Has.tail)); (first | rfl | (simp [takeV]; done))) | ((with_reducible apply l_build); rfl; (simp [fillL, splice, Value.cells, Act.eval]; rfl)) | ((with_reducible apply l_buildA); rfl; (simp [fillL, splice, Value.cells, Act.eval]; rfl)) | ((with_reducible apply l_bslice); assumption; rfl; rfl; (first | (simp [fillL, splice, zeros, Value.cells, Act.eval]; rfl) | rfl); clear hS; intro b w hS) | ((with_reducible apply l_storeF); assumption; rfl; rfl; (repeat (first | exact Upd.head | apply Upd.tail)); rfl; clear hS; intro w hS) | ((with_reducible apply l_store); assumption; rfl; rfl; (repeat (first | exact Upd.head | apply Upd.tail)); rfl; clear hS; intro w hS; simp only [splice] at hS; try rw [splice_nil] at hS))
          go_roundg (gk - 1)
          case measure => omega
          case rel => exact ⟨i + 1, 64 * l + x % 64, 64 * t + x % 64, by omega, by go_num, by go_num, by go_num, by omega, by omega, by omega, by omega, by omega, (by rw [hk2]; exact HN), hS⟩
      · have hr0 : r.drop (i - 1) = [] := List.drop_eq_nil_of_le (by omega)
        have hr1 : r.drop i = [] := List.drop_eq_nil_of_le (by omega)
        rw [hr0] at HT
        have HN : Hid (spanL 2 l0 l0 r = spanL k (64 * l) (64 * t + 63) []) := Lib.hid HT.out
        clear HT
        go_wp2_with (first | ((with_reducible apply l_want); rfl) | ((with_reducible apply l_alloc); assumption; rfl; clear hS; intro b w hS) | ((with_reducible apply l_box); assumption; rfl; clear hS; intro b w hS) | ((with_reducible apply l_load); assumption; rfl; (repeat (first | exact Has.head | apply Has.tail)); (first | rfl | (simp [takeV]; done))) | ((with_reducible apply l_build); rfl; (simp [fillL, splice, Value.cells, Act.eval]; rfl)) | ((with_reducible apply l_buildA); rfl; (simp [fillL, splice, Value.cells, Act.eval]; rfl)) | ((with_reducible apply l_bslice); assumption; rfl; rfl; (first | (simp [fillL, splice, zeros, Value.cells, Act.eval]; rfl) | rfl); clear hS; intro b w hS) | ((with_reducible apply l_storeF); assumption; rfl; rfl; (repeat (first | exact Upd.head | apply Upd.tail)); rfl; clear hS; intro w hS) | ((with_reducible apply l_store); assumption; rfl; rfl; (repeat (first | exact Upd.head | apply Upd.tail)); rfl; clear hS; intro w hS; simp only [splice] at hS; try rw [splice_nil] at hS))
        go_roundg (gk - 1)
        case measure => omega
        case rel => exact ⟨i + 1, 64 * l, 64 * t + 63, by omega, by go_num, by go_num, by go_num, by omega, by omega, by omega, by omega, by omega, (by rw [hk2, Nat.add_sub_cancel, hr1]; exact HN), hS⟩
    · obtain rfl : i = 3 := by omega
      have HN : Hid (spanL 2 l0 l0 r = some (l, t)) := Lib.hid (by rw [HT.out]; exact spanL_zero _ _ _)
      clear HT
      go_wp2_with (first | ((with_reducible apply l_want); rfl) | ((with_reducible apply l_alloc); assumption; rfl; clear hS; intro b w hS) | ((with_reducible apply l_box); assumption; rfl; clear hS; intro b w hS) | ((with_reducible apply l_load); assumption; rfl; (repeat (first | exact Has.head | apply Has.tail)); (first | rfl | (simp [takeV]; done))) | ((with_reducible apply l_build); rfl; (simp [fillL, splice, Value.cells, Act.eval]; rfl)) | ((with_reducible apply l_buildA); rfl; (simp [fillL, splice, Value.cells, Act.eval]; rfl)) | ((with_reducible apply l_bslice); assumption; rfl; rfl; (first | (simp [fillL, splice, zeros, Value.cells, Act.eval]; rfl) | rfl); clear hS; intro b w hS) | ((with_reducible apply l_storeF); assumption; rfl; rfl; (repeat (first | exact Upd.head | apply Upd.tail)); rfl; clear hS; intro w hS) | ((with_reducible apply l_store); assumption; rfl; rfl; (repeat (first | exact Upd.head | apply Upd.tail)); rfl; clear hS; intro w hS; simp only [splice] at hS; try rw [splice_nil] at hS))
      refine bodyPost_ret (results_tmp4 rfl _ _ _) rfl ⟨?_, hS.fr⟩
      rw [Hsp.out, HN.out]
      rfl
theorem span_4 (w0 : World) (c : UInt8) (r : List UInt8) (A : Option Addr) (cp : Nat) (hlen : r.length + 1 ≤ 1099511627776) (h1 : 240 ≤ c.toNat ∧ c.toNat < 248) (hr : RdS w0 1 (.slice A (r.length + 1) cp) (r.length + 1) (bv (c :: r))) :
    Calls Tryz.prog 313 #[.slice A (r.length + 1) cp] w0 fun e w' => e = .returned (spanV (c :: r)) ∧ Fr [] w0 w' := by
  obtain ⟨R, hR⟩ : ∃ R, R = spanV (c :: r) := ⟨_, rfl⟩
  rw [← hR]
  have hcl : classP c.toNat = some (4, c.toNat % 8) := by
    unfold classP
    rw [if_neg (by omega), if_neg (by omega), if_neg (by omega), if_pos h1]
  have hsp : R = match spanL 3 (c.toNat % 8) (c.toNat % 8) r with | none => .tuple #[.int .i64 0, .int .i64 0, .int .i64 0, .bool false] | some (l, t) => .tuple #[.int .i64 4, .int .i64 (l : Int), .int .i64 (t : Int), .bool true] := by
    rw [hR]
    unfold spanV spanP
    simp only [hcl, Nat.reduceSub]
    cases spanL 3 (c.toNat % 8) (c.toNat % 8) r <;> rfl
  have Hr := Lib.hid hr
  obtain ⟨bb, o, rfl, h0⟩ := rd_byte (b := c :: r) hr 0 (by simp)
  have H0 : Hid (Rd w0 bb o [.int .u8 (c.toNat : Int)]) := Lib.hid h0
  obtain ⟨n, hn⟩ : ∃ n, n = c.toNat := ⟨_, rfl⟩
  rw [← hn] at H0
  rw [← hn] at hsp h1
  have Hsp := Lib.hid hsp
  clear h0 hr hn hcl hsp hR
  have g1 : decide ((n : Int) < 128) = false := by simp; omega
  have g2 : decide ((n : Int) < 224) = false := by simp; omega
  have g3 : decide ((n : Int) < 240) = false := by simp; omega
  have g4 : decide ((n : Int) < 248) = true := by simp; omega
  have g5 : 240 ≤ n := h1.1
  have hmod : Int.tmod (n : Int) 8 = ((n % 8 : Nat) : Int) := tmod_nat n 8
  obtain ⟨l0, hl0⟩ : ∃ l0, l0 = n % 8 := ⟨_, rfl⟩
  have hl1 : l0 < 128 := by omega
  rw [← hl0] at Hsp hmod
  clear hl0
  go_enter Tryz.func313, Tryz.ntmps313
  have hS := St.start [] w0
  go_wp2_with (first | ((with_reducible apply l_want); rfl) | ((with_reducible apply l_read); rfl; exact H0.out; rfl) | ((with_reducible apply l_alloc); assumption; rfl; clear hS; intro b w hS) | ((with_reducible apply l_box); assumption; rfl; clear hS; intro b w hS) | ((with_reducible apply l_load); assumption; rfl; (repeat (first | exact Has.head | apply Has.tail)); (first | rfl | (simp [takeV]; done))) | ((with_reducible apply l_build); rfl; (simp [fillL, splice, Value.cells, Act.eval]; rfl)) | ((with_reducible apply l_buildA); rfl; (simp [fillL, splice, Value.cells, Act.eval]; rfl)) | ((with_reducible apply l_bslice); assumption; rfl; rfl; (first | (simp [fillL, splice, zeros, Value.cells, Act.eval]; rfl) | rfl); clear hS; intro b w hS) | ((with_reducible apply l_storeF); assumption; rfl; rfl; (repeat (first | exact Upd.head | apply Upd.tail)); rfl; clear hS; intro w hS) | ((with_reducible apply l_store); assumption; rfl; rfl; (repeat (first | exact Upd.head | apply Upd.tail)); rfl; clear hS; intro w hS; simp only [splice] at hS; try rw [splice_nil] at hS))
  clear h1 g1 g2 g3 g4 g5 hmod
  go_loopg [8, 9, 10] 3 (fun g t8 t9 t10 wr => ∃ i l t : Nat, i + g = 4 ∧ t10 = .int .i64 (i : Int) ∧ t8 = .int .i64 (l : Int) ∧ t9 = .int .i64 (t : Int) ∧ 1 ≤ i ∧ l ≤ t ∧ (i = 1 → t < 128) ∧ (i = 2 → t < 8192) ∧ (i = 3 → t < 524288) ∧ Hid (spanL 3 l0 l0 r = spanL (4 - i) l t (r.drop (i - 1))) ∧ St [] w0 wr [])
  case atStart => exact ⟨1, l0, l0, by omega, rfl, rfl, rfl, by omega, by omega, by omega, by omega, by omega, Lib.hid rfl, hS⟩
  case round =>
    obtain ⟨i, l, t, hig, rfl, rfl, rfl, hi1, hlt, hb1, hb2, hb3, HT, hS⟩ := hrel
    by_cases him : i < 4
    · have ht : t < 524288 := by omega
      obtain ⟨k, hk⟩ : ∃ k, 4 - i = k + 1 := ⟨4 - i - 1, by omega⟩
      have hk2 : 4 - (i + 1) = k := by omega
      rw [hk] at HT
      by_cases hib : i < r.length + 1
      · obtain ⟨_, _, he, hx⟩ := rd_byte (b := c :: r) Hr.out i (by simpa using hib)
        obtain ⟨rfl, rfl⟩ : bb = _ ∧ o = _ := by simpa using he
        rw [drop_at c r i hi1 hib] at HT
        obtain ⟨d, hd⟩ : ∃ d, d = (c :: r).getD i 0 := ⟨_, rfl⟩
        rw [← hd] at hx HT
        obtain ⟨x, hxn⟩ : ∃ x, x = d.toNat := ⟨_, rfl⟩
        have hx256 : x < 256 := by rw [hxn]; exact d.toNat_lt
        have hmx : Int.tmod (x : Int) 64 = ((x % 64 : Nat) : Int) := tmod_nat x 64
        rw [← hxn] at hx
        have Hx := Lib.hid hx
        by_cases hbad : x < 128 ∨ 191 < x
        · have hnone : spanL (k + 1) l t (d :: r.drop i) = none := spanL_bad _ _ _ _ _ (by rw [← hxn]; exact hbad)
          have HN : Hid (spanL 3 l0 l0 r = none) := Lib.hid (HT.out.trans hnone)
          clear hx hd hxn he HT hnone
          by_cases hb : x < 128
          · have hb3 : decide ((x : Int) < 128) = true := by simp; omega
            go_wp2_with (first | ((with_reducible apply l_want); rfl) | ((with_reducible apply l_read); rfl; exact Hx.out.fr hS.fr (by simp); rfl) | ((with_reducible apply l_alloc); assumption; rfl; clear hS; intro b w hS) | ((with_reducible apply l_box); assumption; rfl; clear hS; intro b w hS) | ((with_reducible apply l_load); assumption; rfl; (repeat (first | exact Has.head | apply Has.tail)); (first | rfl | (simp [takeV]; done))) | ((with_reducible apply l_build); rfl; (simp [fillL, splice, Value.cells, Act.eval]; rfl)) | ((with_reducible apply l_buildA); rfl; (simp [fillL, splice, Value.cells, Act.eval]; rfl)) | ((with_reducible apply l_bslice); assumption; rfl; rfl; (first | (simp [fillL, splice, zeros, Value.cells, Act.eval]; rfl) | rfl); clear hS; intro b w hS) | ((with_reducible apply l_storeF); assumption; rfl; rfl; (repeat (first | exact Upd.head | apply Upd.tail)); rfl; clear hS; intro w hS) | ((with_reducible apply l_store); assumption; rfl; rfl; (repeat (first | exact Upd.head | apply Upd.tail)); rfl; clear hS; intro w hS; simp only [splice] at hS; try rw [splice_nil] at hS))
            refine bodyPost_ret (results_tmp4 rfl _ _ _) rfl ⟨?_, hS.fr⟩
            rw [Hsp.out, HN.out]
            rfl
          · have hb3 : decide ((x : Int) < 128) = false := by simp; omega
            have hb4 : decide ((191 : Int) < (x : Int)) = true := by simp; omega
            go_wp2_with (first | ((with_reducible apply l_want); rfl) | ((with_reducible apply l_read); rfl; exact Hx.out.fr hS.fr (by simp); rfl) | ((with_reducible apply l_alloc); assumption; rfl; clear hS; intro b w hS) | ((with_reducible apply l_box); assumption; rfl; clear hS; intro b w hS) | ((with_reducible apply l_load); assumption; rfl; (repeat (first | exact Has.head | apply Has.tail)); (first | rfl | (simp [takeV]; done))) | ((with_reducible apply l_build); rfl; (simp [fillL, splice, Value.cells, Act.eval]; rfl)) | ((with_reducible apply l_buildA); rfl; (simp [fillL, splice, Value.cells, Act.eval]; rfl)) | ((with_reducible apply l_bslice); assumption; rfl; rfl; (first | (simp [fillL, splice, zeros, Value.cells, Act.eval]; rfl) | rfl); clear hS; intro b w hS) | ((with_reducible apply l_storeF); assumption; rfl; rfl; (repeat (first | exact Upd.head | apply Upd.tail)); rfl; clear hS; intro w hS) | ((with_reducible apply l_store); assumption; rfl; rfl; (repeat (first | exact Upd.head | apply Upd.tail)); rfl; clear hS; intro w hS; simp only [splice] at hS; try rw [splice_nil] at hS))
            refine bodyPost_ret (results_tmp4 rfl _ _ _) rfl ⟨?_, hS.fr⟩
            rw [Hsp.out, HN.out]
            rfl
        · have hok : spanL (k + 1) l t (d :: r.drop i) = spanL k (64 * l + x % 64) (64 * t + x % 64) (r.drop i) := by rw [hxn]; exact spanL_ok _ _ _ _ _ (by rw [← hxn]; exact hbad)
          have HN : Hid (spanL 3 l0 l0 r = spanL k (64 * l + x % 64) (64 * t + x % 64) (r.drop i)) := Lib.hid (HT.out.trans hok)
          have hb5 : decide ((x : Int) < 128) = false := by simp; omega
          have hb6 : decide ((191 : Int) < (x : Int)) = false := by simp; omega
          clear hx hd hxn he HT hok hbad
          go_wp2_with (first | ((with_reducible apply l_want); rfl) | ((with_reducible apply l_read); rfl; exact Hx.out.fr hS.fr (by simp); rfl) | ((with_reducible apply l_alloc); assumption; rfl; clear hS; intro b w hS) | ((with_reducible apply l_box); assumption; rfl; clear hS; intro b w hS) | ((with_reducible apply l_load); assumption; rfl; (repeat (first | exact Has.head | apply Has.tail)); (first | rfl | (simp [takeV]; done))) | ((with_reducible apply l_build); rfl; (simp [fillL, splice, Value.cells, Act.eval]; rfl)) | ((with_reducible apply l_buildA); rfl; (simp [fillL, splice, Value.cells, Act.eval]; rfl)) | ((with_reducible apply l_bslice); assumption; rfl; rfl; (first | (simp [fillL, splice, zeros, Value.cells, Act.eval]; rfl) | rfl); clear hS; intro b w hS) | ((with_reducible apply l_storeF); assumption; rfl; rfl; (repeat (first | exact Upd.head | apply Upd.tail)); rfl; clear hS; intro w hS) | ((with_reducible apply l_store); assumption; rfl; rfl; (repeat (first | exact Upd.head | apply Upd.tail)); rfl; clear hS; intro w hS; simp only [splice] at hS; try rw [splice_nil] at hS))
          refine mix_start mixed (by kernel_rfl) _ (Stable.st _ _ _) hS.drew ?_
          replace hS := hS.drew
          apply mix_f 0 rfl (by kernel_rfl) rfl
          · intro w; go_wp2_with (first | ((with_reducible apply l_want); rfl)); exact ⟨rfl, Fr.refl _ _⟩
          · rfl
          apply mix_q 1 rfl (by kernel_rfl) rfl rfl
          · intro w hS; go_wp2_with (first | ((with_reducible apply l_want); rfl)); exact ⟨rfl, by first | exact Fr.refl _ _ | assumption⟩
          · rfl
          apply mix_f 2 rfl (by kernel_rfl) rfl
          · intro w; go_wp2_with (first | ((with_reducible apply l_want); rfl)); exact ⟨rfl, Fr.refl _ _⟩
          · rfl
          apply mix_f 3 rfl (by kernel_rfl) rfl
          · intro w; go_wp2_with (first | ((with_reducible apply l_want); rfl)); exact ⟨rfl, Fr.refl _ _⟩
          · rfl
          apply mix_q 4 rfl (by kernel_rfl) rfl rfl
          · intro w hS; go_wp2_with (first | ((with_reducible apply l_want); rfl)); exact ⟨rfl, by first | exact Fr.refl _ _ | assumption⟩
          · rfl
          apply mix_q 5 rfl (by kernel_rfl) rfl rfl
          · intro w hS; go_wp2_with (first | ((with_reducible apply l_want); rfl) | ((with_reducible apply l_read); rfl; exact Hx.out.fr hS.fr (by simp); rfl) | ((with_reducible apply l_load); assumption; rfl; (repeat (first | exact Has.head | apply Has.tail)); (first | rfl | (simp [takeV]; done)))); exact ⟨rfl, by first | exact Fr.refl _ _ | assumption⟩
          · rfl
          apply mix_q 6 rfl (by kernel_rfl) rfl rfl
          · intro w hS; go_wp2_with (first | ((with_reducible apply l_want); rfl)); exact ⟨rfl, by first | exact Fr.refl _ _ | assumption⟩
          · rfl
          apply mix_q 7 rfl (by kernel_rfl) rfl rfl
          · intro w hS; go_wp2_with (first | ((with_reducible apply l_want); rfl)); exact ⟨rfl, by first | exact Fr.refl _ _ | assumption⟩
          · rfl
          apply mix_q 8 rfl (by kernel_rfl) rfl rfl
          · intro w hS; go_wp2_with (first | ((with_reducible apply l_want); rfl)); exact ⟨rfl, by first | exact Fr.refl _ _ | assumption⟩
          · rfl
          apply mix_f 9 rfl (by kernel_rfl) rfl
          · intro w; go_wp2_with (first | ((with_reducible apply l_want); rfl)); exact ⟨rfl, Fr.refl _ _⟩
          · rfl
          apply mix_q 10 rfl (by kernel_rfl) rfl rfl
          · intro w hS; go_wp2_with (first | ((with_reducible apply l_want); rfl)); exact ⟨rfl, by first | exact Fr.refl _ _ | assumption⟩
          · rfl
          apply mix_f 11 rfl (by kernel_rfl) rfl
          · intro w; go_wp2_with (first | ((with_reducible apply l_want); rfl)); exact ⟨rfl, Fr.refl _ _⟩
          · rfl
          apply mix_f 12 rfl (by kernel_rfl) rfl
          · intro w; go_wp2_with (first | ((with_reducible apply l_want); rfl)); exact ⟨rfl, Fr.refl _ _⟩
          · rfl
          apply mix_q 13 rfl (by kernel_rfl) rfl rfl
          · intro w hS; go_wp2_with (first | ((with_reducible apply l_want); rfl)); exact ⟨rfl, by first | exact Fr.refl _ _ | assumption⟩
          · rfl
          apply mix_q 14 rfl (by kernel_rfl) rfl rfl
          · intro w hS; go_wp2_with (first | ((with_reducible apply l_want); rfl) | ((with_reducible apply l_read); rfl; exact Hx.out.fr hS.fr (by simp); rfl) | ((with_reducible apply l_load); assumption; rfl; (repeat (first | exact Has.head | apply Has.tail)); (first | rfl | (simp [takeV]; done)))); exact ⟨rfl, by first | exact Fr.refl _ _ | assumption⟩
          · rfl
          apply mix_q 15 rfl (by kernel_rfl) rfl rfl
          · intro w hS; go_wp2_with (first | ((with_reducible apply l_want); rfl)); exact ⟨rfl, by first | exact Fr.refl _ _ | assumption⟩
          · rfl
          apply mix_q 16 rfl (by kernel_rfl) rfl rfl
          · intro w hS; go_wp2_with (first | ((with_reducible apply l_want); rfl)); exact ⟨rfl, by first | exact Fr.refl _ _ | assumption⟩
          · rfl
          apply mix_q 17 rfl (by kernel_rfl) rfl rfl
          · intro w hS; go_wp2_with (first | ((with_reducible apply l_want); rfl)); exact ⟨rfl, by first | exact Fr.refl _ _ | assumption⟩
          · rfl
          apply mix_f 18 rfl (by kernel_rfl) rfl
          · intro w; go_wp2_with (first | ((with_reducible apply l_want); rfl)); exact ⟨rfl, Fr.refl _ _⟩
          · rfl
          apply mix_f 19 rfl (by kernel_rfl) rfl
          · intro w; go_wp2_with (first | ((with_reducible apply l_want); rfl)); exact ⟨rfl, Fr.refl _ _⟩
          · rfl
          refine mixE (by kernel_rfl) ?_
          intro w hf _; replace hS := hS.keep hf; clear hf
          go_wp2_with (first | ((with_reducible apply l_want); rfl) | ((with_reducible apply l_alloc); assumption; rfl; clear hS; intro b w hS) | ((with_reducible apply l_box); assumption; rfl; clear hS; intro b w hS) | ((with_reducible apply l_load); assumption; rfl; (repeat (first | exact Has.head | apply Has.tail)); (first | rfl | (simp [takeV]; done))) | ((with_reducible apply l_build); rfl; (simp [fillL, splice, Value.cells, Act.eval]; rfl)) | ((with_reducible apply l_buildA); rfl; (simp [fillL, splice, Value.cells, Act.eval]; rfl)) | ((with_reducible apply l_bslice); assumption; rfl; rfl; (first | (simp [fillL, splice, zeros, Value.cells, Act.eval]; rfl) | rfl); clear hS; intro b w hS) | ((with_reducible apply l_storeF); assumption; rfl; rfl; (repeat (first | exact Upd.head | apply Upd.tail)); rfl; clear hS; intro w hS) | ((with_reducible apply l_store); assumption; rfl; rfl; (repeat (first | exact Upd.head | apply Upd.tail)); rfl; clear hS; intro w hS; simp only [splice] at hS; try rw [splice_nil] at hS))
          go_roundg (gk - 1)
          case measure => omega
          case rel => exact ⟨i + 1, 64 * l + x % 64, 64 * t + x % 64, by omega, by go_num, by go_num, by go_num, by omega, by omega, by omega, by omega, by omega, (by rw [hk2]; exact HN), hS⟩
      · have hr0 : r.drop (i - 1) = [] := List.drop_eq_nil_of_le (by omega)
        have hr1 : r.drop i = [] := List.drop_eq_nil_of_le (by omega)
        rw [hr0] at HT
        have HN : Hid (spanL 3 l0 l0 r = spanL k (64 * l) (64 * t + 63) []) := Lib.hid HT.out
        clear HT
        go_wp2_with (first | ((with_reducible apply l_want); rfl) | ((with_reducible apply l_alloc); assumption; rfl; clear hS; intro b w hS) | ((with_reducible apply l_box); assumption; rfl; clear hS; intro b w hS) | ((with_reducible apply l_load); assumption; rfl; (repeat (first | exact Has.head | apply Has.tail)); (first | rfl | (simp [takeV]; done))) | ((with_reducible apply l_build); rfl; (simp [fillL, splice, Value.cells, Act.eval]; rfl)) | ((with_reducible apply l_buildA); rfl; (simp [fillL, splice, Value.cells, Act.eval]; rfl)) | ((with_reducible apply l_bslice); assumption; rfl; rfl; (first | (simp [fillL, splice, zeros, Value.cells, Act.eval]; rfl) | rfl); clear hS; intro b w hS) | ((with_reducible apply l_storeF); assumption; rfl; rfl; (repeat (first | exact Upd.head | apply Upd.tail)); rfl; clear hS; intro w hS) | ((with_reducible apply l_store); assumption; rfl; rfl; (repeat (first | exact Upd.head | apply Upd.tail)); rfl; clear hS; intro w hS; simp only [splice] at hS; try rw [splice_nil] at hS))
        go_roundg (gk - 1)
        case measure => omega
        case rel => exact ⟨i + 1, 64 * l, 64 * t + 63, by omega, by go_num, by go_num, by go_num, by omega, by omega, by omega, by omega, by omega, (by rw [hk2, Nat.add_sub_cancel, hr1]; exact HN), hS⟩
    · obtain rfl : i = 4 := by omega
      have HN : Hid (spanL 3 l0 l0 r = some (l, t)) := Lib.hid (by rw [HT.out]; exact spanL_zero _ _ _)
      clear HT
      go_wp2_with (first | ((with_reducible apply l_want); rfl) | ((with_reducible apply l_alloc); assumption; rfl; clear hS; intro b w hS) | ((with_reducible apply l_box); assumption; rfl; clear hS; intro b w hS) | ((with_reducible apply l_load); assumption; rfl; (repeat (first | exact Has.head | apply Has.tail)); (first | rfl | (simp [takeV]; done))) | ((with_reducible apply l_build); rfl; (simp [fillL, splice, Value.cells, Act.eval]; rfl)) | ((with_reducible apply l_buildA); rfl; (simp [fillL, splice, Value.cells, Act.eval]; rfl)) | ((with_reducible apply l_bslice); assumption; rfl; rfl; (first | (simp [fillL, splice, zeros, Value.cells, Act.eval]; rfl) | rfl); clear hS; intro b w hS) | ((with_reducible apply l_storeF); assumption; rfl; rfl; (repeat (first | exact Upd.head | apply Upd.tail)); rfl; clear hS; intro w hS) | ((with_reducible apply l_store); assumption; rfl; rfl; (repeat (first | exact Upd.head | apply Upd.tail)); rfl; clear hS; intro w hS; simp only [splice] at hS; try rw [splice_nil] at hS))
      refine bodyPost_ret (results_tmp4 rfl _ _ _) rfl ⟨?_, hS.fr⟩
      rw [Hsp.out, HN.out]
      rfl
end Go.Proofs.YtaejmginhkbbhaaGreatDoor
