/- The walks through package decimal, first part: the text of a number (F241, F195, F196, F126). Conditions: as each contract says. -/
import Derived.Test.YtaejmginhkbbhaaGreatDoorW8
import Derived.Lib.ItoaMem
set_option linter.unusedSimpArgs false
set_option linter.unusedVariables false
set_option maxRecDepth 100000
set_option maxHeartbeats 1000000
namespace Go.Proofs.YtaejmginhkbbhaaGreatDoor
open Go Go.RowKit
theorem pow10_at : ∃ g, Tryz.prog.globalNamed "internal/strconv.uint64pow10" = some g ∧ g < 64 := by
  have h : (match Tryz.prog.globalNamed "internal/strconv.uint64pow10" with | some g => decide (g < 64) | none => false) = true := by kernel_rfl
  cases hg : Tryz.prog.globalNamed "internal/strconv.uint64pow10" with
  | none => rw [hg] at h; cases h
  | some g => rw [hg] at h; exact ⟨g, rfl, by simpa using h⟩
theorem tabIs_fr {w W : World} {S : List Nat} {z : List Int} {k : IntKind} (h : Lib.TabIs Tryz.prog w "internal/strconv.uint64pow10" k z) (hf : Fr S w W) (h0 : ∀ b ∈ S, 64 ≤ b) : Lib.TabIs Tryz.prog W "internal/strconv.uint64pow10" k z := by
  obtain ⟨g, hg, hlt⟩ := pow10_at
  unfold Lib.TabIs World.var? at h ⊢
  rw [hg] at h ⊢
  simp only [Option.bind_some] at h ⊢
  have hsz : g < w.heap.size := by
    cases he : w.heap[g]? with
    | none => rw [he] at h; cases h
    | some o => exact (Array.getElem?_eq_some_iff.1 he).1
  rw [hf.block g hsz (fun hm => by have := h0 g hm; omega)]
  exact h
/-- What the named variables of the library hold, the table of powers of ten among them. -/
structure GlobT (w : World) : Prop where
  base : Glob w
  pow10 : Lib.TabIs Tryz.prog w "internal/strconv.uint64pow10" .u64 Lib.pow10Tab
theorem GlobT.keep {w W : World} (h : GlobT w) (hf : Fr [] w W) : GlobT W := ⟨h.base.keep hf, tabIs_fr h.pow10 hf (by simp)⟩
theorem fr_putRow {α : Type} [Inhabited α] (enc : α → Value) (W : World) (b off : Nat) (d : Array α) : Fr [b] W (Go.Sort.putRow enc W b off d) := by
  refine ⟨rfl, rfl, rfl, by simp, fun k hk hn => ?_⟩
  have hne : b ≠ k := by rintro rfl; exact hn (by simp)
  simp [Go.Sort.putRow, Go.Sort.mapBlock, Array.getElem?_modify, hne]
theorem fmt_c (w0 W : World) (L : List Chunk) (b u nd n cap : Nat) (hS : St [] w0 W (row b 396 (List.replicate n (.int .u8 0)) :: L)) (hn : nd ≤ n) (hnd : nd = Lib.nDigits u) (hu64 : u < 18446744073709551616) (hcap : nd ≤ cap) (h1 : nd ≤ 20) :
    Calls Tryz.prog 285 #[.slice (some ⟨b, 0, none⟩) nd cap, .int .u64 (u : Int)] W fun e w' => (∃ v, e = .returned v) ∧ St [] w0 w' (rdS 1 (.slice (some ⟨b, 0, none⟩) nd cap) nd (bv (Lib.decDigits u)) :: L) := by
  have hrow : (row b 396 (List.replicate n (.int .u8 0))).ok W := hS.get (by exact Has.head)
  have hH0 : Go.Sort.Holds (fun (c : UInt8) => Value.int .u8 (c.toNat : Int)) W b 0 (Array.replicate nd (0 : UInt8)) := by
    intro j hj
    have hj' : j < nd := by simpa using hj
    refine ⟨?_, ?_⟩
    · rw [Rd.of_row hrow j (.int .u8 0) (by rw [List.getElem?_replicate, if_pos (by omega)]), getElem!_pos _ j hj]
      simp
    · have hb : W.heap[b]? = some (.cells ⟨List.replicate n (.int .u8 0)⟩ 396 (0, 0)) := hrow
      unfold World.frozen?
      simp only [hb]
      simp
  have hlt : u < 10 ^ (Array.replicate nd (0 : UInt8)).size := by rw [Array.size_replicate, hnd]; exact Lib.lt_pow_nDigits u
  have hfmt := Tryz.internal_strconv_formatBase10 b 0 cap u (Array.replicate nd (0 : UInt8)) W hH0 hlt hu64 (by rw [Array.size_replicate]; omega)
  rw [Array.size_replicate] at hfmt
  refine hfmt.mono ?_
  rintro e w' ⟨rfl, k, v', dk, rfl, hF⟩
  refine ⟨⟨_, rfl⟩, ?_⟩
  have hf : Fr [b] W ((Go.Sort.putRow (fun (c : UInt8) => Value.int .u8 (c.toNat : Int)) W b 0 dk).drewN k) := (fr_putRow _ W b 0 dk).trans (Fr.drewN _ _ _)
  have hlen : (Lib.decDigits u).length = nd := by rw [Lib.decDigits_length, hnd]
  have hrd : RdS ((Go.Sort.putRow (fun (c : UInt8) => Value.int .u8 (c.toNat : Int)) W b 0 dk).drewN k) 1 (.slice (some ⟨b, 0, none⟩) nd cap) nd (bv (Lib.decDigits u)) := by
    refine RdS.of_rd ?_ (by rw [bv_length, hlen]; omega) hcap
    intro j v hj
    rw [World.cell?_drewN]
    have hj2 : j < (Lib.decDigits u).length := by
      have := (List.getElem?_eq_some_iff.1 hj).1
      rwa [bv_length] at this
    have hd : v = .int .u8 (((Lib.decDigits u)[j].toNat : Nat) : Int) := by
      have := (List.getElem?_eq_some_iff.1 hj).2
      rw [← this]
      simp [bv]
    rw [hd, Lib.row_is_numeral (hnd ▸ hF) j hj2]
    exact Go.Sort.cell?_putRow (fun (c : UInt8) => Value.int .u8 (c.toNat : Int)) W b 0 (Array.replicate nd 0) dk hH0 (by rw [hF.size, Array.size_replicate]) j (by rw [hF.size]; omega)
  have hbl : b < W.heap.size := ((hS.ok (row b 396 (List.replicate n (.int .u8 0))) (by simp)).2 b (by simp [row, blk])).1
  exact hS.step (by exact Upd.head) hf hrd (fun x hx => by
    have hx' : x = b := by simpa [rdS, Value.ownBlock] using hx
    subst hx'
    exact ⟨Nat.lt_of_lt_of_le hbl hf.size, .inl (by simp [row, blk])⟩)
theorem formatUint_s (w0 : World) (u : Nat) (hu : u < 100) : Calls Tryz.prog 241 #[.int .u64 (u : Int), .int .i64 10] w0 fun e w' => e = .returned (txt (Lib.decDigits u)) ∧ Fr [] w0 w' := by
  have hlt : (u : Int) < 100 := by omega
  go_enter Tryz.func241, Tryz.ntmps241
  have hS := St.start [] w0
  go_wp2_with (first | ((with_reducible apply l_want); rfl) | (go_at_call 283; go_must (refine (Tryz.internal_strconv_small u hu _).mono ?_); rintro en w1 ⟨rfl, rfl⟩) | ((with_reducible apply l_alloc); assumption; rfl; clear hS; intro b w hS) | ((with_reducible apply l_box); assumption; rfl; clear hS; intro b w hS) | ((with_reducible apply l_load); assumption; rfl; (repeat (first | exact Has.head | apply Has.tail)); (first | rfl | (simp [takeV]; done))) | ((with_reducible apply l_build); rfl; (simp [fillL, splice, Value.cells, Act.eval]; rfl)) | ((with_reducible apply l_buildA); rfl; (simp [fillL, splice, Value.cells, Act.eval]; rfl)) | ((with_reducible apply l_bslice); assumption; rfl; rfl; (first | (simp [fillL, splice, zeros, Value.cells, Act.eval]; rfl) | rfl); clear hS; intro b w hS) | ((with_reducible apply l_storeF); assumption; rfl; rfl; (repeat (first | exact Upd.head | apply Upd.tail)); rfl; clear hS; intro w hS) | ((with_reducible apply l_store); assumption; rfl; rfl; (repeat (first | exact Upd.head | apply Upd.tail)); rfl; clear hS; intro w hS; simp only [splice] at hS; try rw [splice_nil] at hS))
  go_ret
  exact ⟨rfl, hS.fr⟩
theorem formatUint_b (w0 : World) (hG : GlobT w0) (u : Nat) (hu : 100 ≤ u) (hu64 : u < 18446744073709551616) : Calls Tryz.prog 241 #[.int .u64 (u : Int), .int .i64 10] w0 fun e w' => e = .returned (txt (Lib.decDigits u)) ∧ Fr [] w0 w' := by
  have hge : ¬ ((u : Int) < 100) := by omega
  have hu1 : 1 ≤ u := by omega
  have hnd20 : Lib.nDigits u ≤ 20 := by have := Lib.numDigits_eq u hu1 hu64; split at this <;> omega
  have hal : Tryz.prog.arrayLen 396 = 24 := by kernel_rfl
  have hel : Tryz.prog.elem 396 = 5 := by kernel_rfl
  have hsl : ∀ (b : Nat) (W : World), (Instr.sliceAt 396 (.pointer (some ⟨b, 0, none⟩)) none (some (.int .i64 (Lib.nDigits u : Int))) none).run Tryz.prog W = .ok (.slice (some ⟨b, 0, none⟩) (Lib.nDigits u) 24) W := fun b W => by
    rw [run_sliceAt_array_h W 396 ⟨b, 0, none⟩ (by kernel_rfl) .i64 (Lib.nDigits u : Int) (by omega) (by rw [hal]; omega), hal, hel, run_sizeOf (agg := false) (k := 1)]
    simp [slicedAt, Result.andThen, addr_add]
  have hlen := Lib.decDigits_length u
  clear hal hel
  go_enter Tryz.func241, Tryz.ntmps241
  have hS := St.start [] w0
  go_wp2_with (first | ((with_reducible apply l_want); rfl) | (go_at_call 284; go_must (refine (Tryz.internal_strconv_numDigits u hu1 hu64 _ (hG.keep hS.fr).pow10).mono ?_); rintro en w1 ⟨rfl, rfl⟩) | (go_at_call 285; go_must (refine (fmt_c w0 _ [] _ u (Lib.nDigits u) 24 24 hS (by omega) rfl hu64 (by omega) hnd20).mono ?_); rintro en w1 ⟨⟨v, rfl⟩, hS2⟩; clear hS; have hS := hS2; clear hS2) | ((with_reducible apply l_b2s (l := Lib.decDigits u)); rfl; (rw [hlen]; exact hS.get (by exact Has.head))) | ((with_reducible apply l_alloc); assumption; rfl; clear hS; intro b w hS) | ((with_reducible apply l_box); assumption; rfl; clear hS; intro b w hS) | ((with_reducible apply l_load); assumption; rfl; (repeat (first | exact Has.head | apply Has.tail)); (first | rfl | (simp [takeV]; done))) | ((with_reducible apply l_build); rfl; (simp [fillL, splice, Value.cells, Act.eval]; rfl)) | ((with_reducible apply l_buildA); rfl; (simp [fillL, splice, Value.cells, Act.eval]; rfl)) | ((with_reducible apply l_bslice); assumption; rfl; rfl; (first | (simp [fillL, splice, zeros, Value.cells, Act.eval]; rfl) | rfl); clear hS; intro b w hS) | ((with_reducible apply l_storeF); assumption; rfl; rfl; (repeat (first | exact Upd.head | apply Upd.tail)); rfl; clear hS; intro w hS) | ((with_reducible apply l_store); assumption; rfl; rfl; (repeat (first | exact Upd.head | apply Upd.tail)); rfl; clear hS; intro w hS; simp only [splice] at hS; try rw [splice_nil] at hS))
  go_ret
  exact ⟨rfl, hS.fr⟩
theorem formatUint_c (w0 : World) (hG : GlobT w0) (u : Nat) (hu64 : u < 18446744073709551616) : Calls Tryz.prog 241 #[.int .u64 (u : Int), .int .i64 10] w0 fun e w' => e = .returned (txt (Lib.decDigits u)) ∧ Fr [] w0 w' := by
  by_cases h : u < 100
  · exact formatUint_s w0 u h
  · exact formatUint_b w0 hG u (by omega) hu64
theorem formatUint_p (w0 : World) (hG : GlobT w0) (u : Nat) (hu64 : u < 18446744073709551616) : Calls Tryz.prog 195 #[.int .u64 (u : Int), .int .i64 10] w0 fun e w' => e = .returned (txt (Lib.decDigits u)) ∧ Fr [] w0 w' := by
  go_enter Tryz.func195, Tryz.ntmps195
  have hS := St.start [] w0
  go_wp2_with (first | ((with_reducible apply l_want); rfl) | (go_at_call 241; go_must (refine (formatUint_c _ (hG.keep hS.fr) u hu64).mono ?_); rintro en w1 ⟨rfl, hf1⟩; replace hS := hS.keep hf1) | ((with_reducible apply l_alloc); assumption; rfl; clear hS; intro b w hS) | ((with_reducible apply l_box); assumption; rfl; clear hS; intro b w hS) | ((with_reducible apply l_load); assumption; rfl; (repeat (first | exact Has.head | apply Has.tail)); (first | rfl | (simp [takeV]; done))) | ((with_reducible apply l_build); rfl; (simp [fillL, splice, Value.cells, Act.eval]; rfl)) | ((with_reducible apply l_buildA); rfl; (simp [fillL, splice, Value.cells, Act.eval]; rfl)) | ((with_reducible apply l_bslice); assumption; rfl; rfl; (first | (simp [fillL, splice, zeros, Value.cells, Act.eval]; rfl) | rfl); clear hS; intro b w hS) | ((with_reducible apply l_storeF); assumption; rfl; rfl; (repeat (first | exact Upd.head | apply Upd.tail)); rfl; clear hS; intro w hS) | ((with_reducible apply l_store); assumption; rfl; rfl; (repeat (first | exact Upd.head | apply Upd.tail)); rfl; clear hS; intro w hS; simp only [splice] at hS; try rw [splice_nil] at hS))
  go_ret
  exact ⟨rfl, hS.fr⟩
theorem bases_c (w0 : World) : Calls Tryz.prog 196 #[] w0 fun e w' => e = .returned (.agg ⟨[.int .i64 10, .int .i64 16]⟩) ∧ Fr [] w0 w' := by
  go_enter Tryz.func196, Tryz.ntmps196
  have hS := St.start [] w0
  go_wp2_with (first | ((with_reducible apply l_want); rfl) | ((with_reducible apply l_alloc); assumption; rfl; clear hS; intro b w hS) | ((with_reducible apply l_box); assumption; rfl; clear hS; intro b w hS) | ((with_reducible apply l_load); assumption; rfl; (repeat (first | exact Has.head | apply Has.tail)); (first | rfl | (simp [takeV]; done))) | ((with_reducible apply l_build); rfl; (simp [fillL, splice, Value.cells, Act.eval]; rfl)) | ((with_reducible apply l_buildA); rfl; (simp [fillL, splice, Value.cells, Act.eval]; rfl)) | ((with_reducible apply l_bslice); assumption; rfl; rfl; (first | (simp [fillL, splice, zeros, Value.cells, Act.eval]; rfl) | rfl); clear hS; intro b w hS) | ((with_reducible apply l_storeF); assumption; rfl; rfl; (repeat (first | exact Upd.head | apply Upd.tail)); rfl; clear hS; intro w hS) | ((with_reducible apply l_store); assumption; rfl; rfl; (repeat (first | exact Upd.head | apply Upd.tail)); rfl; clear hS; intro w hS; simp only [splice] at hS; try rw [splice_nil] at hS))
  refine bodyPost_ret (results_c1 (k := 2) (agg := true) rfl hS rfl (by repeat (first | exact Has.head | apply Has.tail)) rfl) rfl ⟨rfl, hS.fr⟩
theorem text_u (w0 : World) (hG : GlobT w0) (u : Nat) (hu64 : u < 18446744073709551616) : Calls Tryz.prog 126 #[.int .u64 (u : Int)] w0 fun e w' => e = .returned (txt (Lib.decDigits u)) ∧ Fr [] w0 w' := by
  go_enter Tryz.func126, Tryz.ntmps126
  have hS := St.start [] w0
  go_wp2_with (first | ((with_reducible apply l_want); rfl) | (go_at_call 196; go_must (refine (bases_c _).mono ?_); rintro en w1 ⟨rfl, hf1⟩; replace hS := hS.keep hf1) | ((with_reducible apply l_index (i := 0)); rfl; rfl; decide; rfl) | (go_at_call 195; go_must (refine (formatUint_p _ (hG.keep hS.fr) u hu64).mono ?_); rintro en w1 ⟨rfl, hf1⟩; replace hS := hS.keep hf1) | ((with_reducible apply l_alloc); assumption; rfl; clear hS; intro b w hS) | ((with_reducible apply l_box); assumption; rfl; clear hS; intro b w hS) | ((with_reducible apply l_load); assumption; rfl; (repeat (first | exact Has.head | apply Has.tail)); (first | rfl | (simp [takeV]; done))) | ((with_reducible apply l_build); rfl; (simp [fillL, splice, Value.cells, Act.eval]; rfl)) | ((with_reducible apply l_buildA); rfl; (simp [fillL, splice, Value.cells, Act.eval]; rfl)) | ((with_reducible apply l_bslice); assumption; rfl; rfl; (first | (simp [fillL, splice, zeros, Value.cells, Act.eval]; rfl) | rfl); clear hS; intro b w hS) | ((with_reducible apply l_storeF); assumption; rfl; rfl; (repeat (first | exact Upd.head | apply Upd.tail)); rfl; clear hS; intro w hS) | ((with_reducible apply l_store); assumption; rfl; rfl; (repeat (first | exact Upd.head | apply Upd.tail)); rfl; clear hS; intro w hS; simp only [splice] at hS; try rw [splice_nil] at hS))
  go_ret
  exact ⟨rfl, hS.fr⟩
end Go.Proofs.YtaejmginhkbbhaaGreatDoor
