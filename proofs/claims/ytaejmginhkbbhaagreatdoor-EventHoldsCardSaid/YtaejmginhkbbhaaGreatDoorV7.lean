/- The walks through package field, second part: what a line says (F87). Conditions: as each contract says. -/
import Derived.Test.YtaejmginhkbbhaaGreatDoorV6
set_option linter.unusedSimpArgs false
set_option linter.unusedVariables false
set_option maxRecDepth 100000
set_option maxHeartbeats 1000000
namespace Go.Proofs.YtaejmginhkbbhaaGreatDoor
open Go Go.RowKit
/-- What a line says. -/
noncomputable def lineOf (l nm vl : List UInt8) (fd : Bool) : Fd := if l = [] then ⟨1, [], []⟩ else if fd = true ∧ nm = [] then ⟨2, [], vl⟩ else ⟨kindP nm, nm, Lib.trimPrefix vl [32]⟩
noncomputable def ofP (l : List UInt8) : Fd := lineOf l (Lib.cut l [58]).1 (Lib.cut l [58]).2.1 (Lib.cut l [58]).2.2
theorem trim_c (w0 : World) (l p : List UInt8) : Calls Tryz.prog 172 #[txt l, txt p] w0 fun e w' => e = .returned (txt (Lib.trimPrefix l p)) ∧ w' = w0 := Tryz.strings_TrimPrefix ⟨l.toArray⟩ ⟨p.toArray⟩ w0
theorem cut_c (w0 : World) (hG : Glob w0) (l p : List UInt8) (hl : l.length < 4294967281) : Calls Tryz.prog 128 #[txt l, txt p] w0 fun e w' => e = .returned (.tuple #[txt (Lib.cut l p).1, txt (Lib.cut l p).2.1, .bool (Lib.cut l p).2.2]) ∧ Fr [] w0 w' := by
  obtain ⟨m, hm⟩ := hG.maxLen
  refine (Tryz.strings_Cut ⟨l.toArray⟩ ⟨p.toArray⟩ m w0 (by rw [size_mk]; exact hl) hm).mono ?_
  rintro e w' ⟨rfl, n, rfl⟩
  exact ⟨rfl, Fr.drewN _ _ _⟩
theorem fieldOf_c (w0 : World) (hG : Glob w0) (l : List UInt8) (hl : l.length < 4294967281) : Calls Tryz.prog 87 #[txt l] w0 fun e w' => e = .returned (ofP l).v ∧ Fr [] w0 w' := by
  have hcut := fun W (hW : Glob W) => cut_c W hW l [58] hl
  unfold ofP
  rcases hc : Lib.cut l [58] with ⟨nm, vl, fd⟩
  rw [hc] at hcut
  simp only at hcut ⊢
  have Hcut := Lib.hid hcut
  clear hcut hc
  cases l with
  | nil =>
    have hr : lineOf [] nm vl fd = ⟨1, [], []⟩ := by simp [lineOf]
    rw [hr]
    clear hr
    go_enter Tryz.func87, Tryz.ntmps87
    have hS := St.start [] w0
    go_wp2_with (first | ((with_reducible apply l_want); rfl) | (go_at_call 128; go_must (refine (Hcut.out _ (hG.keep hS.fr)).mono ?_); rintro en w1 ⟨rfl, hf1⟩; replace hS := hS.keep hf1) | ((with_reducible apply l_alloc); assumption; rfl; clear hS; intro b w hS) | ((with_reducible apply l_box); assumption; rfl; clear hS; intro b w hS) | ((with_reducible apply l_load); assumption; rfl; (repeat (first | exact Has.head | apply Has.tail)); (first | rfl | (simp [takeV]; done))) | ((with_reducible apply l_build); rfl; (simp [fillL, splice, Value.cells, Act.eval]; rfl)) | ((with_reducible apply l_buildA); rfl; (simp [fillL, splice, Value.cells, Act.eval]; rfl)) | ((with_reducible apply l_bslice); assumption; rfl; rfl; (first | (simp [fillL, splice, zeros, Value.cells, Act.eval]; rfl) | rfl); clear hS; intro b w hS) | ((with_reducible apply l_storeF); assumption; rfl; rfl; (repeat (first | exact Upd.head | apply Upd.tail)); rfl; clear hS; intro w hS) | ((with_reducible apply l_store); assumption; rfl; rfl; (repeat (first | exact Upd.head | apply Upd.tail)); rfl; clear hS; intro w hS; simp only [splice] at hS; try rw [splice_nil] at hS))
    refine bodyPost_ret (results_c1 (k := 3) (agg := true) rfl hS rfl (by repeat (first | exact Has.head | apply Has.tail)) rfl) rfl ⟨rfl, hS.fr⟩
  | cons x l =>
    cases fd with
    | true =>
      cases nm with
      | nil =>
        have hr : lineOf (x :: l) [] vl true = ⟨2, [], vl⟩ := by simp [lineOf]
        rw [hr]
        clear hr
        go_enter Tryz.func87, Tryz.ntmps87
        have hS := St.start [] w0
        go_wp2_with (first | ((with_reducible apply l_want); rfl) | (go_at_call 128; go_must (refine (Hcut.out _ (hG.keep hS.fr)).mono ?_); rintro en w1 ⟨rfl, hf1⟩; replace hS := hS.keep hf1) | ((with_reducible apply l_alloc); assumption; rfl; clear hS; intro b w hS) | ((with_reducible apply l_box); assumption; rfl; clear hS; intro b w hS) | ((with_reducible apply l_load); assumption; rfl; (repeat (first | exact Has.head | apply Has.tail)); (first | rfl | (simp [takeV]; done))) | ((with_reducible apply l_build); rfl; (simp [fillL, splice, Value.cells, Act.eval]; rfl)) | ((with_reducible apply l_buildA); rfl; (simp [fillL, splice, Value.cells, Act.eval]; rfl)) | ((with_reducible apply l_bslice); assumption; rfl; rfl; (first | (simp [fillL, splice, zeros, Value.cells, Act.eval]; rfl) | rfl); clear hS; intro b w hS) | ((with_reducible apply l_storeF); assumption; rfl; rfl; (repeat (first | exact Upd.head | apply Upd.tail)); rfl; clear hS; intro w hS) | ((with_reducible apply l_store); assumption; rfl; rfl; (repeat (first | exact Upd.head | apply Upd.tail)); rfl; clear hS; intro w hS; simp only [splice] at hS; try rw [splice_nil] at hS))
        refine bodyPost_ret (results_c1 (k := 3) (agg := true) rfl hS rfl (by repeat (first | exact Has.head | apply Has.tail)) rfl) rfl ⟨rfl, hS.fr⟩
      | cons y nm =>
        have hr : lineOf (x :: l) (y :: nm) vl true = ⟨kindP (y :: nm), y :: nm, Lib.trimPrefix vl [32]⟩ := by simp [lineOf]
        rw [hr]
        clear hr
        go_enter Tryz.func87, Tryz.ntmps87
        have hS := St.start [] w0
        go_wp2_with (first | ((with_reducible apply l_want); rfl) | (go_at_call 128; go_must (refine (Hcut.out _ (hG.keep hS.fr)).mono ?_); rintro en w1 ⟨rfl, hf1⟩; replace hS := hS.keep hf1) | (go_at_call 171; go_must (refine (kinds_c _).mono ?_); rintro en w1 ⟨bk, rfl, hT⟩; have hM := hT.get (c := mapc bk .string kindsF) (by exact Has.head); replace hS := hS.keep hT.fr; clear hT) | (go_at_call 170; go_must (refine (known_c _ _ _ hM).mono ?_); rintro en w1 ⟨rfl, rfl⟩) | (go_at_call 172; go_must (refine (trim_c _ vl [32]).mono ?_); rintro en w1 ⟨rfl, rfl⟩) | ((with_reducible apply l_alloc); assumption; rfl; clear hS; intro b w hS) | ((with_reducible apply l_box); assumption; rfl; clear hS; intro b w hS) | ((with_reducible apply l_load); assumption; rfl; (repeat (first | exact Has.head | apply Has.tail)); (first | rfl | (simp [takeV]; done))) | ((with_reducible apply l_build); rfl; (simp [fillL, splice, Value.cells, Act.eval]; rfl)) | ((with_reducible apply l_buildA); rfl; (simp [fillL, splice, Value.cells, Act.eval]; rfl)) | ((with_reducible apply l_bslice); assumption; rfl; rfl; (first | (simp [fillL, splice, zeros, Value.cells, Act.eval]; rfl) | rfl); clear hS; intro b w hS) | ((with_reducible apply l_storeF); assumption; rfl; rfl; (repeat (first | exact Upd.head | apply Upd.tail)); rfl; clear hS; intro w hS) | ((with_reducible apply l_store); assumption; rfl; rfl; (repeat (first | exact Upd.head | apply Upd.tail)); rfl; clear hS; intro w hS; simp only [splice] at hS; try rw [splice_nil] at hS))
        refine bodyPost_ret (results_c1 (k := 3) (agg := true) rfl hS rfl (by repeat (first | exact Has.head | apply Has.tail)) rfl) rfl ⟨rfl, hS.fr⟩
    | false =>
      have hr : lineOf (x :: l) nm vl false = ⟨kindP nm, nm, Lib.trimPrefix vl [32]⟩ := by simp [lineOf]
      rw [hr]
      clear hr
      go_enter Tryz.func87, Tryz.ntmps87
      have hS := St.start [] w0
      go_wp2_with (first | ((with_reducible apply l_want); rfl) | (go_at_call 128; go_must (refine (Hcut.out _ (hG.keep hS.fr)).mono ?_); rintro en w1 ⟨rfl, hf1⟩; replace hS := hS.keep hf1) | (go_at_call 171; go_must (refine (kinds_c _).mono ?_); rintro en w1 ⟨bk, rfl, hT⟩; have hM := hT.get (c := mapc bk .string kindsF) (by exact Has.head); replace hS := hS.keep hT.fr; clear hT) | (go_at_call 170; go_must (refine (known_c _ _ _ hM).mono ?_); rintro en w1 ⟨rfl, rfl⟩) | (go_at_call 172; go_must (refine (trim_c _ vl [32]).mono ?_); rintro en w1 ⟨rfl, rfl⟩) | ((with_reducible apply l_alloc); assumption; rfl; clear hS; intro b w hS) | ((with_reducible apply l_box); assumption; rfl; clear hS; intro b w hS) | ((with_reducible apply l_load); assumption; rfl; (repeat (first | exact Has.head | apply Has.tail)); (first | rfl | (simp [takeV]; done))) | ((with_reducible apply l_build); rfl; (simp [fillL, splice, Value.cells, Act.eval]; rfl)) | ((with_reducible apply l_buildA); rfl; (simp [fillL, splice, Value.cells, Act.eval]; rfl)) | ((with_reducible apply l_bslice); assumption; rfl; rfl; (first | (simp [fillL, splice, zeros, Value.cells, Act.eval]; rfl) | rfl); clear hS; intro b w hS) | ((with_reducible apply l_storeF); assumption; rfl; rfl; (repeat (first | exact Upd.head | apply Upd.tail)); rfl; clear hS; intro w hS) | ((with_reducible apply l_store); assumption; rfl; rfl; (repeat (first | exact Upd.head | apply Upd.tail)); rfl; clear hS; intro w hS; simp only [splice] at hS; try rw [splice_nil] at hS))
      refine bodyPost_ret (results_c1 (k := 3) (agg := true) rfl hS rfl (by repeat (first | exact Has.head | apply Has.tail)) rfl) rfl ⟨rfl, hS.fr⟩
end Go.Proofs.YtaejmginhkbbhaaGreatDoor
