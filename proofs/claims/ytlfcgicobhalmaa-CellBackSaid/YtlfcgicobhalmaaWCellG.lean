/- cell.Good, walked. -/
import Derived.Test.YtlfcgicobhalmaaBase2
import Derived.Test.YtlfcgicobhalmaaWZig
import Derived.Test.YtlfcgicobhalmaaWLaw02
import Derived.Test.YtlfcgicobhalmaaMNode
import Derived.Test.YtlfcgicobhalmaaOps
import Derived.Test.YtlfcgicobhalmaaRegGen
import Derived.Test.YtlfcgicobhalmaaWZeros
import Derived.Test.YtlfcgicobhalmaaWCell
namespace Go.Proofs.Ytlfcgicobhalmaa.K
open Go Go.RowKit Go.Proofs.YtlfcgicobhalmaaW.PrintWords Go.Proofs.YtlfcgicobhalmaaW.PrintLast Go.Proofs.YtlfcgicobhalmaaW.PrintMore
set_option linter.unusedVariables false
set_option linter.unusedSimpArgs false
open Go.Proofs.Ytlfcgicobhalmaa.MOct (W V tk sz vr num head getV le be many putL)
open Go.Proofs.Ytlfcgicobhalmaa.MOct (Cel isPageV localV spillsV insideV leafyV mayV goodFrom goodV u64 csize cbytes nsize nbody nbytes findV)

/-- A row of cells that is read. -/
abbrev KC9 : Kd Cel := Kd.pair (Kd.int .i64) (Kd.pair (Kd.int .i64) (Kd.pair (Kd.int .i64) (Kd.pair (Kd.slice 5 (Kd.int .u8)) (Kd.int .i64))))
theorem cel_at {w : World} {A : Option Addr} {l : List Cel} (h : KC9.C w A l.length l) (i : Nat) (hi : i < l.length) :
    ∃ ad, A = some ad ∧ ∃ key child len loc next AB cB, l[i]? = some (key, child, len, loc, next) ∧ w.cell? (ad.add (i * 5)) = some (.int .i64 key) ∧ w.cell? { block := (ad.add (i * 5)).block, off := (ad.add (i * 5)).off + 1 } = some (.int .i64 child) ∧ w.cell? { block := (ad.add (i * 5)).block, off := (ad.add (i * 5)).off + 2 } = some (.int .i64 len) ∧
      w.cell? { block := (ad.add (i * 5)).block, off := (ad.add (i * 5)).off + 3 } = some (.slice AB loc.length cB) ∧ w.cell? { block := (ad.add (i * 5)).block, off := (ad.add (i * 5)).off + 4 } = some (.int .i64 next) ∧ loc.length ≤ cB ∧ CB w AB loc := by
  obtain ⟨ad, c, rfl, hl, hK, hc⟩ := Kd.C_get h (0, 0, 0, [], 0) (i : Int) (by omega) (by omega)
  have hg : l[i]? = some (l.getD i (0, 0, 0, [], 0)) := by rw [List.getD_eq_getElem?_getD, List.getElem?_eq_getElem hi]; rfl
  have hti : (i : Int).toNat = i := by omega
  rw [hti] at hK hc
  obtain ⟨x, hx⟩ : ∃ x, l.getD i (0, 0, 0, [], 0) = x := ⟨_, rfl⟩
  rw [hx] at hK hg
  obtain ⟨key, child, len, loc, next⟩ := x
  obtain ⟨_, _, rfl, rfl, _, _, rfl, rfl, _, _, rfl, rfl, _, _, rfl, ⟨AB, cB, rfl, hcB, hCB⟩, rfl⟩ := hK
  have e : ∀ j, ad.add (i * 5 + (j + 1)) = { block := (ad.add (i * 5)).block, off := (ad.add (i * 5)).off + (j + 1) } := fun j => by rw [← Addr.add_add, Addr.add_succ']
  refine ⟨ad, rfl, key, child, len, loc, next, AB, cB, hg, hc 0 _ rfl, ?_, ?_, ?_, ?_, hcB, hCB⟩
  · rw [← e 0]; exact hc 1 _ rfl
  · rw [← e 1]; exact hc 2 _ rfl
  · rw [← e 2]; exact hc 3 _ rfl
  · rw [← e 3]; exact hc 4 _ rfl
theorem goodFrom_at {leaf : Bool} {l : List Cel} {k : Nat} {c : Cel} (h : l[k]? = some c) (p : Option Int) : MOct.goodFrom leaf p (l.drop k) = (mayV leaf c && (match p with | none => true | some q => decide (q < c.1)) && MOct.goodFrom leaf (some c.1) (l.drop (k + 1))) := by
  obtain ⟨hk, rfl⟩ := List.getElem?_eq_some_iff.1 h
  rw [List.drop_eq_getElem_cons hk]
  rfl
theorem may_calls (leaf : Bool) (c : Cel) (A : Option Addr) (cap : Nat) (w : World) : Calls Try.prog (if leaf then 73 else 72) #[.agg (CelC c A cap)] w fun e w' => e = .returned (.bool (mayV leaf c)) ∧ Below w.heap.size w w' := by
  cases leaf
  · exact inside_calls c A cap w
  · exact leafy_calls c A cap w
/-- The key ahead. -/
def prevK (l : List Cel) (k : Nat) : Option Int := if k = 0 then none else (l[k - 1]?).map (·.1)
set_option maxHeartbeats 1000000 in
set_option maxRecDepth 100000 in
theorem good_calls (leaf : Bool) (right : Int) (l : List Cel) (A : Option Addr) (cap : Nat) (w : World) (hC : KC9.C w A l.length l) (hc : l.length ≤ cap) (hl : l.length < 100000000) :
    Calls Try.prog 47 #[.agg #[.bool leaf, .int .i64 right, .slice A l.length cap]] w fun e w' => e = .returned (.bool (goodV leaf right l)) ∧ Below w.heap.size w w' := by
  have HP := Lib.hid (isPage_calls right)
  have HC := Lib.hid hC
  obtain ⟨pv, hpv⟩ : ∃ pv, isPageV right = pv := ⟨_, rfl⟩
  have HG : Hid (goodV leaf right l = ((leaf == decide (right = 0)) && (leaf || pv) && MOct.goodFrom leaf none l)) := Lib.hid (by unfold goodV; rw [hpv])
  rw [hpv] at HP
  clear hC hpv
  by_cases hok : (leaf == decide (right = 0)) = true ∧ (leaf || pv) = true
  · obtain ⟨h1, h2⟩ := hok
    have HG2 : Hid (goodV leaf right l = MOct.goodFrom leaf none l) := Lib.hid (by rw [HG.out, h1, h2]; simp)
    have HM := Lib.hid (may_calls leaf)
    clear HG
    rw [HG2.out]
    cases leaf with
    | true =>
      have hr : right = 0 := by simpa using h1
      subst hr
      clear h1 h2
      go_enter Try.func47, Try.ntmps47
      go_upto_region 7 with (go_at_call 74; refine (HP.out _).mono ?_; rintro e w0 ⟨rfl, rfl⟩)
      have HX0 : Hid (Bx w #[.bool true, .int .i64 0, .slice A l.length cap] 55 (w.alloc (.cells #[.bool true, .int .i64 0, .slice A l.length cap] 55))) := Lib.hid (Bx.new _ _ _)
      go_loopw [28] (fun i wr => ∃ k : Nat, i = .int .i64 k ∧ k ≤ l.length ∧ Hid (Bx w #[.bool true, .int .i64 0, .slice A l.length cap] 55 wr) ∧ Hid (MOct.goodFrom true (prevK l k) (l.drop k) = MOct.goodFrom true none l)) (fun i _ => l.length - (intOf i).toNat)
      case atStart => exact ⟨0, rfl, by omega, HX0, Lib.hid rfl⟩
      case round =>
        obtain ⟨k, rfl, hk, HX, HI⟩ := hrel
        by_cases hlt : k < l.length
        · obtain ⟨ad, rfl, key, child, len, loc, next, AB, cB, hget, x0, x1, x2, x3, x4, hcB, hCB⟩ := cel_at (Kd.C_below HC.out HX.out.1) k hlt
          have HGT := Lib.hid hget
          have HIK := Lib.hid (goodFrom_at (leaf := true) hget (prevK l k))
          clear hget hCB hcB
          go_upto_region 9 with (fail)
          generalize hW5 : wr.alloc (Obj.cells #[Value.int IntKind.i64 key, Value.int IntKind.i64 child, Value.int IntKind.i64 len, Value.slice AB loc.length cB, Value.int IntKind.i64 next] 87) = W5
          have hb5 : Below wr.heap.size wr W5 := by subst hW5; exact (Below.refl _ _).alloc (Nat.le_refl _) _
          have hbx : W5.heap[wr.heap.size]? = some (.cells #[Value.int IntKind.i64 key, Value.int IntKind.i64 child, Value.int IntKind.i64 len, Value.slice AB loc.length cB, Value.int IntKind.i64 next] 87 (0, 0)) := by subst hW5; exact heap_alloc_new wr _
          obtain ⟨g5, hg5⟩ : ∃ g5, wr.heap.size = g5 := ⟨_, rfl⟩
          rw [hg5] at hbx ⊢
          have z0 : W5.cell? ⟨g5, 0, none⟩ = some (.int .i64 key) := cell_of_row W5 g5 0 _ 87 (0, 0) hbx
          have z1 : W5.cell? ⟨g5, 1, none⟩ = some (.int .i64 child) := cell_of_row W5 g5 1 _ 87 (0, 0) hbx
          have z2 : W5.cell? ⟨g5, 2, none⟩ = some (.int .i64 len) := cell_of_row W5 g5 2 _ 87 (0, 0) hbx
          have z3 : W5.cell? ⟨g5, 3, none⟩ = some (.slice AB loc.length cB) := cell_of_row W5 g5 3 _ 87 (0, 0) hbx
          have z4 : W5.cell? ⟨g5, 4, none⟩ = some (.int .i64 next) := cell_of_row W5 g5 4 _ 87 (0, 0) hbx
          have hX5 := HX.out.below hb5
          have n2 := hX5.cell (i := 2) rfl
          have HX5 := Lib.hid hX5
          clear hW5 hb5 hg5 hbx x0 x1 x2 x3 x4 hX5
          obtain ⟨mv, hmv⟩ : ∃ mv, mayV true (key, child, len, loc, next) = mv := ⟨_, rfl⟩
          have hmc := fun W => HM.out (key, child, len, loc, next) AB cB W
          rw [hmv] at hmc
          have hik := HIK.out
          rw [hmv] at hik
          have HIK2 := Lib.hid hik
          clear hmv hik HIK
          cases mv with
          | false =>
            have HMC := Lib.hid hmc
            clear hmc
            refine Reg.region_mono (P := Try.prog) (Ext := Bel) (R := fun i v W => match i with
                | 0 => v = .func (.func 73) #[] #[]
                | 1 => v = .agg #[.int .i64 key, .int .i64 child, .int .i64 len, .slice AB loc.length cB, .int .i64 next]
                | 2 => v = .bool false
                | 3 => v = .bool true
                | 4 => v = .bool true
                | 5 => v = undef
                | 6 => v = undef
                | 7 => v = undef
                | 8 => v = undef
                | 9 => v = undef
                | 10 => v = undef
                | 11 => v = undef
                | 12 => v = undef
                | 13 => v = undef
                | 14 => v = undef
                | 15 => v = undef
                | 16 => v = undef
                | 17 => v = undef
                | 18 => v = undef
                | 19 => v = .bool true
                | _ => True) (fun W => Below W5.heap.size W5 W) rfl (by kernel_rfl) (by kernel_rfl) (Bel.drew W5) (fun W W' h h' => bthen h h') Bel.refl (by intro j v W W' hx h; split at h <;> exact h) ?_ ?_
            · intro i oi hoi a W hW need old
              match i, hoi with
              | 0, hoi =>
                simp only [List.getElem?_toArray, List.getElem?_cons_succ, List.getElem?_cons_zero, Option.some.injEq] at hoi
                subst hoi
                refine Reg.ob_plain rfl ?_
                have e3 : a.eval (.tmp 3) = .func (.func 73) #[] #[] := old 3 (by kernel_rfl)
                refine Reg.wp_val (W' := W) (v := _) (by simp only [execOp, e3, Reg.eval_const]; rfl) ⟨_, rfl, Bel.refl W, rfl⟩
              | 1, hoi =>
                simp only [List.getElem?_toArray, List.getElem?_cons_succ, List.getElem?_cons_zero, Option.some.injEq] at hoi
                subst hoi
                refine Reg.ob_plain rfl ?_
                have e5 : a.eval (.tmp 5) = .pointer (some ⟨g5, 0, none⟩) := old 5 (by kernel_rfl)
                have hx0 := pw_cell_below hW z0
                have hx1 := pw_cell_below hW z1
                have hx2 := pw_cell_below hW z2
                have hx3 := pw_cell_below hW z3
                have hx4 := pw_cell_below hW z4
                refine Reg.wp_val (W' := W) (v := .agg #[.int .i64 key, .int .i64 child, .int .i64 len, .slice AB loc.length cB, .int .i64 next]) (by simp only [execOp, e5, Reg.eval_const, resolve, invoke, builtin, List.map_toArray, List.map_cons, List.map_nil, Option.map_some, Option.map_none]; (first | rfl | go_simp | (go_simp; rfl))) ⟨_, rfl, Bel.refl W, rfl⟩
              | 2, hoi =>
                simp only [List.getElem?_toArray, List.getElem?_cons_succ, List.getElem?_cons_zero, Option.some.injEq] at hoi
                subst hoi
                refine Reg.ob_plain rfl ?_
                have e33 : a.eval (.tmp 33) = .func (.func 73) #[] #[] := need 0 _ 33 rfl rfl (by kernel_rfl)
                have e34 : a.eval (.tmp 34) = .agg #[.int .i64 key, .int .i64 child, .int .i64 len, .slice AB loc.length cB, .int .i64 next] := need 1 _ 34 rfl rfl (by kernel_rfl)
                refine Reg.wp_call (f := 73) (args := #[.agg #[.int .i64 key, .int .i64 child, .int .i64 len, .slice AB loc.length cB, .int .i64 next]]) (by simp only [execOp, e33, e34, Reg.eval_const, resolve, invoke, List.map_toArray, List.map_cons, List.map_nil]; go_simp) ?_
                refine (HMC.out W).mono ?_
                rintro e W' ⟨rfl, hb⟩; exact ⟨_, rfl, _, rfl, hb, rfl⟩
              | 3, hoi =>
                simp only [List.getElem?_toArray, List.getElem?_cons_succ, List.getElem?_cons_zero, Option.some.injEq] at hoi
                subst hoi
                refine Reg.ob_plain rfl ?_
                have e35 : a.eval (.tmp 35) = .bool false := need 2 _ 35 rfl rfl (by kernel_rfl)
                refine Reg.wp_val (W' := W) (v := .bool true) (by simp only [execOp, e35, Reg.eval_const, resolve, invoke, builtin, List.map_toArray, List.map_cons, List.map_nil, Option.map_some, Option.map_none]; (first | rfl | go_simp | (go_simp; rfl))) ⟨_, rfl, Bel.refl W, rfl⟩
              | 4, hoi =>
                simp only [List.getElem?_toArray, List.getElem?_cons_succ, List.getElem?_cons_zero, Option.some.injEq] at hoi
                subst hoi
                refine Reg.ob_plain rfl ?_
                have e36 : a.eval (.tmp 36) = .bool true := need 3 _ 36 rfl rfl (by kernel_rfl)
                refine Reg.wp_val (W' := W) (v := _) (by simp only [execOp, e36, Reg.eval_const]; rfl) ⟨_, rfl, Bel.refl W, rfl⟩
              | 5, hoi =>
                simp only [List.getElem?_toArray, List.getElem?_cons_succ, List.getElem?_cons_zero, Option.some.injEq] at hoi
                subst hoi
                have eg : a.eval (.tmp 37) = .bool true := need 4 _ 37 rfl rfl (by kernel_rfl)
                exact Reg.ob_no rfl rfl rfl eg (by decide) rfl
              | 6, hoi =>
                simp only [List.getElem?_toArray, List.getElem?_cons_succ, List.getElem?_cons_zero, Option.some.injEq] at hoi
                subst hoi
                have eg : a.eval (.tmp 37) = .bool true := need 4 _ 37 rfl rfl (by kernel_rfl)
                exact Reg.ob_no rfl rfl rfl eg (by decide) rfl
              | 7, hoi =>
                simp only [List.getElem?_toArray, List.getElem?_cons_succ, List.getElem?_cons_zero, Option.some.injEq] at hoi
                subst hoi
                have eg : a.eval (.tmp 37) = .bool true := need 4 _ 37 rfl rfl (by kernel_rfl)
                exact Reg.ob_no rfl rfl rfl eg (by decide) rfl
              | 8, hoi =>
                simp only [List.getElem?_toArray, List.getElem?_cons_succ, List.getElem?_cons_zero, Option.some.injEq] at hoi
                subst hoi
                have eg : a.eval (.tmp 40) = undef := need 7 _ 40 rfl rfl (by kernel_rfl)
                exact Reg.ob_off rfl rfl rfl eg rfl
              | 9, hoi =>
                simp only [List.getElem?_toArray, List.getElem?_cons_succ, List.getElem?_cons_zero, Option.some.injEq] at hoi
                subst hoi
                have eg : a.eval (.tmp 40) = undef := need 7 _ 40 rfl rfl (by kernel_rfl)
                exact Reg.ob_off rfl rfl rfl eg rfl
              | 10, hoi =>
                simp only [List.getElem?_toArray, List.getElem?_cons_succ, List.getElem?_cons_zero, Option.some.injEq] at hoi
                subst hoi
                have eg : a.eval (.tmp 40) = undef := need 7 _ 40 rfl rfl (by kernel_rfl)
                exact Reg.ob_off rfl rfl rfl eg rfl
              | 11, hoi =>
                simp only [List.getElem?_toArray, List.getElem?_cons_succ, List.getElem?_cons_zero, Option.some.injEq] at hoi
                subst hoi
                have eg : a.eval (.tmp 40) = undef := need 7 _ 40 rfl rfl (by kernel_rfl)
                exact Reg.ob_off rfl rfl rfl eg rfl
              | 12, hoi =>
                simp only [List.getElem?_toArray, List.getElem?_cons_succ, List.getElem?_cons_zero, Option.some.injEq] at hoi
                subst hoi
                have eg : a.eval (.tmp 40) = undef := need 7 _ 40 rfl rfl (by kernel_rfl)
                exact Reg.ob_off rfl rfl rfl eg rfl
              | 13, hoi =>
                simp only [List.getElem?_toArray, List.getElem?_cons_succ, List.getElem?_cons_zero, Option.some.injEq] at hoi
                subst hoi
                have eg : a.eval (.tmp 40) = undef := need 7 _ 40 rfl rfl (by kernel_rfl)
                exact Reg.ob_off rfl rfl rfl eg rfl
              | 14, hoi =>
                simp only [List.getElem?_toArray, List.getElem?_cons_succ, List.getElem?_cons_zero, Option.some.injEq] at hoi
                subst hoi
                have eg : a.eval (.tmp 40) = undef := need 7 _ 40 rfl rfl (by kernel_rfl)
                exact Reg.ob_off rfl rfl rfl eg rfl
              | 15, hoi =>
                simp only [List.getElem?_toArray, List.getElem?_cons_succ, List.getElem?_cons_zero, Option.some.injEq] at hoi
                subst hoi
                have eg : a.eval (.tmp 40) = undef := need 7 _ 40 rfl rfl (by kernel_rfl)
                exact Reg.ob_off rfl rfl rfl eg rfl
              | 16, hoi =>
                simp only [List.getElem?_toArray, List.getElem?_cons_succ, List.getElem?_cons_zero, Option.some.injEq] at hoi
                subst hoi
                have eg : a.eval (.tmp 40) = undef := need 7 _ 40 rfl rfl (by kernel_rfl)
                exact Reg.ob_off rfl rfl rfl eg rfl
              | 17, hoi =>
                simp only [List.getElem?_toArray, List.getElem?_cons_succ, List.getElem?_cons_zero, Option.some.injEq] at hoi
                subst hoi
                have eg : a.eval (.tmp 40) = undef := need 7 _ 40 rfl rfl (by kernel_rfl)
                exact Reg.ob_off rfl rfl rfl eg rfl
              | 18, hoi =>
                simp only [List.getElem?_toArray, List.getElem?_cons_succ, List.getElem?_cons_zero, Option.some.injEq] at hoi
                subst hoi
                have eg : a.eval (.tmp 37) = .bool true := need 4 _ 37 rfl rfl (by kernel_rfl)
                exact Reg.ob_no rfl rfl rfl eg (by decide) rfl
              | 19, hoi =>
                simp only [List.getElem?_toArray, List.getElem?_cons_succ, List.getElem?_cons_zero, Option.some.injEq] at hoi
                subst hoi
                refine Reg.ob_plain rfl ?_
                have e37 : a.eval (.tmp 37) = .bool true := need 4 _ 37 rfl rfl (by kernel_rfl)
                have e51 : a.eval (.tmp 51) = undef := need 18 _ 51 rfl rfl (by kernel_rfl)
                refine Reg.wp_val (W' := W) (v := .bool true) (by simp only [execOp, e37, e51, Reg.eval_const, resolve, invoke, builtin, List.map_toArray, List.map_cons, List.map_nil, Option.map_some, Option.map_none]; (first | rfl | go_simp | (go_simp; rfl))) ⟨_, rfl, Bel.refl W, rfl⟩
              | n + 20, hoi => simp at hoi
            · intro a w9 hW hsize hdef got same did
              have ha := Reg.act_of [33, 34, 35, 36, 37, 38, 39, 40, 41, 42, 43, 44, 45, 46, 47, 48, 49, 50, 51, 52] hsize hdef same (by kernel_rfl)
              simp only [List.foldl_cons, List.foldl_nil] at ha
              generalize a.tmps.getD 33 undef = y33 at ha
              generalize a.tmps.getD 34 undef = y34 at ha
              generalize a.tmps.getD 35 undef = y35 at ha
              generalize a.tmps.getD 36 undef = y36 at ha
              generalize a.tmps.getD 37 undef = y37 at ha
              generalize a.tmps.getD 38 undef = y38 at ha
              generalize a.tmps.getD 39 undef = y39 at ha
              generalize a.tmps.getD 40 undef = y40 at ha
              generalize a.tmps.getD 41 undef = y41 at ha
              generalize a.tmps.getD 42 undef = y42 at ha
              generalize a.tmps.getD 43 undef = y43 at ha
              generalize a.tmps.getD 44 undef = y44 at ha
              generalize a.tmps.getD 45 undef = y45 at ha
              generalize a.tmps.getD 46 undef = y46 at ha
              generalize a.tmps.getD 47 undef = y47 at ha
              generalize a.tmps.getD 48 undef = y48 at ha
              generalize a.tmps.getD 49 undef = y49 at ha
              generalize a.tmps.getD 50 undef = y50 at ha
              generalize a.tmps.getD 51 undef = y51 at ha
              have k52 := got 19 _ 52 rfl rfl
              simp only at k52
              rw [k52] at ha
              clear k52
              clear got same hsize hdef did
              subst ha
              simp only [List.setIfInBounds_toArray, List.set_cons_zero, List.set_cons_succ]
              go_wp2
              go_ret
              refine ⟨?_, bthen HX5.out.1 hW⟩
              rw [← HI.out, HIK2.out]
              simp
          | true =>
            have HMC := Lib.hid hmc
            clear hmc
            by_cases hk0 : k = 0
            · have HKK : Hid (k = 0) := Lib.hid hk0
              have HPK : Hid (prevK l k = none) := Lib.hid (by unfold prevK; rw [if_pos hk0])
              clear hk0
              refine Reg.region_mono (P := Try.prog) (Ext := Bel) (R := fun i v W => match i with
                  | 0 => v = .func (.func 73) #[] #[]
                  | 1 => v = .agg #[.int .i64 key, .int .i64 child, .int .i64 len, .slice AB loc.length cB, .int .i64 next]
                  | 2 => v = .bool true
                  | 3 => v = .bool false
                  | 4 => v = .bool false
                  | 5 => v = .int .i64 (k : Int)
                  | 6 => v = .bool false
                  | 7 => v = .bool false
                  | 8 => v = undef
                  | 9 => v = undef
                  | 10 => v = undef
                  | 11 => v = undef
                  | 12 => v = undef
                  | 13 => v = undef
                  | 14 => v = undef
                  | 15 => v = undef
                  | 16 => v = undef
                  | 17 => v = undef
                  | 18 => v = .bool false
                  | 19 => v = .bool false
                  | _ => True) (fun W => Below W5.heap.size W5 W) rfl (by kernel_rfl) (by kernel_rfl) (Bel.drew W5) (fun W W' h h' => bthen h h') Bel.refl (by intro j v W W' hx h; split at h <;> exact h) ?_ ?_
              · intro i oi hoi a W hW need old
                match i, hoi with
                | 0, hoi =>
                  simp only [List.getElem?_toArray, List.getElem?_cons_succ, List.getElem?_cons_zero, Option.some.injEq] at hoi
                  subst hoi
                  refine Reg.ob_plain rfl ?_
                  have e3 : a.eval (.tmp 3) = .func (.func 73) #[] #[] := old 3 (by kernel_rfl)
                  refine Reg.wp_val (W' := W) (v := _) (by simp only [execOp, e3, Reg.eval_const]; rfl) ⟨_, rfl, Bel.refl W, rfl⟩
                | 1, hoi =>
                  simp only [List.getElem?_toArray, List.getElem?_cons_succ, List.getElem?_cons_zero, Option.some.injEq] at hoi
                  subst hoi
                  refine Reg.ob_plain rfl ?_
                  have e5 : a.eval (.tmp 5) = .pointer (some ⟨g5, 0, none⟩) := old 5 (by kernel_rfl)
                  have hx0 := pw_cell_below hW z0
                  have hx1 := pw_cell_below hW z1
                  have hx2 := pw_cell_below hW z2
                  have hx3 := pw_cell_below hW z3
                  have hx4 := pw_cell_below hW z4
                  refine Reg.wp_val (W' := W) (v := .agg #[.int .i64 key, .int .i64 child, .int .i64 len, .slice AB loc.length cB, .int .i64 next]) (by simp only [execOp, e5, Reg.eval_const, resolve, invoke, builtin, List.map_toArray, List.map_cons, List.map_nil, Option.map_some, Option.map_none]; (first | rfl | go_simp | (go_simp; rfl))) ⟨_, rfl, Bel.refl W, rfl⟩
                | 2, hoi =>
                  simp only [List.getElem?_toArray, List.getElem?_cons_succ, List.getElem?_cons_zero, Option.some.injEq] at hoi
                  subst hoi
                  refine Reg.ob_plain rfl ?_
                  have e33 : a.eval (.tmp 33) = .func (.func 73) #[] #[] := need 0 _ 33 rfl rfl (by kernel_rfl)
                  have e34 : a.eval (.tmp 34) = .agg #[.int .i64 key, .int .i64 child, .int .i64 len, .slice AB loc.length cB, .int .i64 next] := need 1 _ 34 rfl rfl (by kernel_rfl)
                  refine Reg.wp_call (f := 73) (args := #[.agg #[.int .i64 key, .int .i64 child, .int .i64 len, .slice AB loc.length cB, .int .i64 next]]) (by simp only [execOp, e33, e34, Reg.eval_const, resolve, invoke, List.map_toArray, List.map_cons, List.map_nil]; go_simp) ?_
                  refine (HMC.out W).mono ?_
                  rintro e W' ⟨rfl, hb⟩; exact ⟨_, rfl, _, rfl, hb, rfl⟩
                | 3, hoi =>
                  simp only [List.getElem?_toArray, List.getElem?_cons_succ, List.getElem?_cons_zero, Option.some.injEq] at hoi
                  subst hoi
                  refine Reg.ob_plain rfl ?_
                  have e35 : a.eval (.tmp 35) = .bool true := need 2 _ 35 rfl rfl (by kernel_rfl)
                  refine Reg.wp_val (W' := W) (v := .bool false) (by simp only [execOp, e35, Reg.eval_const, resolve, invoke, builtin, List.map_toArray, List.map_cons, List.map_nil, Option.map_some, Option.map_none]; (first | rfl | go_simp | (go_simp; rfl))) ⟨_, rfl, Bel.refl W, rfl⟩
                | 4, hoi =>
                  simp only [List.getElem?_toArray, List.getElem?_cons_succ, List.getElem?_cons_zero, Option.some.injEq] at hoi
                  subst hoi
                  refine Reg.ob_plain rfl ?_
                  have e36 : a.eval (.tmp 36) = .bool false := need 3 _ 36 rfl rfl (by kernel_rfl)
                  refine Reg.wp_val (W' := W) (v := _) (by simp only [execOp, e36, Reg.eval_const]; rfl) ⟨_, rfl, Bel.refl W, rfl⟩
                | 5, hoi =>
                  simp only [List.getElem?_toArray, List.getElem?_cons_succ, List.getElem?_cons_zero, Option.some.injEq] at hoi
                  subst hoi
                  have eg : a.eval (.tmp 37) = .bool false := need 4 _ 37 rfl rfl (by kernel_rfl)
                  refine Reg.ob_yes rfl rfl rfl eg ?_
                  have e4 : a.eval (.tmp 4) = .int .i64 (k : Int) := old 4 (by kernel_rfl)
                  refine Reg.wp_val (W' := W) (v := _) (by simp only [execOp, e4, Reg.eval_const]; rfl) ⟨_, rfl, Bel.refl W, rfl⟩
                | 6, hoi =>
                  simp only [List.getElem?_toArray, List.getElem?_cons_succ, List.getElem?_cons_zero, Option.some.injEq] at hoi
                  subst hoi
                  have eg : a.eval (.tmp 37) = .bool false := need 4 _ 37 rfl rfl (by kernel_rfl)
                  refine Reg.ob_yes rfl rfl rfl eg ?_
                  have e38 : a.eval (.tmp 38) = .int .i64 (k : Int) := need 5 _ 38 rfl rfl (by kernel_rfl)
                  have hkk := HKK.out
                  refine Reg.wp_val (W' := W) (v := .bool false) (by simp only [execOp, e38, Reg.eval_const, resolve, invoke, builtin, List.map_toArray, List.map_cons, List.map_nil, Option.map_some, Option.map_none]; (first | rfl | go_simp | (go_simp; rfl))) ⟨_, rfl, Bel.refl W, rfl⟩
                | 7, hoi =>
                  simp only [List.getElem?_toArray, List.getElem?_cons_succ, List.getElem?_cons_zero, Option.some.injEq] at hoi
                  subst hoi
                  have eg : a.eval (.tmp 37) = .bool false := need 4 _ 37 rfl rfl (by kernel_rfl)
                  refine Reg.ob_yes rfl rfl rfl eg ?_
                  have e39 : a.eval (.tmp 39) = .bool false := need 6 _ 39 rfl rfl (by kernel_rfl)
                  refine Reg.wp_val (W' := W) (v := _) (by simp only [execOp, e39, Reg.eval_const]; rfl) ⟨_, rfl, Bel.refl W, rfl⟩
                | 8, hoi =>
                  simp only [List.getElem?_toArray, List.getElem?_cons_succ, List.getElem?_cons_zero, Option.some.injEq] at hoi
                  subst hoi
                  have eg : a.eval (.tmp 40) = .bool false := need 7 _ 40 rfl rfl (by kernel_rfl)
                  exact Reg.ob_no rfl rfl rfl eg (by decide) rfl
                | 9, hoi =>
                  simp only [List.getElem?_toArray, List.getElem?_cons_succ, List.getElem?_cons_zero, Option.some.injEq] at hoi
                  subst hoi
                  have eg : a.eval (.tmp 40) = .bool false := need 7 _ 40 rfl rfl (by kernel_rfl)
                  exact Reg.ob_no rfl rfl rfl eg (by decide) rfl
                | 10, hoi =>
                  simp only [List.getElem?_toArray, List.getElem?_cons_succ, List.getElem?_cons_zero, Option.some.injEq] at hoi
                  subst hoi
                  have eg : a.eval (.tmp 40) = .bool false := need 7 _ 40 rfl rfl (by kernel_rfl)
                  exact Reg.ob_no rfl rfl rfl eg (by decide) rfl
                | 11, hoi =>
                  simp only [List.getElem?_toArray, List.getElem?_cons_succ, List.getElem?_cons_zero, Option.some.injEq] at hoi
                  subst hoi
                  have eg : a.eval (.tmp 40) = .bool false := need 7 _ 40 rfl rfl (by kernel_rfl)
                  exact Reg.ob_no rfl rfl rfl eg (by decide) rfl
                | 12, hoi =>
                  simp only [List.getElem?_toArray, List.getElem?_cons_succ, List.getElem?_cons_zero, Option.some.injEq] at hoi
                  subst hoi
                  have eg : a.eval (.tmp 40) = .bool false := need 7 _ 40 rfl rfl (by kernel_rfl)
                  exact Reg.ob_no rfl rfl rfl eg (by decide) rfl
                | 13, hoi =>
                  simp only [List.getElem?_toArray, List.getElem?_cons_succ, List.getElem?_cons_zero, Option.some.injEq] at hoi
                  subst hoi
                  have eg : a.eval (.tmp 40) = .bool false := need 7 _ 40 rfl rfl (by kernel_rfl)
                  exact Reg.ob_no rfl rfl rfl eg (by decide) rfl
                | 14, hoi =>
                  simp only [List.getElem?_toArray, List.getElem?_cons_succ, List.getElem?_cons_zero, Option.some.injEq] at hoi
                  subst hoi
                  have eg : a.eval (.tmp 40) = .bool false := need 7 _ 40 rfl rfl (by kernel_rfl)
                  exact Reg.ob_no rfl rfl rfl eg (by decide) rfl
                | 15, hoi =>
                  simp only [List.getElem?_toArray, List.getElem?_cons_succ, List.getElem?_cons_zero, Option.some.injEq] at hoi
                  subst hoi
                  have eg : a.eval (.tmp 40) = .bool false := need 7 _ 40 rfl rfl (by kernel_rfl)
                  exact Reg.ob_no rfl rfl rfl eg (by decide) rfl
                | 16, hoi =>
                  simp only [List.getElem?_toArray, List.getElem?_cons_succ, List.getElem?_cons_zero, Option.some.injEq] at hoi
                  subst hoi
                  have eg : a.eval (.tmp 40) = .bool false := need 7 _ 40 rfl rfl (by kernel_rfl)
                  exact Reg.ob_no rfl rfl rfl eg (by decide) rfl
                | 17, hoi =>
                  simp only [List.getElem?_toArray, List.getElem?_cons_succ, List.getElem?_cons_zero, Option.some.injEq] at hoi
                  subst hoi
                  have eg : a.eval (.tmp 40) = .bool false := need 7 _ 40 rfl rfl (by kernel_rfl)
                  exact Reg.ob_no rfl rfl rfl eg (by decide) rfl
                | 18, hoi =>
                  simp only [List.getElem?_toArray, List.getElem?_cons_succ, List.getElem?_cons_zero, Option.some.injEq] at hoi
                  subst hoi
                  have eg : a.eval (.tmp 37) = .bool false := need 4 _ 37 rfl rfl (by kernel_rfl)
                  refine Reg.ob_yes rfl rfl rfl eg ?_
                  have e40 : a.eval (.tmp 40) = .bool false := need 7 _ 40 rfl rfl (by kernel_rfl)
                  have e50 : a.eval (.tmp 50) = undef := need 17 _ 50 rfl rfl (by kernel_rfl)
                  refine Reg.wp_val (W' := W) (v := .bool false) (by simp only [execOp, e40, e50, Reg.eval_const, resolve, invoke, builtin, List.map_toArray, List.map_cons, List.map_nil, Option.map_some, Option.map_none]; (first | rfl | go_simp | (go_simp; rfl))) ⟨_, rfl, Bel.refl W, rfl⟩
                | 19, hoi =>
                  simp only [List.getElem?_toArray, List.getElem?_cons_succ, List.getElem?_cons_zero, Option.some.injEq] at hoi
                  subst hoi
                  refine Reg.ob_plain rfl ?_
                  have e37 : a.eval (.tmp 37) = .bool false := need 4 _ 37 rfl rfl (by kernel_rfl)
                  have e51 : a.eval (.tmp 51) = .bool false := need 18 _ 51 rfl rfl (by kernel_rfl)
                  refine Reg.wp_val (W' := W) (v := .bool false) (by simp only [execOp, e37, e51, Reg.eval_const, resolve, invoke, builtin, List.map_toArray, List.map_cons, List.map_nil, Option.map_some, Option.map_none]; (first | rfl | go_simp | (go_simp; rfl))) ⟨_, rfl, Bel.refl W, rfl⟩
                | n + 20, hoi => simp at hoi
              · intro a w9 hW hsize hdef got same did
                have ha := Reg.act_of [33, 34, 35, 36, 37, 38, 39, 40, 41, 42, 43, 44, 45, 46, 47, 48, 49, 50, 51, 52] hsize hdef same (by kernel_rfl)
                simp only [List.foldl_cons, List.foldl_nil] at ha
                generalize a.tmps.getD 33 undef = y33 at ha
                generalize a.tmps.getD 34 undef = y34 at ha
                generalize a.tmps.getD 35 undef = y35 at ha
                generalize a.tmps.getD 36 undef = y36 at ha
                generalize a.tmps.getD 37 undef = y37 at ha
                generalize a.tmps.getD 38 undef = y38 at ha
                generalize a.tmps.getD 39 undef = y39 at ha
                generalize a.tmps.getD 40 undef = y40 at ha
                generalize a.tmps.getD 41 undef = y41 at ha
                generalize a.tmps.getD 42 undef = y42 at ha
                generalize a.tmps.getD 43 undef = y43 at ha
                generalize a.tmps.getD 44 undef = y44 at ha
                generalize a.tmps.getD 45 undef = y45 at ha
                generalize a.tmps.getD 46 undef = y46 at ha
                generalize a.tmps.getD 47 undef = y47 at ha
                generalize a.tmps.getD 48 undef = y48 at ha
                generalize a.tmps.getD 49 undef = y49 at ha
                generalize a.tmps.getD 50 undef = y50 at ha
                generalize a.tmps.getD 51 undef = y51 at ha
                have k52 := got 19 _ 52 rfl rfl
                simp only at k52
                rw [k52] at ha
                clear k52
                clear got same hsize hdef did
                subst ha
                simp only [List.setIfInBounds_toArray, List.set_cons_zero, List.set_cons_succ]
                go_wp2
                go_roundw
                case rel =>
                  refine ⟨k + 1, by go_num, by omega, Lib.hid (HX5.out.below hW), Lib.hid ?_⟩
                  rw [← HI.out, HIK2.out, HPK.out]
                  have : prevK l (k + 1) = some key := by unfold prevK; rw [if_neg (by omega), Nat.add_sub_cancel, HGT.out]; rfl
                  rw [this]
                  simp 
                case measure => (simp [intOf] <;> omega)
            · obtain ⟨j, hj⟩ : ∃ j, k = j + 1 := ⟨k - 1, by omega⟩
              have hjl : j < l.length := by omega
              obtain ⟨ad', e', kj, childj, lenj, locj, nextj, ABj, cBj, hgetj, y0, y1, y2, y3, y4, hcBj, hCBj⟩ := cel_at (Kd.C_below HC.out HX5.out.1) j hjl
              obtain rfl := Option.some.inj e'
              have zj := y0
              have HPK : Hid (prevK l k = some kj) := Lib.hid (by unfold prevK; rw [if_neg hk0, hj, Nat.add_sub_cancel, hgetj]; rfl)
              have HKK : Hid (0 < k) := Lib.hid (by omega)
              have HKW : Hid (IntKind.i64.wrap ((k : Int) - 1) = (j : Int)) := Lib.hid (by rw [IntKind.wrap_i64]; omega)
              have HJL := Lib.hid hjl
              have HJ := Lib.hid hj
              clear e' hk0 hgetj hcBj hCBj y0 y1 y2 y3 y4 hjl hj
              by_cases hge : kj ≥ key
              · have HGE : Hid (decide (kj ≥ key) = true) := Lib.hid (by simpa using hge)
                have HLT : Hid (decide (kj < key) = false) := Lib.hid (by simp; omega)
                clear hge
                refine Reg.region_mono (P := Try.prog) (Ext := Bel) (R := fun i v W => match i with
                    | 0 => v = .func (.func 73) #[] #[]
                    | 1 => v = .agg #[.int .i64 key, .int .i64 child, .int .i64 len, .slice AB loc.length cB, .int .i64 next]
                    | 2 => v = .bool true
                    | 3 => v = .bool false
                    | 4 => v = .bool false
                    | 5 => v = .int .i64 (k : Int)
                    | 6 => v = .bool true
                    | 7 => v = .bool true
                    | 8 => v = .pointer (some ⟨w.heap.size, 2, none⟩)
                    | 9 => v = .slice (some ad) l.length cap
                    | 10 => v = .int .i64 (k : Int)
                    | 11 => v = .int .i64 (j : Int)
                    | 12 => v = .pointer (some (ad.add (j * 5)))
                    | 13 => v = .pointer (some (ad.add (j * 5)))
                    | 14 => v = .int .i64 kj
                    | 15 => v = .pointer (some ⟨g5, 0, none⟩)
                    | 16 => v = .int .i64 key
                    | 17 => v = .bool true
                    | 18 => v = .bool true
                    | 19 => v = .bool true
                    | _ => True) (fun W => Below W5.heap.size W5 W) rfl (by kernel_rfl) (by kernel_rfl) (Bel.drew W5) (fun W W' h h' => bthen h h') Bel.refl (by intro j v W W' hx h; split at h <;> exact h) ?_ ?_
                · intro i oi hoi a W hW need old
                  match i, hoi with
                  | 0, hoi =>
                    simp only [List.getElem?_toArray, List.getElem?_cons_succ, List.getElem?_cons_zero, Option.some.injEq] at hoi
                    subst hoi
                    refine Reg.ob_plain rfl ?_
                    have e3 : a.eval (.tmp 3) = .func (.func 73) #[] #[] := old 3 (by kernel_rfl)
                    refine Reg.wp_val (W' := W) (v := _) (by simp only [execOp, e3, Reg.eval_const]; rfl) ⟨_, rfl, Bel.refl W, rfl⟩
                  | 1, hoi =>
                    simp only [List.getElem?_toArray, List.getElem?_cons_succ, List.getElem?_cons_zero, Option.some.injEq] at hoi
                    subst hoi
                    refine Reg.ob_plain rfl ?_
                    have e5 : a.eval (.tmp 5) = .pointer (some ⟨g5, 0, none⟩) := old 5 (by kernel_rfl)
                    have hx0 := pw_cell_below hW z0
                    have hx1 := pw_cell_below hW z1
                    have hx2 := pw_cell_below hW z2
                    have hx3 := pw_cell_below hW z3
                    have hx4 := pw_cell_below hW z4
                    refine Reg.wp_val (W' := W) (v := .agg #[.int .i64 key, .int .i64 child, .int .i64 len, .slice AB loc.length cB, .int .i64 next]) (by simp only [execOp, e5, Reg.eval_const, resolve, invoke, builtin, List.map_toArray, List.map_cons, List.map_nil, Option.map_some, Option.map_none]; (first | rfl | go_simp | (go_simp; rfl))) ⟨_, rfl, Bel.refl W, rfl⟩
                  | 2, hoi =>
                    simp only [List.getElem?_toArray, List.getElem?_cons_succ, List.getElem?_cons_zero, Option.some.injEq] at hoi
                    subst hoi
                    refine Reg.ob_plain rfl ?_
                    have e33 : a.eval (.tmp 33) = .func (.func 73) #[] #[] := need 0 _ 33 rfl rfl (by kernel_rfl)
                    have e34 : a.eval (.tmp 34) = .agg #[.int .i64 key, .int .i64 child, .int .i64 len, .slice AB loc.length cB, .int .i64 next] := need 1 _ 34 rfl rfl (by kernel_rfl)
                    refine Reg.wp_call (f := 73) (args := #[.agg #[.int .i64 key, .int .i64 child, .int .i64 len, .slice AB loc.length cB, .int .i64 next]]) (by simp only [execOp, e33, e34, Reg.eval_const, resolve, invoke, List.map_toArray, List.map_cons, List.map_nil]; go_simp) ?_
                    refine (HMC.out W).mono ?_
                    rintro e W' ⟨rfl, hb⟩; exact ⟨_, rfl, _, rfl, hb, rfl⟩
                  | 3, hoi =>
                    simp only [List.getElem?_toArray, List.getElem?_cons_succ, List.getElem?_cons_zero, Option.some.injEq] at hoi
                    subst hoi
                    refine Reg.ob_plain rfl ?_
                    have e35 : a.eval (.tmp 35) = .bool true := need 2 _ 35 rfl rfl (by kernel_rfl)
                    refine Reg.wp_val (W' := W) (v := .bool false) (by simp only [execOp, e35, Reg.eval_const, resolve, invoke, builtin, List.map_toArray, List.map_cons, List.map_nil, Option.map_some, Option.map_none]; (first | rfl | go_simp | (go_simp; rfl))) ⟨_, rfl, Bel.refl W, rfl⟩
                  | 4, hoi =>
                    simp only [List.getElem?_toArray, List.getElem?_cons_succ, List.getElem?_cons_zero, Option.some.injEq] at hoi
                    subst hoi
                    refine Reg.ob_plain rfl ?_
                    have e36 : a.eval (.tmp 36) = .bool false := need 3 _ 36 rfl rfl (by kernel_rfl)
                    refine Reg.wp_val (W' := W) (v := _) (by simp only [execOp, e36, Reg.eval_const]; rfl) ⟨_, rfl, Bel.refl W, rfl⟩
                  | 5, hoi =>
                    simp only [List.getElem?_toArray, List.getElem?_cons_succ, List.getElem?_cons_zero, Option.some.injEq] at hoi
                    subst hoi
                    have eg : a.eval (.tmp 37) = .bool false := need 4 _ 37 rfl rfl (by kernel_rfl)
                    refine Reg.ob_yes rfl rfl rfl eg ?_
                    have e4 : a.eval (.tmp 4) = .int .i64 (k : Int) := old 4 (by kernel_rfl)
                    refine Reg.wp_val (W' := W) (v := _) (by simp only [execOp, e4, Reg.eval_const]; rfl) ⟨_, rfl, Bel.refl W, rfl⟩
                  | 6, hoi =>
                    simp only [List.getElem?_toArray, List.getElem?_cons_succ, List.getElem?_cons_zero, Option.some.injEq] at hoi
                    subst hoi
                    have eg : a.eval (.tmp 37) = .bool false := need 4 _ 37 rfl rfl (by kernel_rfl)
                    refine Reg.ob_yes rfl rfl rfl eg ?_
                    have e38 : a.eval (.tmp 38) = .int .i64 (k : Int) := need 5 _ 38 rfl rfl (by kernel_rfl)
                    have hkk := HKK.out
                    refine Reg.wp_val (W' := W) (v := .bool true) (by simp only [execOp, e38, Reg.eval_const, resolve, invoke, builtin, List.map_toArray, List.map_cons, List.map_nil, Option.map_some, Option.map_none]; (first | rfl | go_simp | (go_simp; rfl))) ⟨_, rfl, Bel.refl W, rfl⟩
                  | 7, hoi =>
                    simp only [List.getElem?_toArray, List.getElem?_cons_succ, List.getElem?_cons_zero, Option.some.injEq] at hoi
                    subst hoi
                    have eg : a.eval (.tmp 37) = .bool false := need 4 _ 37 rfl rfl (by kernel_rfl)
                    refine Reg.ob_yes rfl rfl rfl eg ?_
                    have e39 : a.eval (.tmp 39) = .bool true := need 6 _ 39 rfl rfl (by kernel_rfl)
                    refine Reg.wp_val (W' := W) (v := _) (by simp only [execOp, e39, Reg.eval_const]; rfl) ⟨_, rfl, Bel.refl W, rfl⟩
                  | 8, hoi =>
                    simp only [List.getElem?_toArray, List.getElem?_cons_succ, List.getElem?_cons_zero, Option.some.injEq] at hoi
                    subst hoi
                    have eg : a.eval (.tmp 40) = .bool true := need 7 _ 40 rfl rfl (by kernel_rfl)
                    refine Reg.ob_yes rfl rfl rfl eg ?_
                    have e1 : a.eval (.tmp 1) = .pointer (some ⟨w.heap.size, 0, none⟩) := old 1 (by kernel_rfl)
                    refine Reg.wp_val (W' := W) (v := .pointer (some ⟨w.heap.size, 2, none⟩)) (by simp only [execOp, e1, Reg.eval_const, resolve, invoke, builtin, List.map_toArray, List.map_cons, List.map_nil, Option.map_some, Option.map_none]; (first | rfl | go_simp | (go_simp; rfl))) ⟨_, rfl, Bel.refl W, rfl⟩
                  | 9, hoi =>
                    simp only [List.getElem?_toArray, List.getElem?_cons_succ, List.getElem?_cons_zero, Option.some.injEq] at hoi
                    subst hoi
                    have eg : a.eval (.tmp 40) = .bool true := need 7 _ 40 rfl rfl (by kernel_rfl)
                    refine Reg.ob_yes rfl rfl rfl eg ?_
                    have e41 : a.eval (.tmp 41) = .pointer (some ⟨w.heap.size, 2, none⟩) := need 8 _ 41 rfl rfl (by kernel_rfl)
                    have hx := pw_cell_below hW n2
                    refine Reg.wp_val (W' := W) (v := .slice (some ad) l.length cap) (by simp only [execOp, e41, Reg.eval_const, resolve, invoke, builtin, List.map_toArray, List.map_cons, List.map_nil, Option.map_some, Option.map_none]; (first | rfl | go_simp | (go_simp; rfl))) ⟨_, rfl, Bel.refl W, rfl⟩
                  | 10, hoi =>
                    simp only [List.getElem?_toArray, List.getElem?_cons_succ, List.getElem?_cons_zero, Option.some.injEq] at hoi
                    subst hoi
                    have eg : a.eval (.tmp 40) = .bool true := need 7 _ 40 rfl rfl (by kernel_rfl)
                    refine Reg.ob_yes rfl rfl rfl eg ?_
                    have e4 : a.eval (.tmp 4) = .int .i64 (k : Int) := old 4 (by kernel_rfl)
                    refine Reg.wp_val (W' := W) (v := _) (by simp only [execOp, e4, Reg.eval_const]; rfl) ⟨_, rfl, Bel.refl W, rfl⟩
                  | 11, hoi =>
                    simp only [List.getElem?_toArray, List.getElem?_cons_succ, List.getElem?_cons_zero, Option.some.injEq] at hoi
                    subst hoi
                    have eg : a.eval (.tmp 40) = .bool true := need 7 _ 40 rfl rfl (by kernel_rfl)
                    refine Reg.ob_yes rfl rfl rfl eg ?_
                    have e43 : a.eval (.tmp 43) = .int .i64 (k : Int) := need 10 _ 43 rfl rfl (by kernel_rfl)
                    have hkw := HKW.out
                    refine Reg.wp_val (W' := W) (v := .int .i64 (j : Int)) (by simp only [execOp, e43, Reg.eval_const, resolve, invoke, builtin, List.map_toArray, List.map_cons, List.map_nil, Option.map_some, Option.map_none]; (first | rfl | go_simp | (go_simp; rfl))) ⟨_, rfl, Bel.refl W, rfl⟩
                  | 12, hoi =>
                    simp only [List.getElem?_toArray, List.getElem?_cons_succ, List.getElem?_cons_zero, Option.some.injEq] at hoi
                    subst hoi
                    have eg : a.eval (.tmp 40) = .bool true := need 7 _ 40 rfl rfl (by kernel_rfl)
                    refine Reg.ob_yes rfl rfl rfl eg ?_
                    have e42 : a.eval (.tmp 42) = .slice (some ad) l.length cap := need 9 _ 42 rfl rfl (by kernel_rfl)
                    have e44 : a.eval (.tmp 44) = .int .i64 (j : Int) := need 11 _ 44 rfl rfl (by kernel_rfl)
                    have hjl := HJL.out
                    refine Reg.wp_val (W' := W) (v := .pointer (some (ad.add (j * 5)))) (by simp only [execOp, e42, e44, Reg.eval_const, resolve, invoke, builtin, List.map_toArray, List.map_cons, List.map_nil, Option.map_some, Option.map_none]; (first | rfl | go_simp | (go_simp; rfl))) ⟨_, rfl, Bel.refl W, rfl⟩
                  | 13, hoi =>
                    simp only [List.getElem?_toArray, List.getElem?_cons_succ, List.getElem?_cons_zero, Option.some.injEq] at hoi
                    subst hoi
                    have eg : a.eval (.tmp 40) = .bool true := need 7 _ 40 rfl rfl (by kernel_rfl)
                    refine Reg.ob_yes rfl rfl rfl eg ?_
                    have e45 : a.eval (.tmp 45) = .pointer (some (ad.add (j * 5))) := need 12 _ 45 rfl rfl (by kernel_rfl)
                    refine Reg.wp_val (W' := W) (v := .pointer (some (ad.add (j * 5)))) (by simp only [execOp, e45, Reg.eval_const, resolve, invoke, builtin, List.map_toArray, List.map_cons, List.map_nil, Option.map_some, Option.map_none]; (first | rfl | go_simp | (go_simp; rfl))) ⟨_, rfl, Bel.refl W, rfl⟩
                  | 14, hoi =>
                    simp only [List.getElem?_toArray, List.getElem?_cons_succ, List.getElem?_cons_zero, Option.some.injEq] at hoi
                    subst hoi
                    have eg : a.eval (.tmp 40) = .bool true := need 7 _ 40 rfl rfl (by kernel_rfl)
                    refine Reg.ob_yes rfl rfl rfl eg ?_
                    have e46 : a.eval (.tmp 46) = .pointer (some (ad.add (j * 5))) := need 13 _ 46 rfl rfl (by kernel_rfl)
                    have hx := pw_cell_below hW zj
                    refine Reg.wp_val (W' := W) (v := .int .i64 kj) (by simp only [execOp, e46, Reg.eval_const, resolve, invoke, builtin, List.map_toArray, List.map_cons, List.map_nil, Option.map_some, Option.map_none]; (first | rfl | go_simp | (go_simp; rfl))) ⟨_, rfl, Bel.refl W, rfl⟩
                  | 15, hoi =>
                    simp only [List.getElem?_toArray, List.getElem?_cons_succ, List.getElem?_cons_zero, Option.some.injEq] at hoi
                    subst hoi
                    have eg : a.eval (.tmp 40) = .bool true := need 7 _ 40 rfl rfl (by kernel_rfl)
                    refine Reg.ob_yes rfl rfl rfl eg ?_
                    have e5 : a.eval (.tmp 5) = .pointer (some ⟨g5, 0, none⟩) := old 5 (by kernel_rfl)
                    refine Reg.wp_val (W' := W) (v := .pointer (some ⟨g5, 0, none⟩)) (by simp only [execOp, e5, Reg.eval_const, resolve, invoke, builtin, List.map_toArray, List.map_cons, List.map_nil, Option.map_some, Option.map_none]; (first | rfl | go_simp | (go_simp; rfl))) ⟨_, rfl, Bel.refl W, rfl⟩
                  | 16, hoi =>
                    simp only [List.getElem?_toArray, List.getElem?_cons_succ, List.getElem?_cons_zero, Option.some.injEq] at hoi
                    subst hoi
                    have eg : a.eval (.tmp 40) = .bool true := need 7 _ 40 rfl rfl (by kernel_rfl)
                    refine Reg.ob_yes rfl rfl rfl eg ?_
                    have e48 : a.eval (.tmp 48) = .pointer (some ⟨g5, 0, none⟩) := need 15 _ 48 rfl rfl (by kernel_rfl)
                    have hx := pw_cell_below hW z0
                    refine Reg.wp_val (W' := W) (v := .int .i64 key) (by simp only [execOp, e48, Reg.eval_const, resolve, invoke, builtin, List.map_toArray, List.map_cons, List.map_nil, Option.map_some, Option.map_none]; (first | rfl | go_simp | (go_simp; rfl))) ⟨_, rfl, Bel.refl W, rfl⟩
                  | 17, hoi =>
                    simp only [List.getElem?_toArray, List.getElem?_cons_succ, List.getElem?_cons_zero, Option.some.injEq] at hoi
                    subst hoi
                    have eg : a.eval (.tmp 40) = .bool true := need 7 _ 40 rfl rfl (by kernel_rfl)
                    refine Reg.ob_yes rfl rfl rfl eg ?_
                    have e47 : a.eval (.tmp 47) = .int .i64 kj := need 14 _ 47 rfl rfl (by kernel_rfl)
                    have e49 : a.eval (.tmp 49) = .int .i64 key := need 16 _ 49 rfl rfl (by kernel_rfl)
                    have hge := HGE.out
                    refine Reg.wp_val (W' := W) (v := .bool true) (by simp only [execOp, e47, e49, Reg.eval_const, resolve, invoke, builtin, List.map_toArray, List.map_cons, List.map_nil, Option.map_some, Option.map_none]; (first | rfl | go_simp | (go_simp; rfl))) ⟨_, rfl, Bel.refl W, rfl⟩
                  | 18, hoi =>
                    simp only [List.getElem?_toArray, List.getElem?_cons_succ, List.getElem?_cons_zero, Option.some.injEq] at hoi
                    subst hoi
                    have eg : a.eval (.tmp 37) = .bool false := need 4 _ 37 rfl rfl (by kernel_rfl)
                    refine Reg.ob_yes rfl rfl rfl eg ?_
                    have e40 : a.eval (.tmp 40) = .bool true := need 7 _ 40 rfl rfl (by kernel_rfl)
                    have e50 : a.eval (.tmp 50) = .bool true := need 17 _ 50 rfl rfl (by kernel_rfl)
                    refine Reg.wp_val (W' := W) (v := .bool true) (by simp only [execOp, e40, e50, Reg.eval_const, resolve, invoke, builtin, List.map_toArray, List.map_cons, List.map_nil, Option.map_some, Option.map_none]; (first | rfl | go_simp | (go_simp; rfl))) ⟨_, rfl, Bel.refl W, rfl⟩
                  | 19, hoi =>
                    simp only [List.getElem?_toArray, List.getElem?_cons_succ, List.getElem?_cons_zero, Option.some.injEq] at hoi
                    subst hoi
                    refine Reg.ob_plain rfl ?_
                    have e37 : a.eval (.tmp 37) = .bool false := need 4 _ 37 rfl rfl (by kernel_rfl)
                    have e51 : a.eval (.tmp 51) = .bool true := need 18 _ 51 rfl rfl (by kernel_rfl)
                    refine Reg.wp_val (W' := W) (v := .bool true) (by simp only [execOp, e37, e51, Reg.eval_const, resolve, invoke, builtin, List.map_toArray, List.map_cons, List.map_nil, Option.map_some, Option.map_none]; (first | rfl | go_simp | (go_simp; rfl))) ⟨_, rfl, Bel.refl W, rfl⟩
                  | n + 20, hoi => simp at hoi
                · intro a w9 hW hsize hdef got same did
                  have ha := Reg.act_of [33, 34, 35, 36, 37, 38, 39, 40, 41, 42, 43, 44, 45, 46, 47, 48, 49, 50, 51, 52] hsize hdef same (by kernel_rfl)
                  simp only [List.foldl_cons, List.foldl_nil] at ha
                  generalize a.tmps.getD 33 undef = y33 at ha
                  generalize a.tmps.getD 34 undef = y34 at ha
                  generalize a.tmps.getD 35 undef = y35 at ha
                  generalize a.tmps.getD 36 undef = y36 at ha
                  generalize a.tmps.getD 37 undef = y37 at ha
                  generalize a.tmps.getD 38 undef = y38 at ha
                  generalize a.tmps.getD 39 undef = y39 at ha
                  generalize a.tmps.getD 40 undef = y40 at ha
                  generalize a.tmps.getD 41 undef = y41 at ha
                  generalize a.tmps.getD 42 undef = y42 at ha
                  generalize a.tmps.getD 43 undef = y43 at ha
                  generalize a.tmps.getD 44 undef = y44 at ha
                  generalize a.tmps.getD 45 undef = y45 at ha
                  generalize a.tmps.getD 46 undef = y46 at ha
                  generalize a.tmps.getD 47 undef = y47 at ha
                  generalize a.tmps.getD 48 undef = y48 at ha
                  generalize a.tmps.getD 49 undef = y49 at ha
                  generalize a.tmps.getD 50 undef = y50 at ha
                  generalize a.tmps.getD 51 undef = y51 at ha
                  have k52 := got 19 _ 52 rfl rfl
                  simp only at k52
                  rw [k52] at ha
                  clear k52
                  clear got same hsize hdef did
                  subst ha
                  simp only [List.setIfInBounds_toArray, List.set_cons_zero, List.set_cons_succ]
                  go_wp2
                  go_ret
                  refine ⟨?_, bthen HX5.out.1 hW⟩
                  rw [← HI.out, HIK2.out, HPK.out]
                  simp [HLT.out]
              · have HGE : Hid (decide (kj ≥ key) = false) := Lib.hid (by simp; omega)
                have HLT : Hid (decide (kj < key) = true) := Lib.hid (by simp; omega)
                clear hge
                refine Reg.region_mono (P := Try.prog) (Ext := Bel) (R := fun i v W => match i with
                    | 0 => v = .func (.func 73) #[] #[]
                    | 1 => v = .agg #[.int .i64 key, .int .i64 child, .int .i64 len, .slice AB loc.length cB, .int .i64 next]
                    | 2 => v = .bool true
                    | 3 => v = .bool false
                    | 4 => v = .bool false
                    | 5 => v = .int .i64 (k : Int)
                    | 6 => v = .bool true
                    | 7 => v = .bool true
                    | 8 => v = .pointer (some ⟨w.heap.size, 2, none⟩)
                    | 9 => v = .slice (some ad) l.length cap
                    | 10 => v = .int .i64 (k : Int)
                    | 11 => v = .int .i64 (j : Int)
                    | 12 => v = .pointer (some (ad.add (j * 5)))
                    | 13 => v = .pointer (some (ad.add (j * 5)))
                    | 14 => v = .int .i64 kj
                    | 15 => v = .pointer (some ⟨g5, 0, none⟩)
                    | 16 => v = .int .i64 key
                    | 17 => v = .bool false
                    | 18 => v = .bool false
                    | 19 => v = .bool false
                    | _ => True) (fun W => Below W5.heap.size W5 W) rfl (by kernel_rfl) (by kernel_rfl) (Bel.drew W5) (fun W W' h h' => bthen h h') Bel.refl (by intro j v W W' hx h; split at h <;> exact h) ?_ ?_
                · intro i oi hoi a W hW need old
                  match i, hoi with
                  | 0, hoi =>
                    simp only [List.getElem?_toArray, List.getElem?_cons_succ, List.getElem?_cons_zero, Option.some.injEq] at hoi
                    subst hoi
                    refine Reg.ob_plain rfl ?_
                    have e3 : a.eval (.tmp 3) = .func (.func 73) #[] #[] := old 3 (by kernel_rfl)
                    refine Reg.wp_val (W' := W) (v := _) (by simp only [execOp, e3, Reg.eval_const]; rfl) ⟨_, rfl, Bel.refl W, rfl⟩
                  | 1, hoi =>
                    simp only [List.getElem?_toArray, List.getElem?_cons_succ, List.getElem?_cons_zero, Option.some.injEq] at hoi
                    subst hoi
                    refine Reg.ob_plain rfl ?_
                    have e5 : a.eval (.tmp 5) = .pointer (some ⟨g5, 0, none⟩) := old 5 (by kernel_rfl)
                    have hx0 := pw_cell_below hW z0
                    have hx1 := pw_cell_below hW z1
                    have hx2 := pw_cell_below hW z2
                    have hx3 := pw_cell_below hW z3
                    have hx4 := pw_cell_below hW z4
                    refine Reg.wp_val (W' := W) (v := .agg #[.int .i64 key, .int .i64 child, .int .i64 len, .slice AB loc.length cB, .int .i64 next]) (by simp only [execOp, e5, Reg.eval_const, resolve, invoke, builtin, List.map_toArray, List.map_cons, List.map_nil, Option.map_some, Option.map_none]; (first | rfl | go_simp | (go_simp; rfl))) ⟨_, rfl, Bel.refl W, rfl⟩
                  | 2, hoi =>
                    simp only [List.getElem?_toArray, List.getElem?_cons_succ, List.getElem?_cons_zero, Option.some.injEq] at hoi
                    subst hoi
                    refine Reg.ob_plain rfl ?_
                    have e33 : a.eval (.tmp 33) = .func (.func 73) #[] #[] := need 0 _ 33 rfl rfl (by kernel_rfl)
                    have e34 : a.eval (.tmp 34) = .agg #[.int .i64 key, .int .i64 child, .int .i64 len, .slice AB loc.length cB, .int .i64 next] := need 1 _ 34 rfl rfl (by kernel_rfl)
                    refine Reg.wp_call (f := 73) (args := #[.agg #[.int .i64 key, .int .i64 child, .int .i64 len, .slice AB loc.length cB, .int .i64 next]]) (by simp only [execOp, e33, e34, Reg.eval_const, resolve, invoke, List.map_toArray, List.map_cons, List.map_nil]; go_simp) ?_
                    refine (HMC.out W).mono ?_
                    rintro e W' ⟨rfl, hb⟩; exact ⟨_, rfl, _, rfl, hb, rfl⟩
                  | 3, hoi =>
                    simp only [List.getElem?_toArray, List.getElem?_cons_succ, List.getElem?_cons_zero, Option.some.injEq] at hoi
                    subst hoi
                    refine Reg.ob_plain rfl ?_
                    have e35 : a.eval (.tmp 35) = .bool true := need 2 _ 35 rfl rfl (by kernel_rfl)
                    refine Reg.wp_val (W' := W) (v := .bool false) (by simp only [execOp, e35, Reg.eval_const, resolve, invoke, builtin, List.map_toArray, List.map_cons, List.map_nil, Option.map_some, Option.map_none]; (first | rfl | go_simp | (go_simp; rfl))) ⟨_, rfl, Bel.refl W, rfl⟩
                  | 4, hoi =>
                    simp only [List.getElem?_toArray, List.getElem?_cons_succ, List.getElem?_cons_zero, Option.some.injEq] at hoi
                    subst hoi
                    refine Reg.ob_plain rfl ?_
                    have e36 : a.eval (.tmp 36) = .bool false := need 3 _ 36 rfl rfl (by kernel_rfl)
                    refine Reg.wp_val (W' := W) (v := _) (by simp only [execOp, e36, Reg.eval_const]; rfl) ⟨_, rfl, Bel.refl W, rfl⟩
                  | 5, hoi =>
                    simp only [List.getElem?_toArray, List.getElem?_cons_succ, List.getElem?_cons_zero, Option.some.injEq] at hoi
                    subst hoi
                    have eg : a.eval (.tmp 37) = .bool false := need 4 _ 37 rfl rfl (by kernel_rfl)
                    refine Reg.ob_yes rfl rfl rfl eg ?_
                    have e4 : a.eval (.tmp 4) = .int .i64 (k : Int) := old 4 (by kernel_rfl)
                    refine Reg.wp_val (W' := W) (v := _) (by simp only [execOp, e4, Reg.eval_const]; rfl) ⟨_, rfl, Bel.refl W, rfl⟩
                  | 6, hoi =>
                    simp only [List.getElem?_toArray, List.getElem?_cons_succ, List.getElem?_cons_zero, Option.some.injEq] at hoi
                    subst hoi
                    have eg : a.eval (.tmp 37) = .bool false := need 4 _ 37 rfl rfl (by kernel_rfl)
                    refine Reg.ob_yes rfl rfl rfl eg ?_
                    have e38 : a.eval (.tmp 38) = .int .i64 (k : Int) := need 5 _ 38 rfl rfl (by kernel_rfl)
                    have hkk := HKK.out
                    refine Reg.wp_val (W' := W) (v := .bool true) (by simp only [execOp, e38, Reg.eval_const, resolve, invoke, builtin, List.map_toArray, List.map_cons, List.map_nil, Option.map_some, Option.map_none]; (first | rfl | go_simp | (go_simp; rfl))) ⟨_, rfl, Bel.refl W, rfl⟩
                  | 7, hoi =>
                    simp only [List.getElem?_toArray, List.getElem?_cons_succ, List.getElem?_cons_zero, Option.some.injEq] at hoi
                    subst hoi
                    have eg : a.eval (.tmp 37) = .bool false := need 4 _ 37 rfl rfl (by kernel_rfl)
                    refine Reg.ob_yes rfl rfl rfl eg ?_
                    have e39 : a.eval (.tmp 39) = .bool true := need 6 _ 39 rfl rfl (by kernel_rfl)
                    refine Reg.wp_val (W' := W) (v := _) (by simp only [execOp, e39, Reg.eval_const]; rfl) ⟨_, rfl, Bel.refl W, rfl⟩
                  | 8, hoi =>
                    simp only [List.getElem?_toArray, List.getElem?_cons_succ, List.getElem?_cons_zero, Option.some.injEq] at hoi
                    subst hoi
                    have eg : a.eval (.tmp 40) = .bool true := need 7 _ 40 rfl rfl (by kernel_rfl)
                    refine Reg.ob_yes rfl rfl rfl eg ?_
                    have e1 : a.eval (.tmp 1) = .pointer (some ⟨w.heap.size, 0, none⟩) := old 1 (by kernel_rfl)
                    refine Reg.wp_val (W' := W) (v := .pointer (some ⟨w.heap.size, 2, none⟩)) (by simp only [execOp, e1, Reg.eval_const, resolve, invoke, builtin, List.map_toArray, List.map_cons, List.map_nil, Option.map_some, Option.map_none]; (first | rfl | go_simp | (go_simp; rfl))) ⟨_, rfl, Bel.refl W, rfl⟩
                  | 9, hoi =>
                    simp only [List.getElem?_toArray, List.getElem?_cons_succ, List.getElem?_cons_zero, Option.some.injEq] at hoi
                    subst hoi
                    have eg : a.eval (.tmp 40) = .bool true := need 7 _ 40 rfl rfl (by kernel_rfl)
                    refine Reg.ob_yes rfl rfl rfl eg ?_
                    have e41 : a.eval (.tmp 41) = .pointer (some ⟨w.heap.size, 2, none⟩) := need 8 _ 41 rfl rfl (by kernel_rfl)
                    have hx := pw_cell_below hW n2
                    refine Reg.wp_val (W' := W) (v := .slice (some ad) l.length cap) (by simp only [execOp, e41, Reg.eval_const, resolve, invoke, builtin, List.map_toArray, List.map_cons, List.map_nil, Option.map_some, Option.map_none]; (first | rfl | go_simp | (go_simp; rfl))) ⟨_, rfl, Bel.refl W, rfl⟩
                  | 10, hoi =>
                    simp only [List.getElem?_toArray, List.getElem?_cons_succ, List.getElem?_cons_zero, Option.some.injEq] at hoi
                    subst hoi
                    have eg : a.eval (.tmp 40) = .bool true := need 7 _ 40 rfl rfl (by kernel_rfl)
                    refine Reg.ob_yes rfl rfl rfl eg ?_
                    have e4 : a.eval (.tmp 4) = .int .i64 (k : Int) := old 4 (by kernel_rfl)
                    refine Reg.wp_val (W' := W) (v := _) (by simp only [execOp, e4, Reg.eval_const]; rfl) ⟨_, rfl, Bel.refl W, rfl⟩
                  | 11, hoi =>
                    simp only [List.getElem?_toArray, List.getElem?_cons_succ, List.getElem?_cons_zero, Option.some.injEq] at hoi
                    subst hoi
                    have eg : a.eval (.tmp 40) = .bool true := need 7 _ 40 rfl rfl (by kernel_rfl)
                    refine Reg.ob_yes rfl rfl rfl eg ?_
                    have e43 : a.eval (.tmp 43) = .int .i64 (k : Int) := need 10 _ 43 rfl rfl (by kernel_rfl)
                    have hkw := HKW.out
                    refine Reg.wp_val (W' := W) (v := .int .i64 (j : Int)) (by simp only [execOp, e43, Reg.eval_const, resolve, invoke, builtin, List.map_toArray, List.map_cons, List.map_nil, Option.map_some, Option.map_none]; (first | rfl | go_simp | (go_simp; rfl))) ⟨_, rfl, Bel.refl W, rfl⟩
                  | 12, hoi =>
                    simp only [List.getElem?_toArray, List.getElem?_cons_succ, List.getElem?_cons_zero, Option.some.injEq] at hoi
                    subst hoi
                    have eg : a.eval (.tmp 40) = .bool true := need 7 _ 40 rfl rfl (by kernel_rfl)
                    refine Reg.ob_yes rfl rfl rfl eg ?_
                    have e42 : a.eval (.tmp 42) = .slice (some ad) l.length cap := need 9 _ 42 rfl rfl (by kernel_rfl)
                    have e44 : a.eval (.tmp 44) = .int .i64 (j : Int) := need 11 _ 44 rfl rfl (by kernel_rfl)
                    have hjl := HJL.out
                    refine Reg.wp_val (W' := W) (v := .pointer (some (ad.add (j * 5)))) (by simp only [execOp, e42, e44, Reg.eval_const, resolve, invoke, builtin, List.map_toArray, List.map_cons, List.map_nil, Option.map_some, Option.map_none]; (first | rfl | go_simp | (go_simp; rfl))) ⟨_, rfl, Bel.refl W, rfl⟩
                  | 13, hoi =>
                    simp only [List.getElem?_toArray, List.getElem?_cons_succ, List.getElem?_cons_zero, Option.some.injEq] at hoi
                    subst hoi
                    have eg : a.eval (.tmp 40) = .bool true := need 7 _ 40 rfl rfl (by kernel_rfl)
                    refine Reg.ob_yes rfl rfl rfl eg ?_
                    have e45 : a.eval (.tmp 45) = .pointer (some (ad.add (j * 5))) := need 12 _ 45 rfl rfl (by kernel_rfl)
                    refine Reg.wp_val (W' := W) (v := .pointer (some (ad.add (j * 5)))) (by simp only [execOp, e45, Reg.eval_const, resolve, invoke, builtin, List.map_toArray, List.map_cons, List.map_nil, Option.map_some, Option.map_none]; (first | rfl | go_simp | (go_simp; rfl))) ⟨_, rfl, Bel.refl W, rfl⟩
                  | 14, hoi =>
                    simp only [List.getElem?_toArray, List.getElem?_cons_succ, List.getElem?_cons_zero, Option.some.injEq] at hoi
                    subst hoi
                    have eg : a.eval (.tmp 40) = .bool true := need 7 _ 40 rfl rfl (by kernel_rfl)
                    refine Reg.ob_yes rfl rfl rfl eg ?_
                    have e46 : a.eval (.tmp 46) = .pointer (some (ad.add (j * 5))) := need 13 _ 46 rfl rfl (by kernel_rfl)
                    have hx := pw_cell_below hW zj
                    refine Reg.wp_val (W' := W) (v := .int .i64 kj) (by simp only [execOp, e46, Reg.eval_const, resolve, invoke, builtin, List.map_toArray, List.map_cons, List.map_nil, Option.map_some, Option.map_none]; (first | rfl | go_simp | (go_simp; rfl))) ⟨_, rfl, Bel.refl W, rfl⟩
                  | 15, hoi =>
                    simp only [List.getElem?_toArray, List.getElem?_cons_succ, List.getElem?_cons_zero, Option.some.injEq] at hoi
                    subst hoi
                    have eg : a.eval (.tmp 40) = .bool true := need 7 _ 40 rfl rfl (by kernel_rfl)
                    refine Reg.ob_yes rfl rfl rfl eg ?_
                    have e5 : a.eval (.tmp 5) = .pointer (some ⟨g5, 0, none⟩) := old 5 (by kernel_rfl)
                    refine Reg.wp_val (W' := W) (v := .pointer (some ⟨g5, 0, none⟩)) (by simp only [execOp, e5, Reg.eval_const, resolve, invoke, builtin, List.map_toArray, List.map_cons, List.map_nil, Option.map_some, Option.map_none]; (first | rfl | go_simp | (go_simp; rfl))) ⟨_, rfl, Bel.refl W, rfl⟩
                  | 16, hoi =>
                    simp only [List.getElem?_toArray, List.getElem?_cons_succ, List.getElem?_cons_zero, Option.some.injEq] at hoi
                    subst hoi
                    have eg : a.eval (.tmp 40) = .bool true := need 7 _ 40 rfl rfl (by kernel_rfl)
                    refine Reg.ob_yes rfl rfl rfl eg ?_
                    have e48 : a.eval (.tmp 48) = .pointer (some ⟨g5, 0, none⟩) := need 15 _ 48 rfl rfl (by kernel_rfl)
                    have hx := pw_cell_below hW z0
                    refine Reg.wp_val (W' := W) (v := .int .i64 key) (by simp only [execOp, e48, Reg.eval_const, resolve, invoke, builtin, List.map_toArray, List.map_cons, List.map_nil, Option.map_some, Option.map_none]; (first | rfl | go_simp | (go_simp; rfl))) ⟨_, rfl, Bel.refl W, rfl⟩
                  | 17, hoi =>
                    simp only [List.getElem?_toArray, List.getElem?_cons_succ, List.getElem?_cons_zero, Option.some.injEq] at hoi
                    subst hoi
                    have eg : a.eval (.tmp 40) = .bool true := need 7 _ 40 rfl rfl (by kernel_rfl)
                    refine Reg.ob_yes rfl rfl rfl eg ?_
                    have e47 : a.eval (.tmp 47) = .int .i64 kj := need 14 _ 47 rfl rfl (by kernel_rfl)
                    have e49 : a.eval (.tmp 49) = .int .i64 key := need 16 _ 49 rfl rfl (by kernel_rfl)
                    have hge := HGE.out
                    refine Reg.wp_val (W' := W) (v := .bool false) (by simp only [execOp, e47, e49, Reg.eval_const, resolve, invoke, builtin, List.map_toArray, List.map_cons, List.map_nil, Option.map_some, Option.map_none]; (first | rfl | go_simp | (go_simp; rfl))) ⟨_, rfl, Bel.refl W, rfl⟩
                  | 18, hoi =>
                    simp only [List.getElem?_toArray, List.getElem?_cons_succ, List.getElem?_cons_zero, Option.some.injEq] at hoi
                    subst hoi
                    have eg : a.eval (.tmp 37) = .bool false := need 4 _ 37 rfl rfl (by kernel_rfl)
                    refine Reg.ob_yes rfl rfl rfl eg ?_
                    have e40 : a.eval (.tmp 40) = .bool true := need 7 _ 40 rfl rfl (by kernel_rfl)
                    have e50 : a.eval (.tmp 50) = .bool false := need 17 _ 50 rfl rfl (by kernel_rfl)
                    refine Reg.wp_val (W' := W) (v := .bool false) (by simp only [execOp, e40, e50, Reg.eval_const, resolve, invoke, builtin, List.map_toArray, List.map_cons, List.map_nil, Option.map_some, Option.map_none]; (first | rfl | go_simp | (go_simp; rfl))) ⟨_, rfl, Bel.refl W, rfl⟩
                  | 19, hoi =>
                    simp only [List.getElem?_toArray, List.getElem?_cons_succ, List.getElem?_cons_zero, Option.some.injEq] at hoi
                    subst hoi
                    refine Reg.ob_plain rfl ?_
                    have e37 : a.eval (.tmp 37) = .bool false := need 4 _ 37 rfl rfl (by kernel_rfl)
                    have e51 : a.eval (.tmp 51) = .bool false := need 18 _ 51 rfl rfl (by kernel_rfl)
                    refine Reg.wp_val (W' := W) (v := .bool false) (by simp only [execOp, e37, e51, Reg.eval_const, resolve, invoke, builtin, List.map_toArray, List.map_cons, List.map_nil, Option.map_some, Option.map_none]; (first | rfl | go_simp | (go_simp; rfl))) ⟨_, rfl, Bel.refl W, rfl⟩
                  | n + 20, hoi => simp at hoi
                · intro a w9 hW hsize hdef got same did
                  have ha := Reg.act_of [33, 34, 35, 36, 37, 38, 39, 40, 41, 42, 43, 44, 45, 46, 47, 48, 49, 50, 51, 52] hsize hdef same (by kernel_rfl)
                  simp only [List.foldl_cons, List.foldl_nil] at ha
                  generalize a.tmps.getD 33 undef = y33 at ha
                  generalize a.tmps.getD 34 undef = y34 at ha
                  generalize a.tmps.getD 35 undef = y35 at ha
                  generalize a.tmps.getD 36 undef = y36 at ha
                  generalize a.tmps.getD 37 undef = y37 at ha
                  generalize a.tmps.getD 38 undef = y38 at ha
                  generalize a.tmps.getD 39 undef = y39 at ha
                  generalize a.tmps.getD 40 undef = y40 at ha
                  generalize a.tmps.getD 41 undef = y41 at ha
                  generalize a.tmps.getD 42 undef = y42 at ha
                  generalize a.tmps.getD 43 undef = y43 at ha
                  generalize a.tmps.getD 44 undef = y44 at ha
                  generalize a.tmps.getD 45 undef = y45 at ha
                  generalize a.tmps.getD 46 undef = y46 at ha
                  generalize a.tmps.getD 47 undef = y47 at ha
                  generalize a.tmps.getD 48 undef = y48 at ha
                  generalize a.tmps.getD 49 undef = y49 at ha
                  generalize a.tmps.getD 50 undef = y50 at ha
                  generalize a.tmps.getD 51 undef = y51 at ha
                  have k52 := got 19 _ 52 rfl rfl
                  simp only at k52
                  rw [k52] at ha
                  clear k52
                  clear got same hsize hdef did
                  subst ha
                  simp only [List.setIfInBounds_toArray, List.set_cons_zero, List.set_cons_succ]
                  go_wp2
                  go_roundw
                  case rel =>
                    refine ⟨k + 1, by go_num, by omega, Lib.hid (HX5.out.below hW), Lib.hid ?_⟩
                    rw [← HI.out, HIK2.out, HPK.out]
                    have : prevK l (k + 1) = some key := by unfold prevK; rw [if_neg (by omega), Nat.add_sub_cancel, HGT.out]; rfl
                    rw [this]
                    simp [HLT.out]
                  case measure => (simp [intOf] <;> omega)
        · have hkl : k = l.length := by omega
          have hi := HI.out
          rw [hkl, List.drop_length] at hi
          have HI2 := Lib.hid hi
          clear hi hkl
          go_wp2
          go_ret
          refine ⟨?_, HX.out.1⟩
          rw [← HI2.out]
          rfl
    | false =>
      have hr : right ≠ 0 := by
        intro e; rw [e] at h1; simp at h1
      have hpv : pv = true := by simpa using h2
      subst hpv
      have br : (right == 0) = false := by simpa using hr
      clear h1 h2 hr
      go_enter Try.func47, Try.ntmps47
      go_upto_region 7 with (go_at_call 74; refine (HP.out _).mono ?_; rintro e w0 ⟨rfl, rfl⟩)
      have HX0 : Hid (Bx w #[.bool false, .int .i64 right, .slice A l.length cap] 55 (w.alloc (.cells #[.bool false, .int .i64 right, .slice A l.length cap] 55))) := Lib.hid (Bx.new _ _ _)
      go_loopw [28] (fun i wr => ∃ k : Nat, i = .int .i64 k ∧ k ≤ l.length ∧ Hid (Bx w #[.bool false, .int .i64 right, .slice A l.length cap] 55 wr) ∧ Hid (MOct.goodFrom false (prevK l k) (l.drop k) = MOct.goodFrom false none l)) (fun i _ => l.length - (intOf i).toNat)
      case atStart => exact ⟨0, rfl, by omega, HX0, Lib.hid rfl⟩
      case round =>
        obtain ⟨k, rfl, hk, HX, HI⟩ := hrel
        by_cases hlt : k < l.length
        · obtain ⟨ad, rfl, key, child, len, loc, next, AB, cB, hget, x0, x1, x2, x3, x4, hcB, hCB⟩ := cel_at (Kd.C_below HC.out HX.out.1) k hlt
          have HGT := Lib.hid hget
          have HIK := Lib.hid (goodFrom_at (leaf := false) hget (prevK l k))
          clear hget hCB hcB
          go_upto_region 9 with (fail)
          generalize hW5 : wr.alloc (Obj.cells #[Value.int IntKind.i64 key, Value.int IntKind.i64 child, Value.int IntKind.i64 len, Value.slice AB loc.length cB, Value.int IntKind.i64 next] 87) = W5
          have hb5 : Below wr.heap.size wr W5 := by subst hW5; exact (Below.refl _ _).alloc (Nat.le_refl _) _
          have hbx : W5.heap[wr.heap.size]? = some (.cells #[Value.int IntKind.i64 key, Value.int IntKind.i64 child, Value.int IntKind.i64 len, Value.slice AB loc.length cB, Value.int IntKind.i64 next] 87 (0, 0)) := by subst hW5; exact heap_alloc_new wr _
          obtain ⟨g5, hg5⟩ : ∃ g5, wr.heap.size = g5 := ⟨_, rfl⟩
          rw [hg5] at hbx ⊢
          have z0 : W5.cell? ⟨g5, 0, none⟩ = some (.int .i64 key) := cell_of_row W5 g5 0 _ 87 (0, 0) hbx
          have z1 : W5.cell? ⟨g5, 1, none⟩ = some (.int .i64 child) := cell_of_row W5 g5 1 _ 87 (0, 0) hbx
          have z2 : W5.cell? ⟨g5, 2, none⟩ = some (.int .i64 len) := cell_of_row W5 g5 2 _ 87 (0, 0) hbx
          have z3 : W5.cell? ⟨g5, 3, none⟩ = some (.slice AB loc.length cB) := cell_of_row W5 g5 3 _ 87 (0, 0) hbx
          have z4 : W5.cell? ⟨g5, 4, none⟩ = some (.int .i64 next) := cell_of_row W5 g5 4 _ 87 (0, 0) hbx
          have hX5 := HX.out.below hb5
          have n2 := hX5.cell (i := 2) rfl
          have HX5 := Lib.hid hX5
          clear hW5 hb5 hg5 hbx x0 x1 x2 x3 x4 hX5
          obtain ⟨mv, hmv⟩ : ∃ mv, mayV false (key, child, len, loc, next) = mv := ⟨_, rfl⟩
          have hmc := fun W => HM.out (key, child, len, loc, next) AB cB W
          rw [hmv] at hmc
          have hik := HIK.out
          rw [hmv] at hik
          have HIK2 := Lib.hid hik
          clear hmv hik HIK
          cases mv with
          | false =>
            have HMC := Lib.hid hmc
            clear hmc
            refine Reg.region_mono (P := Try.prog) (Ext := Bel) (R := fun i v W => match i with
                | 0 => v = .func (.func 72) #[] #[]
                | 1 => v = .agg #[.int .i64 key, .int .i64 child, .int .i64 len, .slice AB loc.length cB, .int .i64 next]
                | 2 => v = .bool false
                | 3 => v = .bool true
                | 4 => v = .bool true
                | 5 => v = undef
                | 6 => v = undef
                | 7 => v = undef
                | 8 => v = undef
                | 9 => v = undef
                | 10 => v = undef
                | 11 => v = undef
                | 12 => v = undef
                | 13 => v = undef
                | 14 => v = undef
                | 15 => v = undef
                | 16 => v = undef
                | 17 => v = undef
                | 18 => v = undef
                | 19 => v = .bool true
                | _ => True) (fun W => Below W5.heap.size W5 W) rfl (by kernel_rfl) (by kernel_rfl) (Bel.drew W5) (fun W W' h h' => bthen h h') Bel.refl (by intro j v W W' hx h; split at h <;> exact h) ?_ ?_
            · intro i oi hoi a W hW need old
              match i, hoi with
              | 0, hoi =>
                simp only [List.getElem?_toArray, List.getElem?_cons_succ, List.getElem?_cons_zero, Option.some.injEq] at hoi
                subst hoi
                refine Reg.ob_plain rfl ?_
                have e3 : a.eval (.tmp 3) = .func (.func 72) #[] #[] := old 3 (by kernel_rfl)
                refine Reg.wp_val (W' := W) (v := _) (by simp only [execOp, e3, Reg.eval_const]; rfl) ⟨_, rfl, Bel.refl W, rfl⟩
              | 1, hoi =>
                simp only [List.getElem?_toArray, List.getElem?_cons_succ, List.getElem?_cons_zero, Option.some.injEq] at hoi
                subst hoi
                refine Reg.ob_plain rfl ?_
                have e5 : a.eval (.tmp 5) = .pointer (some ⟨g5, 0, none⟩) := old 5 (by kernel_rfl)
                have hx0 := pw_cell_below hW z0
                have hx1 := pw_cell_below hW z1
                have hx2 := pw_cell_below hW z2
                have hx3 := pw_cell_below hW z3
                have hx4 := pw_cell_below hW z4
                refine Reg.wp_val (W' := W) (v := .agg #[.int .i64 key, .int .i64 child, .int .i64 len, .slice AB loc.length cB, .int .i64 next]) (by simp only [execOp, e5, Reg.eval_const, resolve, invoke, builtin, List.map_toArray, List.map_cons, List.map_nil, Option.map_some, Option.map_none]; (first | rfl | go_simp | (go_simp; rfl))) ⟨_, rfl, Bel.refl W, rfl⟩
              | 2, hoi =>
                simp only [List.getElem?_toArray, List.getElem?_cons_succ, List.getElem?_cons_zero, Option.some.injEq] at hoi
                subst hoi
                refine Reg.ob_plain rfl ?_
                have e33 : a.eval (.tmp 33) = .func (.func 72) #[] #[] := need 0 _ 33 rfl rfl (by kernel_rfl)
                have e34 : a.eval (.tmp 34) = .agg #[.int .i64 key, .int .i64 child, .int .i64 len, .slice AB loc.length cB, .int .i64 next] := need 1 _ 34 rfl rfl (by kernel_rfl)
                refine Reg.wp_call (f := 72) (args := #[.agg #[.int .i64 key, .int .i64 child, .int .i64 len, .slice AB loc.length cB, .int .i64 next]]) (by simp only [execOp, e33, e34, Reg.eval_const, resolve, invoke, List.map_toArray, List.map_cons, List.map_nil]; go_simp) ?_
                refine (HMC.out W).mono ?_
                rintro e W' ⟨rfl, hb⟩; exact ⟨_, rfl, _, rfl, hb, rfl⟩
              | 3, hoi =>
                simp only [List.getElem?_toArray, List.getElem?_cons_succ, List.getElem?_cons_zero, Option.some.injEq] at hoi
                subst hoi
                refine Reg.ob_plain rfl ?_
                have e35 : a.eval (.tmp 35) = .bool false := need 2 _ 35 rfl rfl (by kernel_rfl)
                refine Reg.wp_val (W' := W) (v := .bool true) (by simp only [execOp, e35, Reg.eval_const, resolve, invoke, builtin, List.map_toArray, List.map_cons, List.map_nil, Option.map_some, Option.map_none]; (first | rfl | go_simp | (go_simp; rfl))) ⟨_, rfl, Bel.refl W, rfl⟩
              | 4, hoi =>
                simp only [List.getElem?_toArray, List.getElem?_cons_succ, List.getElem?_cons_zero, Option.some.injEq] at hoi
                subst hoi
                refine Reg.ob_plain rfl ?_
                have e36 : a.eval (.tmp 36) = .bool true := need 3 _ 36 rfl rfl (by kernel_rfl)
                refine Reg.wp_val (W' := W) (v := _) (by simp only [execOp, e36, Reg.eval_const]; rfl) ⟨_, rfl, Bel.refl W, rfl⟩
              | 5, hoi =>
                simp only [List.getElem?_toArray, List.getElem?_cons_succ, List.getElem?_cons_zero, Option.some.injEq] at hoi
                subst hoi
                have eg : a.eval (.tmp 37) = .bool true := need 4 _ 37 rfl rfl (by kernel_rfl)
                exact Reg.ob_no rfl rfl rfl eg (by decide) rfl
              | 6, hoi =>
                simp only [List.getElem?_toArray, List.getElem?_cons_succ, List.getElem?_cons_zero, Option.some.injEq] at hoi
                subst hoi
                have eg : a.eval (.tmp 37) = .bool true := need 4 _ 37 rfl rfl (by kernel_rfl)
                exact Reg.ob_no rfl rfl rfl eg (by decide) rfl
              | 7, hoi =>
                simp only [List.getElem?_toArray, List.getElem?_cons_succ, List.getElem?_cons_zero, Option.some.injEq] at hoi
                subst hoi
                have eg : a.eval (.tmp 37) = .bool true := need 4 _ 37 rfl rfl (by kernel_rfl)
                exact Reg.ob_no rfl rfl rfl eg (by decide) rfl
              | 8, hoi =>
                simp only [List.getElem?_toArray, List.getElem?_cons_succ, List.getElem?_cons_zero, Option.some.injEq] at hoi
                subst hoi
                have eg : a.eval (.tmp 40) = undef := need 7 _ 40 rfl rfl (by kernel_rfl)
                exact Reg.ob_off rfl rfl rfl eg rfl
              | 9, hoi =>
                simp only [List.getElem?_toArray, List.getElem?_cons_succ, List.getElem?_cons_zero, Option.some.injEq] at hoi
                subst hoi
                have eg : a.eval (.tmp 40) = undef := need 7 _ 40 rfl rfl (by kernel_rfl)
                exact Reg.ob_off rfl rfl rfl eg rfl
              | 10, hoi =>
                simp only [List.getElem?_toArray, List.getElem?_cons_succ, List.getElem?_cons_zero, Option.some.injEq] at hoi
                subst hoi
                have eg : a.eval (.tmp 40) = undef := need 7 _ 40 rfl rfl (by kernel_rfl)
                exact Reg.ob_off rfl rfl rfl eg rfl
              | 11, hoi =>
                simp only [List.getElem?_toArray, List.getElem?_cons_succ, List.getElem?_cons_zero, Option.some.injEq] at hoi
                subst hoi
                have eg : a.eval (.tmp 40) = undef := need 7 _ 40 rfl rfl (by kernel_rfl)
                exact Reg.ob_off rfl rfl rfl eg rfl
              | 12, hoi =>
                simp only [List.getElem?_toArray, List.getElem?_cons_succ, List.getElem?_cons_zero, Option.some.injEq] at hoi
                subst hoi
                have eg : a.eval (.tmp 40) = undef := need 7 _ 40 rfl rfl (by kernel_rfl)
                exact Reg.ob_off rfl rfl rfl eg rfl
              | 13, hoi =>
                simp only [List.getElem?_toArray, List.getElem?_cons_succ, List.getElem?_cons_zero, Option.some.injEq] at hoi
                subst hoi
                have eg : a.eval (.tmp 40) = undef := need 7 _ 40 rfl rfl (by kernel_rfl)
                exact Reg.ob_off rfl rfl rfl eg rfl
              | 14, hoi =>
                simp only [List.getElem?_toArray, List.getElem?_cons_succ, List.getElem?_cons_zero, Option.some.injEq] at hoi
                subst hoi
                have eg : a.eval (.tmp 40) = undef := need 7 _ 40 rfl rfl (by kernel_rfl)
                exact Reg.ob_off rfl rfl rfl eg rfl
              | 15, hoi =>
                simp only [List.getElem?_toArray, List.getElem?_cons_succ, List.getElem?_cons_zero, Option.some.injEq] at hoi
                subst hoi
                have eg : a.eval (.tmp 40) = undef := need 7 _ 40 rfl rfl (by kernel_rfl)
                exact Reg.ob_off rfl rfl rfl eg rfl
              | 16, hoi =>
                simp only [List.getElem?_toArray, List.getElem?_cons_succ, List.getElem?_cons_zero, Option.some.injEq] at hoi
                subst hoi
                have eg : a.eval (.tmp 40) = undef := need 7 _ 40 rfl rfl (by kernel_rfl)
                exact Reg.ob_off rfl rfl rfl eg rfl
              | 17, hoi =>
                simp only [List.getElem?_toArray, List.getElem?_cons_succ, List.getElem?_cons_zero, Option.some.injEq] at hoi
                subst hoi
                have eg : a.eval (.tmp 40) = undef := need 7 _ 40 rfl rfl (by kernel_rfl)
                exact Reg.ob_off rfl rfl rfl eg rfl
              | 18, hoi =>
                simp only [List.getElem?_toArray, List.getElem?_cons_succ, List.getElem?_cons_zero, Option.some.injEq] at hoi
                subst hoi
                have eg : a.eval (.tmp 37) = .bool true := need 4 _ 37 rfl rfl (by kernel_rfl)
                exact Reg.ob_no rfl rfl rfl eg (by decide) rfl
              | 19, hoi =>
                simp only [List.getElem?_toArray, List.getElem?_cons_succ, List.getElem?_cons_zero, Option.some.injEq] at hoi
                subst hoi
                refine Reg.ob_plain rfl ?_
                have e37 : a.eval (.tmp 37) = .bool true := need 4 _ 37 rfl rfl (by kernel_rfl)
                have e51 : a.eval (.tmp 51) = undef := need 18 _ 51 rfl rfl (by kernel_rfl)
                refine Reg.wp_val (W' := W) (v := .bool true) (by simp only [execOp, e37, e51, Reg.eval_const, resolve, invoke, builtin, List.map_toArray, List.map_cons, List.map_nil, Option.map_some, Option.map_none]; (first | rfl | go_simp | (go_simp; rfl))) ⟨_, rfl, Bel.refl W, rfl⟩
              | n + 20, hoi => simp at hoi
            · intro a w9 hW hsize hdef got same did
              have ha := Reg.act_of [33, 34, 35, 36, 37, 38, 39, 40, 41, 42, 43, 44, 45, 46, 47, 48, 49, 50, 51, 52] hsize hdef same (by kernel_rfl)
              simp only [List.foldl_cons, List.foldl_nil] at ha
              generalize a.tmps.getD 33 undef = y33 at ha
              generalize a.tmps.getD 34 undef = y34 at ha
              generalize a.tmps.getD 35 undef = y35 at ha
              generalize a.tmps.getD 36 undef = y36 at ha
              generalize a.tmps.getD 37 undef = y37 at ha
              generalize a.tmps.getD 38 undef = y38 at ha
              generalize a.tmps.getD 39 undef = y39 at ha
              generalize a.tmps.getD 40 undef = y40 at ha
              generalize a.tmps.getD 41 undef = y41 at ha
              generalize a.tmps.getD 42 undef = y42 at ha
              generalize a.tmps.getD 43 undef = y43 at ha
              generalize a.tmps.getD 44 undef = y44 at ha
              generalize a.tmps.getD 45 undef = y45 at ha
              generalize a.tmps.getD 46 undef = y46 at ha
              generalize a.tmps.getD 47 undef = y47 at ha
              generalize a.tmps.getD 48 undef = y48 at ha
              generalize a.tmps.getD 49 undef = y49 at ha
              generalize a.tmps.getD 50 undef = y50 at ha
              generalize a.tmps.getD 51 undef = y51 at ha
              have k52 := got 19 _ 52 rfl rfl
              simp only at k52
              rw [k52] at ha
              clear k52
              clear got same hsize hdef did
              subst ha
              simp only [List.setIfInBounds_toArray, List.set_cons_zero, List.set_cons_succ]
              go_wp2
              go_ret
              refine ⟨?_, bthen HX5.out.1 hW⟩
              rw [← HI.out, HIK2.out]
              simp
          | true =>
            have HMC := Lib.hid hmc
            clear hmc
            by_cases hk0 : k = 0
            · have HKK : Hid (k = 0) := Lib.hid hk0
              have HPK : Hid (prevK l k = none) := Lib.hid (by unfold prevK; rw [if_pos hk0])
              clear hk0
              refine Reg.region_mono (P := Try.prog) (Ext := Bel) (R := fun i v W => match i with
                  | 0 => v = .func (.func 72) #[] #[]
                  | 1 => v = .agg #[.int .i64 key, .int .i64 child, .int .i64 len, .slice AB loc.length cB, .int .i64 next]
                  | 2 => v = .bool true
                  | 3 => v = .bool false
                  | 4 => v = .bool false
                  | 5 => v = .int .i64 (k : Int)
                  | 6 => v = .bool false
                  | 7 => v = .bool false
                  | 8 => v = undef
                  | 9 => v = undef
                  | 10 => v = undef
                  | 11 => v = undef
                  | 12 => v = undef
                  | 13 => v = undef
                  | 14 => v = undef
                  | 15 => v = undef
                  | 16 => v = undef
                  | 17 => v = undef
                  | 18 => v = .bool false
                  | 19 => v = .bool false
                  | _ => True) (fun W => Below W5.heap.size W5 W) rfl (by kernel_rfl) (by kernel_rfl) (Bel.drew W5) (fun W W' h h' => bthen h h') Bel.refl (by intro j v W W' hx h; split at h <;> exact h) ?_ ?_
              · intro i oi hoi a W hW need old
                match i, hoi with
                | 0, hoi =>
                  simp only [List.getElem?_toArray, List.getElem?_cons_succ, List.getElem?_cons_zero, Option.some.injEq] at hoi
                  subst hoi
                  refine Reg.ob_plain rfl ?_
                  have e3 : a.eval (.tmp 3) = .func (.func 72) #[] #[] := old 3 (by kernel_rfl)
                  refine Reg.wp_val (W' := W) (v := _) (by simp only [execOp, e3, Reg.eval_const]; rfl) ⟨_, rfl, Bel.refl W, rfl⟩
                | 1, hoi =>
                  simp only [List.getElem?_toArray, List.getElem?_cons_succ, List.getElem?_cons_zero, Option.some.injEq] at hoi
                  subst hoi
                  refine Reg.ob_plain rfl ?_
                  have e5 : a.eval (.tmp 5) = .pointer (some ⟨g5, 0, none⟩) := old 5 (by kernel_rfl)
                  have hx0 := pw_cell_below hW z0
                  have hx1 := pw_cell_below hW z1
                  have hx2 := pw_cell_below hW z2
                  have hx3 := pw_cell_below hW z3
                  have hx4 := pw_cell_below hW z4
                  refine Reg.wp_val (W' := W) (v := .agg #[.int .i64 key, .int .i64 child, .int .i64 len, .slice AB loc.length cB, .int .i64 next]) (by simp only [execOp, e5, Reg.eval_const, resolve, invoke, builtin, List.map_toArray, List.map_cons, List.map_nil, Option.map_some, Option.map_none]; (first | rfl | go_simp | (go_simp; rfl))) ⟨_, rfl, Bel.refl W, rfl⟩
                | 2, hoi =>
                  simp only [List.getElem?_toArray, List.getElem?_cons_succ, List.getElem?_cons_zero, Option.some.injEq] at hoi
                  subst hoi
                  refine Reg.ob_plain rfl ?_
                  have e33 : a.eval (.tmp 33) = .func (.func 72) #[] #[] := need 0 _ 33 rfl rfl (by kernel_rfl)
                  have e34 : a.eval (.tmp 34) = .agg #[.int .i64 key, .int .i64 child, .int .i64 len, .slice AB loc.length cB, .int .i64 next] := need 1 _ 34 rfl rfl (by kernel_rfl)
                  refine Reg.wp_call (f := 72) (args := #[.agg #[.int .i64 key, .int .i64 child, .int .i64 len, .slice AB loc.length cB, .int .i64 next]]) (by simp only [execOp, e33, e34, Reg.eval_const, resolve, invoke, List.map_toArray, List.map_cons, List.map_nil]; go_simp) ?_
                  refine (HMC.out W).mono ?_
                  rintro e W' ⟨rfl, hb⟩; exact ⟨_, rfl, _, rfl, hb, rfl⟩
                | 3, hoi =>
                  simp only [List.getElem?_toArray, List.getElem?_cons_succ, List.getElem?_cons_zero, Option.some.injEq] at hoi
                  subst hoi
                  refine Reg.ob_plain rfl ?_
                  have e35 : a.eval (.tmp 35) = .bool true := need 2 _ 35 rfl rfl (by kernel_rfl)
                  refine Reg.wp_val (W' := W) (v := .bool false) (by simp only [execOp, e35, Reg.eval_const, resolve, invoke, builtin, List.map_toArray, List.map_cons, List.map_nil, Option.map_some, Option.map_none]; (first | rfl | go_simp | (go_simp; rfl))) ⟨_, rfl, Bel.refl W, rfl⟩
                | 4, hoi =>
                  simp only [List.getElem?_toArray, List.getElem?_cons_succ, List.getElem?_cons_zero, Option.some.injEq] at hoi
                  subst hoi
                  refine Reg.ob_plain rfl ?_
                  have e36 : a.eval (.tmp 36) = .bool false := need 3 _ 36 rfl rfl (by kernel_rfl)
                  refine Reg.wp_val (W' := W) (v := _) (by simp only [execOp, e36, Reg.eval_const]; rfl) ⟨_, rfl, Bel.refl W, rfl⟩
                | 5, hoi =>
                  simp only [List.getElem?_toArray, List.getElem?_cons_succ, List.getElem?_cons_zero, Option.some.injEq] at hoi
                  subst hoi
                  have eg : a.eval (.tmp 37) = .bool false := need 4 _ 37 rfl rfl (by kernel_rfl)
                  refine Reg.ob_yes rfl rfl rfl eg ?_
                  have e4 : a.eval (.tmp 4) = .int .i64 (k : Int) := old 4 (by kernel_rfl)
                  refine Reg.wp_val (W' := W) (v := _) (by simp only [execOp, e4, Reg.eval_const]; rfl) ⟨_, rfl, Bel.refl W, rfl⟩
                | 6, hoi =>
                  simp only [List.getElem?_toArray, List.getElem?_cons_succ, List.getElem?_cons_zero, Option.some.injEq] at hoi
                  subst hoi
                  have eg : a.eval (.tmp 37) = .bool false := need 4 _ 37 rfl rfl (by kernel_rfl)
                  refine Reg.ob_yes rfl rfl rfl eg ?_
                  have e38 : a.eval (.tmp 38) = .int .i64 (k : Int) := need 5 _ 38 rfl rfl (by kernel_rfl)
                  have hkk := HKK.out
                  refine Reg.wp_val (W' := W) (v := .bool false) (by simp only [execOp, e38, Reg.eval_const, resolve, invoke, builtin, List.map_toArray, List.map_cons, List.map_nil, Option.map_some, Option.map_none]; (first | rfl | go_simp | (go_simp; rfl))) ⟨_, rfl, Bel.refl W, rfl⟩
                | 7, hoi =>
                  simp only [List.getElem?_toArray, List.getElem?_cons_succ, List.getElem?_cons_zero, Option.some.injEq] at hoi
                  subst hoi
                  have eg : a.eval (.tmp 37) = .bool false := need 4 _ 37 rfl rfl (by kernel_rfl)
                  refine Reg.ob_yes rfl rfl rfl eg ?_
                  have e39 : a.eval (.tmp 39) = .bool false := need 6 _ 39 rfl rfl (by kernel_rfl)
                  refine Reg.wp_val (W' := W) (v := _) (by simp only [execOp, e39, Reg.eval_const]; rfl) ⟨_, rfl, Bel.refl W, rfl⟩
                | 8, hoi =>
                  simp only [List.getElem?_toArray, List.getElem?_cons_succ, List.getElem?_cons_zero, Option.some.injEq] at hoi
                  subst hoi
                  have eg : a.eval (.tmp 40) = .bool false := need 7 _ 40 rfl rfl (by kernel_rfl)
                  exact Reg.ob_no rfl rfl rfl eg (by decide) rfl
                | 9, hoi =>
                  simp only [List.getElem?_toArray, List.getElem?_cons_succ, List.getElem?_cons_zero, Option.some.injEq] at hoi
                  subst hoi
                  have eg : a.eval (.tmp 40) = .bool false := need 7 _ 40 rfl rfl (by kernel_rfl)
                  exact Reg.ob_no rfl rfl rfl eg (by decide) rfl
                | 10, hoi =>
                  simp only [List.getElem?_toArray, List.getElem?_cons_succ, List.getElem?_cons_zero, Option.some.injEq] at hoi
                  subst hoi
                  have eg : a.eval (.tmp 40) = .bool false := need 7 _ 40 rfl rfl (by kernel_rfl)
                  exact Reg.ob_no rfl rfl rfl eg (by decide) rfl
                | 11, hoi =>
                  simp only [List.getElem?_toArray, List.getElem?_cons_succ, List.getElem?_cons_zero, Option.some.injEq] at hoi
                  subst hoi
                  have eg : a.eval (.tmp 40) = .bool false := need 7 _ 40 rfl rfl (by kernel_rfl)
                  exact Reg.ob_no rfl rfl rfl eg (by decide) rfl
                | 12, hoi =>
                  simp only [List.getElem?_toArray, List.getElem?_cons_succ, List.getElem?_cons_zero, Option.some.injEq] at hoi
                  subst hoi
                  have eg : a.eval (.tmp 40) = .bool false := need 7 _ 40 rfl rfl (by kernel_rfl)
                  exact Reg.ob_no rfl rfl rfl eg (by decide) rfl
                | 13, hoi =>
                  simp only [List.getElem?_toArray, List.getElem?_cons_succ, List.getElem?_cons_zero, Option.some.injEq] at hoi
                  subst hoi
                  have eg : a.eval (.tmp 40) = .bool false := need 7 _ 40 rfl rfl (by kernel_rfl)
                  exact Reg.ob_no rfl rfl rfl eg (by decide) rfl
                | 14, hoi =>
                  simp only [List.getElem?_toArray, List.getElem?_cons_succ, List.getElem?_cons_zero, Option.some.injEq] at hoi
                  subst hoi
                  have eg : a.eval (.tmp 40) = .bool false := need 7 _ 40 rfl rfl (by kernel_rfl)
                  exact Reg.ob_no rfl rfl rfl eg (by decide) rfl
                | 15, hoi =>
                  simp only [List.getElem?_toArray, List.getElem?_cons_succ, List.getElem?_cons_zero, Option.some.injEq] at hoi
                  subst hoi
                  have eg : a.eval (.tmp 40) = .bool false := need 7 _ 40 rfl rfl (by kernel_rfl)
                  exact Reg.ob_no rfl rfl rfl eg (by decide) rfl
                | 16, hoi =>
                  simp only [List.getElem?_toArray, List.getElem?_cons_succ, List.getElem?_cons_zero, Option.some.injEq] at hoi
                  subst hoi
                  have eg : a.eval (.tmp 40) = .bool false := need 7 _ 40 rfl rfl (by kernel_rfl)
                  exact Reg.ob_no rfl rfl rfl eg (by decide) rfl
                | 17, hoi =>
                  simp only [List.getElem?_toArray, List.getElem?_cons_succ, List.getElem?_cons_zero, Option.some.injEq] at hoi
                  subst hoi
                  have eg : a.eval (.tmp 40) = .bool false := need 7 _ 40 rfl rfl (by kernel_rfl)
                  exact Reg.ob_no rfl rfl rfl eg (by decide) rfl
                | 18, hoi =>
                  simp only [List.getElem?_toArray, List.getElem?_cons_succ, List.getElem?_cons_zero, Option.some.injEq] at hoi
                  subst hoi
                  have eg : a.eval (.tmp 37) = .bool false := need 4 _ 37 rfl rfl (by kernel_rfl)
                  refine Reg.ob_yes rfl rfl rfl eg ?_
                  have e40 : a.eval (.tmp 40) = .bool false := need 7 _ 40 rfl rfl (by kernel_rfl)
                  have e50 : a.eval (.tmp 50) = undef := need 17 _ 50 rfl rfl (by kernel_rfl)
                  refine Reg.wp_val (W' := W) (v := .bool false) (by simp only [execOp, e40, e50, Reg.eval_const, resolve, invoke, builtin, List.map_toArray, List.map_cons, List.map_nil, Option.map_some, Option.map_none]; (first | rfl | go_simp | (go_simp; rfl))) ⟨_, rfl, Bel.refl W, rfl⟩
                | 19, hoi =>
                  simp only [List.getElem?_toArray, List.getElem?_cons_succ, List.getElem?_cons_zero, Option.some.injEq] at hoi
                  subst hoi
                  refine Reg.ob_plain rfl ?_
                  have e37 : a.eval (.tmp 37) = .bool false := need 4 _ 37 rfl rfl (by kernel_rfl)
                  have e51 : a.eval (.tmp 51) = .bool false := need 18 _ 51 rfl rfl (by kernel_rfl)
                  refine Reg.wp_val (W' := W) (v := .bool false) (by simp only [execOp, e37, e51, Reg.eval_const, resolve, invoke, builtin, List.map_toArray, List.map_cons, List.map_nil, Option.map_some, Option.map_none]; (first | rfl | go_simp | (go_simp; rfl))) ⟨_, rfl, Bel.refl W, rfl⟩
                | n + 20, hoi => simp at hoi
              · intro a w9 hW hsize hdef got same did
                have ha := Reg.act_of [33, 34, 35, 36, 37, 38, 39, 40, 41, 42, 43, 44, 45, 46, 47, 48, 49, 50, 51, 52] hsize hdef same (by kernel_rfl)
                simp only [List.foldl_cons, List.foldl_nil] at ha
                generalize a.tmps.getD 33 undef = y33 at ha
                generalize a.tmps.getD 34 undef = y34 at ha
                generalize a.tmps.getD 35 undef = y35 at ha
                generalize a.tmps.getD 36 undef = y36 at ha
                generalize a.tmps.getD 37 undef = y37 at ha
                generalize a.tmps.getD 38 undef = y38 at ha
                generalize a.tmps.getD 39 undef = y39 at ha
                generalize a.tmps.getD 40 undef = y40 at ha
                generalize a.tmps.getD 41 undef = y41 at ha
                generalize a.tmps.getD 42 undef = y42 at ha
                generalize a.tmps.getD 43 undef = y43 at ha
                generalize a.tmps.getD 44 undef = y44 at ha
                generalize a.tmps.getD 45 undef = y45 at ha
                generalize a.tmps.getD 46 undef = y46 at ha
                generalize a.tmps.getD 47 undef = y47 at ha
                generalize a.tmps.getD 48 undef = y48 at ha
                generalize a.tmps.getD 49 undef = y49 at ha
                generalize a.tmps.getD 50 undef = y50 at ha
                generalize a.tmps.getD 51 undef = y51 at ha
                have k52 := got 19 _ 52 rfl rfl
                simp only at k52
                rw [k52] at ha
                clear k52
                clear got same hsize hdef did
                subst ha
                simp only [List.setIfInBounds_toArray, List.set_cons_zero, List.set_cons_succ]
                go_wp2
                go_roundw
                case rel =>
                  refine ⟨k + 1, by go_num, by omega, Lib.hid (HX5.out.below hW), Lib.hid ?_⟩
                  rw [← HI.out, HIK2.out, HPK.out]
                  have : prevK l (k + 1) = some key := by unfold prevK; rw [if_neg (by omega), Nat.add_sub_cancel, HGT.out]; rfl
                  rw [this]
                  simp 
                case measure => (simp [intOf] <;> omega)
            · obtain ⟨j, hj⟩ : ∃ j, k = j + 1 := ⟨k - 1, by omega⟩
              have hjl : j < l.length := by omega
              obtain ⟨ad', e', kj, childj, lenj, locj, nextj, ABj, cBj, hgetj, y0, y1, y2, y3, y4, hcBj, hCBj⟩ := cel_at (Kd.C_below HC.out HX5.out.1) j hjl
              obtain rfl := Option.some.inj e'
              have zj := y0
              have HPK : Hid (prevK l k = some kj) := Lib.hid (by unfold prevK; rw [if_neg hk0, hj, Nat.add_sub_cancel, hgetj]; rfl)
              have HKK : Hid (0 < k) := Lib.hid (by omega)
              have HKW : Hid (IntKind.i64.wrap ((k : Int) - 1) = (j : Int)) := Lib.hid (by rw [IntKind.wrap_i64]; omega)
              have HJL := Lib.hid hjl
              have HJ := Lib.hid hj
              clear e' hk0 hgetj hcBj hCBj y0 y1 y2 y3 y4 hjl hj
              by_cases hge : kj ≥ key
              · have HGE : Hid (decide (kj ≥ key) = true) := Lib.hid (by simpa using hge)
                have HLT : Hid (decide (kj < key) = false) := Lib.hid (by simp; omega)
                clear hge
                refine Reg.region_mono (P := Try.prog) (Ext := Bel) (R := fun i v W => match i with
                    | 0 => v = .func (.func 72) #[] #[]
                    | 1 => v = .agg #[.int .i64 key, .int .i64 child, .int .i64 len, .slice AB loc.length cB, .int .i64 next]
                    | 2 => v = .bool true
                    | 3 => v = .bool false
                    | 4 => v = .bool false
                    | 5 => v = .int .i64 (k : Int)
                    | 6 => v = .bool true
                    | 7 => v = .bool true
                    | 8 => v = .pointer (some ⟨w.heap.size, 2, none⟩)
                    | 9 => v = .slice (some ad) l.length cap
                    | 10 => v = .int .i64 (k : Int)
                    | 11 => v = .int .i64 (j : Int)
                    | 12 => v = .pointer (some (ad.add (j * 5)))
                    | 13 => v = .pointer (some (ad.add (j * 5)))
                    | 14 => v = .int .i64 kj
                    | 15 => v = .pointer (some ⟨g5, 0, none⟩)
                    | 16 => v = .int .i64 key
                    | 17 => v = .bool true
                    | 18 => v = .bool true
                    | 19 => v = .bool true
                    | _ => True) (fun W => Below W5.heap.size W5 W) rfl (by kernel_rfl) (by kernel_rfl) (Bel.drew W5) (fun W W' h h' => bthen h h') Bel.refl (by intro j v W W' hx h; split at h <;> exact h) ?_ ?_
                · intro i oi hoi a W hW need old
                  match i, hoi with
                  | 0, hoi =>
                    simp only [List.getElem?_toArray, List.getElem?_cons_succ, List.getElem?_cons_zero, Option.some.injEq] at hoi
                    subst hoi
                    refine Reg.ob_plain rfl ?_
                    have e3 : a.eval (.tmp 3) = .func (.func 72) #[] #[] := old 3 (by kernel_rfl)
                    refine Reg.wp_val (W' := W) (v := _) (by simp only [execOp, e3, Reg.eval_const]; rfl) ⟨_, rfl, Bel.refl W, rfl⟩
                  | 1, hoi =>
                    simp only [List.getElem?_toArray, List.getElem?_cons_succ, List.getElem?_cons_zero, Option.some.injEq] at hoi
                    subst hoi
                    refine Reg.ob_plain rfl ?_
                    have e5 : a.eval (.tmp 5) = .pointer (some ⟨g5, 0, none⟩) := old 5 (by kernel_rfl)
                    have hx0 := pw_cell_below hW z0
                    have hx1 := pw_cell_below hW z1
                    have hx2 := pw_cell_below hW z2
                    have hx3 := pw_cell_below hW z3
                    have hx4 := pw_cell_below hW z4
                    refine Reg.wp_val (W' := W) (v := .agg #[.int .i64 key, .int .i64 child, .int .i64 len, .slice AB loc.length cB, .int .i64 next]) (by simp only [execOp, e5, Reg.eval_const, resolve, invoke, builtin, List.map_toArray, List.map_cons, List.map_nil, Option.map_some, Option.map_none]; (first | rfl | go_simp | (go_simp; rfl))) ⟨_, rfl, Bel.refl W, rfl⟩
                  | 2, hoi =>
                    simp only [List.getElem?_toArray, List.getElem?_cons_succ, List.getElem?_cons_zero, Option.some.injEq] at hoi
                    subst hoi
                    refine Reg.ob_plain rfl ?_
                    have e33 : a.eval (.tmp 33) = .func (.func 72) #[] #[] := need 0 _ 33 rfl rfl (by kernel_rfl)
                    have e34 : a.eval (.tmp 34) = .agg #[.int .i64 key, .int .i64 child, .int .i64 len, .slice AB loc.length cB, .int .i64 next] := need 1 _ 34 rfl rfl (by kernel_rfl)
                    refine Reg.wp_call (f := 72) (args := #[.agg #[.int .i64 key, .int .i64 child, .int .i64 len, .slice AB loc.length cB, .int .i64 next]]) (by simp only [execOp, e33, e34, Reg.eval_const, resolve, invoke, List.map_toArray, List.map_cons, List.map_nil]; go_simp) ?_
                    refine (HMC.out W).mono ?_
                    rintro e W' ⟨rfl, hb⟩; exact ⟨_, rfl, _, rfl, hb, rfl⟩
                  | 3, hoi =>
                    simp only [List.getElem?_toArray, List.getElem?_cons_succ, List.getElem?_cons_zero, Option.some.injEq] at hoi
                    subst hoi
                    refine Reg.ob_plain rfl ?_
                    have e35 : a.eval (.tmp 35) = .bool true := need 2 _ 35 rfl rfl (by kernel_rfl)
                    refine Reg.wp_val (W' := W) (v := .bool false) (by simp only [execOp, e35, Reg.eval_const, resolve, invoke, builtin, List.map_toArray, List.map_cons, List.map_nil, Option.map_some, Option.map_none]; (first | rfl | go_simp | (go_simp; rfl))) ⟨_, rfl, Bel.refl W, rfl⟩
                  | 4, hoi =>
                    simp only [List.getElem?_toArray, List.getElem?_cons_succ, List.getElem?_cons_zero, Option.some.injEq] at hoi
                    subst hoi
                    refine Reg.ob_plain rfl ?_
                    have e36 : a.eval (.tmp 36) = .bool false := need 3 _ 36 rfl rfl (by kernel_rfl)
                    refine Reg.wp_val (W' := W) (v := _) (by simp only [execOp, e36, Reg.eval_const]; rfl) ⟨_, rfl, Bel.refl W, rfl⟩
                  | 5, hoi =>
                    simp only [List.getElem?_toArray, List.getElem?_cons_succ, List.getElem?_cons_zero, Option.some.injEq] at hoi
                    subst hoi
                    have eg : a.eval (.tmp 37) = .bool false := need 4 _ 37 rfl rfl (by kernel_rfl)
                    refine Reg.ob_yes rfl rfl rfl eg ?_
                    have e4 : a.eval (.tmp 4) = .int .i64 (k : Int) := old 4 (by kernel_rfl)
                    refine Reg.wp_val (W' := W) (v := _) (by simp only [execOp, e4, Reg.eval_const]; rfl) ⟨_, rfl, Bel.refl W, rfl⟩
                  | 6, hoi =>
                    simp only [List.getElem?_toArray, List.getElem?_cons_succ, List.getElem?_cons_zero, Option.some.injEq] at hoi
                    subst hoi
                    have eg : a.eval (.tmp 37) = .bool false := need 4 _ 37 rfl rfl (by kernel_rfl)
                    refine Reg.ob_yes rfl rfl rfl eg ?_
                    have e38 : a.eval (.tmp 38) = .int .i64 (k : Int) := need 5 _ 38 rfl rfl (by kernel_rfl)
                    have hkk := HKK.out
                    refine Reg.wp_val (W' := W) (v := .bool true) (by simp only [execOp, e38, Reg.eval_const, resolve, invoke, builtin, List.map_toArray, List.map_cons, List.map_nil, Option.map_some, Option.map_none]; (first | rfl | go_simp | (go_simp; rfl))) ⟨_, rfl, Bel.refl W, rfl⟩
                  | 7, hoi =>
                    simp only [List.getElem?_toArray, List.getElem?_cons_succ, List.getElem?_cons_zero, Option.some.injEq] at hoi
                    subst hoi
                    have eg : a.eval (.tmp 37) = .bool false := need 4 _ 37 rfl rfl (by kernel_rfl)
                    refine Reg.ob_yes rfl rfl rfl eg ?_
                    have e39 : a.eval (.tmp 39) = .bool true := need 6 _ 39 rfl rfl (by kernel_rfl)
                    refine Reg.wp_val (W' := W) (v := _) (by simp only [execOp, e39, Reg.eval_const]; rfl) ⟨_, rfl, Bel.refl W, rfl⟩
                  | 8, hoi =>
                    simp only [List.getElem?_toArray, List.getElem?_cons_succ, List.getElem?_cons_zero, Option.some.injEq] at hoi
                    subst hoi
                    have eg : a.eval (.tmp 40) = .bool true := need 7 _ 40 rfl rfl (by kernel_rfl)
                    refine Reg.ob_yes rfl rfl rfl eg ?_
                    have e1 : a.eval (.tmp 1) = .pointer (some ⟨w.heap.size, 0, none⟩) := old 1 (by kernel_rfl)
                    refine Reg.wp_val (W' := W) (v := .pointer (some ⟨w.heap.size, 2, none⟩)) (by simp only [execOp, e1, Reg.eval_const, resolve, invoke, builtin, List.map_toArray, List.map_cons, List.map_nil, Option.map_some, Option.map_none]; (first | rfl | go_simp | (go_simp; rfl))) ⟨_, rfl, Bel.refl W, rfl⟩
                  | 9, hoi =>
                    simp only [List.getElem?_toArray, List.getElem?_cons_succ, List.getElem?_cons_zero, Option.some.injEq] at hoi
                    subst hoi
                    have eg : a.eval (.tmp 40) = .bool true := need 7 _ 40 rfl rfl (by kernel_rfl)
                    refine Reg.ob_yes rfl rfl rfl eg ?_
                    have e41 : a.eval (.tmp 41) = .pointer (some ⟨w.heap.size, 2, none⟩) := need 8 _ 41 rfl rfl (by kernel_rfl)
                    have hx := pw_cell_below hW n2
                    refine Reg.wp_val (W' := W) (v := .slice (some ad) l.length cap) (by simp only [execOp, e41, Reg.eval_const, resolve, invoke, builtin, List.map_toArray, List.map_cons, List.map_nil, Option.map_some, Option.map_none]; (first | rfl | go_simp | (go_simp; rfl))) ⟨_, rfl, Bel.refl W, rfl⟩
                  | 10, hoi =>
                    simp only [List.getElem?_toArray, List.getElem?_cons_succ, List.getElem?_cons_zero, Option.some.injEq] at hoi
                    subst hoi
                    have eg : a.eval (.tmp 40) = .bool true := need 7 _ 40 rfl rfl (by kernel_rfl)
                    refine Reg.ob_yes rfl rfl rfl eg ?_
                    have e4 : a.eval (.tmp 4) = .int .i64 (k : Int) := old 4 (by kernel_rfl)
                    refine Reg.wp_val (W' := W) (v := _) (by simp only [execOp, e4, Reg.eval_const]; rfl) ⟨_, rfl, Bel.refl W, rfl⟩
                  | 11, hoi =>
                    simp only [List.getElem?_toArray, List.getElem?_cons_succ, List.getElem?_cons_zero, Option.some.injEq] at hoi
                    subst hoi
                    have eg : a.eval (.tmp 40) = .bool true := need 7 _ 40 rfl rfl (by kernel_rfl)
                    refine Reg.ob_yes rfl rfl rfl eg ?_
                    have e43 : a.eval (.tmp 43) = .int .i64 (k : Int) := need 10 _ 43 rfl rfl (by kernel_rfl)
                    have hkw := HKW.out
                    refine Reg.wp_val (W' := W) (v := .int .i64 (j : Int)) (by simp only [execOp, e43, Reg.eval_const, resolve, invoke, builtin, List.map_toArray, List.map_cons, List.map_nil, Option.map_some, Option.map_none]; (first | rfl | go_simp | (go_simp; rfl))) ⟨_, rfl, Bel.refl W, rfl⟩
                  | 12, hoi =>
                    simp only [List.getElem?_toArray, List.getElem?_cons_succ, List.getElem?_cons_zero, Option.some.injEq] at hoi
                    subst hoi
                    have eg : a.eval (.tmp 40) = .bool true := need 7 _ 40 rfl rfl (by kernel_rfl)
                    refine Reg.ob_yes rfl rfl rfl eg ?_
                    have e42 : a.eval (.tmp 42) = .slice (some ad) l.length cap := need 9 _ 42 rfl rfl (by kernel_rfl)
                    have e44 : a.eval (.tmp 44) = .int .i64 (j : Int) := need 11 _ 44 rfl rfl (by kernel_rfl)
                    have hjl := HJL.out
                    refine Reg.wp_val (W' := W) (v := .pointer (some (ad.add (j * 5)))) (by simp only [execOp, e42, e44, Reg.eval_const, resolve, invoke, builtin, List.map_toArray, List.map_cons, List.map_nil, Option.map_some, Option.map_none]; (first | rfl | go_simp | (go_simp; rfl))) ⟨_, rfl, Bel.refl W, rfl⟩
                  | 13, hoi =>
                    simp only [List.getElem?_toArray, List.getElem?_cons_succ, List.getElem?_cons_zero, Option.some.injEq] at hoi
                    subst hoi
                    have eg : a.eval (.tmp 40) = .bool true := need 7 _ 40 rfl rfl (by kernel_rfl)
                    refine Reg.ob_yes rfl rfl rfl eg ?_
                    have e45 : a.eval (.tmp 45) = .pointer (some (ad.add (j * 5))) := need 12 _ 45 rfl rfl (by kernel_rfl)
                    refine Reg.wp_val (W' := W) (v := .pointer (some (ad.add (j * 5)))) (by simp only [execOp, e45, Reg.eval_const, resolve, invoke, builtin, List.map_toArray, List.map_cons, List.map_nil, Option.map_some, Option.map_none]; (first | rfl | go_simp | (go_simp; rfl))) ⟨_, rfl, Bel.refl W, rfl⟩
                  | 14, hoi =>
                    simp only [List.getElem?_toArray, List.getElem?_cons_succ, List.getElem?_cons_zero, Option.some.injEq] at hoi
                    subst hoi
                    have eg : a.eval (.tmp 40) = .bool true := need 7 _ 40 rfl rfl (by kernel_rfl)
                    refine Reg.ob_yes rfl rfl rfl eg ?_
                    have e46 : a.eval (.tmp 46) = .pointer (some (ad.add (j * 5))) := need 13 _ 46 rfl rfl (by kernel_rfl)
                    have hx := pw_cell_below hW zj
                    refine Reg.wp_val (W' := W) (v := .int .i64 kj) (by simp only [execOp, e46, Reg.eval_const, resolve, invoke, builtin, List.map_toArray, List.map_cons, List.map_nil, Option.map_some, Option.map_none]; (first | rfl | go_simp | (go_simp; rfl))) ⟨_, rfl, Bel.refl W, rfl⟩
                  | 15, hoi =>
                    simp only [List.getElem?_toArray, List.getElem?_cons_succ, List.getElem?_cons_zero, Option.some.injEq] at hoi
                    subst hoi
                    have eg : a.eval (.tmp 40) = .bool true := need 7 _ 40 rfl rfl (by kernel_rfl)
                    refine Reg.ob_yes rfl rfl rfl eg ?_
                    have e5 : a.eval (.tmp 5) = .pointer (some ⟨g5, 0, none⟩) := old 5 (by kernel_rfl)
                    refine Reg.wp_val (W' := W) (v := .pointer (some ⟨g5, 0, none⟩)) (by simp only [execOp, e5, Reg.eval_const, resolve, invoke, builtin, List.map_toArray, List.map_cons, List.map_nil, Option.map_some, Option.map_none]; (first | rfl | go_simp | (go_simp; rfl))) ⟨_, rfl, Bel.refl W, rfl⟩
                  | 16, hoi =>
                    simp only [List.getElem?_toArray, List.getElem?_cons_succ, List.getElem?_cons_zero, Option.some.injEq] at hoi
                    subst hoi
                    have eg : a.eval (.tmp 40) = .bool true := need 7 _ 40 rfl rfl (by kernel_rfl)
                    refine Reg.ob_yes rfl rfl rfl eg ?_
                    have e48 : a.eval (.tmp 48) = .pointer (some ⟨g5, 0, none⟩) := need 15 _ 48 rfl rfl (by kernel_rfl)
                    have hx := pw_cell_below hW z0
                    refine Reg.wp_val (W' := W) (v := .int .i64 key) (by simp only [execOp, e48, Reg.eval_const, resolve, invoke, builtin, List.map_toArray, List.map_cons, List.map_nil, Option.map_some, Option.map_none]; (first | rfl | go_simp | (go_simp; rfl))) ⟨_, rfl, Bel.refl W, rfl⟩
                  | 17, hoi =>
                    simp only [List.getElem?_toArray, List.getElem?_cons_succ, List.getElem?_cons_zero, Option.some.injEq] at hoi
                    subst hoi
                    have eg : a.eval (.tmp 40) = .bool true := need 7 _ 40 rfl rfl (by kernel_rfl)
                    refine Reg.ob_yes rfl rfl rfl eg ?_
                    have e47 : a.eval (.tmp 47) = .int .i64 kj := need 14 _ 47 rfl rfl (by kernel_rfl)
                    have e49 : a.eval (.tmp 49) = .int .i64 key := need 16 _ 49 rfl rfl (by kernel_rfl)
                    have hge := HGE.out
                    refine Reg.wp_val (W' := W) (v := .bool true) (by simp only [execOp, e47, e49, Reg.eval_const, resolve, invoke, builtin, List.map_toArray, List.map_cons, List.map_nil, Option.map_some, Option.map_none]; (first | rfl | go_simp | (go_simp; rfl))) ⟨_, rfl, Bel.refl W, rfl⟩
                  | 18, hoi =>
                    simp only [List.getElem?_toArray, List.getElem?_cons_succ, List.getElem?_cons_zero, Option.some.injEq] at hoi
                    subst hoi
                    have eg : a.eval (.tmp 37) = .bool false := need 4 _ 37 rfl rfl (by kernel_rfl)
                    refine Reg.ob_yes rfl rfl rfl eg ?_
                    have e40 : a.eval (.tmp 40) = .bool true := need 7 _ 40 rfl rfl (by kernel_rfl)
                    have e50 : a.eval (.tmp 50) = .bool true := need 17 _ 50 rfl rfl (by kernel_rfl)
                    refine Reg.wp_val (W' := W) (v := .bool true) (by simp only [execOp, e40, e50, Reg.eval_const, resolve, invoke, builtin, List.map_toArray, List.map_cons, List.map_nil, Option.map_some, Option.map_none]; (first | rfl | go_simp | (go_simp; rfl))) ⟨_, rfl, Bel.refl W, rfl⟩
                  | 19, hoi =>
                    simp only [List.getElem?_toArray, List.getElem?_cons_succ, List.getElem?_cons_zero, Option.some.injEq] at hoi
                    subst hoi
                    refine Reg.ob_plain rfl ?_
                    have e37 : a.eval (.tmp 37) = .bool false := need 4 _ 37 rfl rfl (by kernel_rfl)
                    have e51 : a.eval (.tmp 51) = .bool true := need 18 _ 51 rfl rfl (by kernel_rfl)
                    refine Reg.wp_val (W' := W) (v := .bool true) (by simp only [execOp, e37, e51, Reg.eval_const, resolve, invoke, builtin, List.map_toArray, List.map_cons, List.map_nil, Option.map_some, Option.map_none]; (first | rfl | go_simp | (go_simp; rfl))) ⟨_, rfl, Bel.refl W, rfl⟩
                  | n + 20, hoi => simp at hoi
                · intro a w9 hW hsize hdef got same did
                  have ha := Reg.act_of [33, 34, 35, 36, 37, 38, 39, 40, 41, 42, 43, 44, 45, 46, 47, 48, 49, 50, 51, 52] hsize hdef same (by kernel_rfl)
                  simp only [List.foldl_cons, List.foldl_nil] at ha
                  generalize a.tmps.getD 33 undef = y33 at ha
                  generalize a.tmps.getD 34 undef = y34 at ha
                  generalize a.tmps.getD 35 undef = y35 at ha
                  generalize a.tmps.getD 36 undef = y36 at ha
                  generalize a.tmps.getD 37 undef = y37 at ha
                  generalize a.tmps.getD 38 undef = y38 at ha
                  generalize a.tmps.getD 39 undef = y39 at ha
                  generalize a.tmps.getD 40 undef = y40 at ha
                  generalize a.tmps.getD 41 undef = y41 at ha
                  generalize a.tmps.getD 42 undef = y42 at ha
                  generalize a.tmps.getD 43 undef = y43 at ha
                  generalize a.tmps.getD 44 undef = y44 at ha
                  generalize a.tmps.getD 45 undef = y45 at ha
                  generalize a.tmps.getD 46 undef = y46 at ha
                  generalize a.tmps.getD 47 undef = y47 at ha
                  generalize a.tmps.getD 48 undef = y48 at ha
                  generalize a.tmps.getD 49 undef = y49 at ha
                  generalize a.tmps.getD 50 undef = y50 at ha
                  generalize a.tmps.getD 51 undef = y51 at ha
                  have k52 := got 19 _ 52 rfl rfl
                  simp only at k52
                  rw [k52] at ha
                  clear k52
                  clear got same hsize hdef did
                  subst ha
                  simp only [List.setIfInBounds_toArray, List.set_cons_zero, List.set_cons_succ]
                  go_wp2
                  go_ret
                  refine ⟨?_, bthen HX5.out.1 hW⟩
                  rw [← HI.out, HIK2.out, HPK.out]
                  simp [HLT.out]
              · have HGE : Hid (decide (kj ≥ key) = false) := Lib.hid (by simp; omega)
                have HLT : Hid (decide (kj < key) = true) := Lib.hid (by simp; omega)
                clear hge
                refine Reg.region_mono (P := Try.prog) (Ext := Bel) (R := fun i v W => match i with
                    | 0 => v = .func (.func 72) #[] #[]
                    | 1 => v = .agg #[.int .i64 key, .int .i64 child, .int .i64 len, .slice AB loc.length cB, .int .i64 next]
                    | 2 => v = .bool true
                    | 3 => v = .bool false
                    | 4 => v = .bool false
                    | 5 => v = .int .i64 (k : Int)
                    | 6 => v = .bool true
                    | 7 => v = .bool true
                    | 8 => v = .pointer (some ⟨w.heap.size, 2, none⟩)
                    | 9 => v = .slice (some ad) l.length cap
                    | 10 => v = .int .i64 (k : Int)
                    | 11 => v = .int .i64 (j : Int)
                    | 12 => v = .pointer (some (ad.add (j * 5)))
                    | 13 => v = .pointer (some (ad.add (j * 5)))
                    | 14 => v = .int .i64 kj
                    | 15 => v = .pointer (some ⟨g5, 0, none⟩)
                    | 16 => v = .int .i64 key
                    | 17 => v = .bool false
                    | 18 => v = .bool false
                    | 19 => v = .bool false
                    | _ => True) (fun W => Below W5.heap.size W5 W) rfl (by kernel_rfl) (by kernel_rfl) (Bel.drew W5) (fun W W' h h' => bthen h h') Bel.refl (by intro j v W W' hx h; split at h <;> exact h) ?_ ?_
                · intro i oi hoi a W hW need old
                  match i, hoi with
                  | 0, hoi =>
                    simp only [List.getElem?_toArray, List.getElem?_cons_succ, List.getElem?_cons_zero, Option.some.injEq] at hoi
                    subst hoi
                    refine Reg.ob_plain rfl ?_
                    have e3 : a.eval (.tmp 3) = .func (.func 72) #[] #[] := old 3 (by kernel_rfl)
                    refine Reg.wp_val (W' := W) (v := _) (by simp only [execOp, e3, Reg.eval_const]; rfl) ⟨_, rfl, Bel.refl W, rfl⟩
                  | 1, hoi =>
                    simp only [List.getElem?_toArray, List.getElem?_cons_succ, List.getElem?_cons_zero, Option.some.injEq] at hoi
                    subst hoi
                    refine Reg.ob_plain rfl ?_
                    have e5 : a.eval (.tmp 5) = .pointer (some ⟨g5, 0, none⟩) := old 5 (by kernel_rfl)
                    have hx0 := pw_cell_below hW z0
                    have hx1 := pw_cell_below hW z1
                    have hx2 := pw_cell_below hW z2
                    have hx3 := pw_cell_below hW z3
                    have hx4 := pw_cell_below hW z4
                    refine Reg.wp_val (W' := W) (v := .agg #[.int .i64 key, .int .i64 child, .int .i64 len, .slice AB loc.length cB, .int .i64 next]) (by simp only [execOp, e5, Reg.eval_const, resolve, invoke, builtin, List.map_toArray, List.map_cons, List.map_nil, Option.map_some, Option.map_none]; (first | rfl | go_simp | (go_simp; rfl))) ⟨_, rfl, Bel.refl W, rfl⟩
                  | 2, hoi =>
                    simp only [List.getElem?_toArray, List.getElem?_cons_succ, List.getElem?_cons_zero, Option.some.injEq] at hoi
                    subst hoi
                    refine Reg.ob_plain rfl ?_
                    have e33 : a.eval (.tmp 33) = .func (.func 72) #[] #[] := need 0 _ 33 rfl rfl (by kernel_rfl)
                    have e34 : a.eval (.tmp 34) = .agg #[.int .i64 key, .int .i64 child, .int .i64 len, .slice AB loc.length cB, .int .i64 next] := need 1 _ 34 rfl rfl (by kernel_rfl)
                    refine Reg.wp_call (f := 72) (args := #[.agg #[.int .i64 key, .int .i64 child, .int .i64 len, .slice AB loc.length cB, .int .i64 next]]) (by simp only [execOp, e33, e34, Reg.eval_const, resolve, invoke, List.map_toArray, List.map_cons, List.map_nil]; go_simp) ?_
                    refine (HMC.out W).mono ?_
                    rintro e W' ⟨rfl, hb⟩; exact ⟨_, rfl, _, rfl, hb, rfl⟩
                  | 3, hoi =>
                    simp only [List.getElem?_toArray, List.getElem?_cons_succ, List.getElem?_cons_zero, Option.some.injEq] at hoi
                    subst hoi
                    refine Reg.ob_plain rfl ?_
                    have e35 : a.eval (.tmp 35) = .bool true := need 2 _ 35 rfl rfl (by kernel_rfl)
                    refine Reg.wp_val (W' := W) (v := .bool false) (by simp only [execOp, e35, Reg.eval_const, resolve, invoke, builtin, List.map_toArray, List.map_cons, List.map_nil, Option.map_some, Option.map_none]; (first | rfl | go_simp | (go_simp; rfl))) ⟨_, rfl, Bel.refl W, rfl⟩
                  | 4, hoi =>
                    simp only [List.getElem?_toArray, List.getElem?_cons_succ, List.getElem?_cons_zero, Option.some.injEq] at hoi
                    subst hoi
                    refine Reg.ob_plain rfl ?_
                    have e36 : a.eval (.tmp 36) = .bool false := need 3 _ 36 rfl rfl (by kernel_rfl)
                    refine Reg.wp_val (W' := W) (v := _) (by simp only [execOp, e36, Reg.eval_const]; rfl) ⟨_, rfl, Bel.refl W, rfl⟩
                  | 5, hoi =>
                    simp only [List.getElem?_toArray, List.getElem?_cons_succ, List.getElem?_cons_zero, Option.some.injEq] at hoi
                    subst hoi
                    have eg : a.eval (.tmp 37) = .bool false := need 4 _ 37 rfl rfl (by kernel_rfl)
                    refine Reg.ob_yes rfl rfl rfl eg ?_
                    have e4 : a.eval (.tmp 4) = .int .i64 (k : Int) := old 4 (by kernel_rfl)
                    refine Reg.wp_val (W' := W) (v := _) (by simp only [execOp, e4, Reg.eval_const]; rfl) ⟨_, rfl, Bel.refl W, rfl⟩
                  | 6, hoi =>
                    simp only [List.getElem?_toArray, List.getElem?_cons_succ, List.getElem?_cons_zero, Option.some.injEq] at hoi
                    subst hoi
                    have eg : a.eval (.tmp 37) = .bool false := need 4 _ 37 rfl rfl (by kernel_rfl)
                    refine Reg.ob_yes rfl rfl rfl eg ?_
                    have e38 : a.eval (.tmp 38) = .int .i64 (k : Int) := need 5 _ 38 rfl rfl (by kernel_rfl)
                    have hkk := HKK.out
                    refine Reg.wp_val (W' := W) (v := .bool true) (by simp only [execOp, e38, Reg.eval_const, resolve, invoke, builtin, List.map_toArray, List.map_cons, List.map_nil, Option.map_some, Option.map_none]; (first | rfl | go_simp | (go_simp; rfl))) ⟨_, rfl, Bel.refl W, rfl⟩
                  | 7, hoi =>
                    simp only [List.getElem?_toArray, List.getElem?_cons_succ, List.getElem?_cons_zero, Option.some.injEq] at hoi
                    subst hoi
                    have eg : a.eval (.tmp 37) = .bool false := need 4 _ 37 rfl rfl (by kernel_rfl)
                    refine Reg.ob_yes rfl rfl rfl eg ?_
                    have e39 : a.eval (.tmp 39) = .bool true := need 6 _ 39 rfl rfl (by kernel_rfl)
                    refine Reg.wp_val (W' := W) (v := _) (by simp only [execOp, e39, Reg.eval_const]; rfl) ⟨_, rfl, Bel.refl W, rfl⟩
                  | 8, hoi =>
                    simp only [List.getElem?_toArray, List.getElem?_cons_succ, List.getElem?_cons_zero, Option.some.injEq] at hoi
                    subst hoi
                    have eg : a.eval (.tmp 40) = .bool true := need 7 _ 40 rfl rfl (by kernel_rfl)
                    refine Reg.ob_yes rfl rfl rfl eg ?_
                    have e1 : a.eval (.tmp 1) = .pointer (some ⟨w.heap.size, 0, none⟩) := old 1 (by kernel_rfl)
                    refine Reg.wp_val (W' := W) (v := .pointer (some ⟨w.heap.size, 2, none⟩)) (by simp only [execOp, e1, Reg.eval_const, resolve, invoke, builtin, List.map_toArray, List.map_cons, List.map_nil, Option.map_some, Option.map_none]; (first | rfl | go_simp | (go_simp; rfl))) ⟨_, rfl, Bel.refl W, rfl⟩
                  | 9, hoi =>
                    simp only [List.getElem?_toArray, List.getElem?_cons_succ, List.getElem?_cons_zero, Option.some.injEq] at hoi
                    subst hoi
                    have eg : a.eval (.tmp 40) = .bool true := need 7 _ 40 rfl rfl (by kernel_rfl)
                    refine Reg.ob_yes rfl rfl rfl eg ?_
                    have e41 : a.eval (.tmp 41) = .pointer (some ⟨w.heap.size, 2, none⟩) := need 8 _ 41 rfl rfl (by kernel_rfl)
                    have hx := pw_cell_below hW n2
                    refine Reg.wp_val (W' := W) (v := .slice (some ad) l.length cap) (by simp only [execOp, e41, Reg.eval_const, resolve, invoke, builtin, List.map_toArray, List.map_cons, List.map_nil, Option.map_some, Option.map_none]; (first | rfl | go_simp | (go_simp; rfl))) ⟨_, rfl, Bel.refl W, rfl⟩
                  | 10, hoi =>
                    simp only [List.getElem?_toArray, List.getElem?_cons_succ, List.getElem?_cons_zero, Option.some.injEq] at hoi
                    subst hoi
                    have eg : a.eval (.tmp 40) = .bool true := need 7 _ 40 rfl rfl (by kernel_rfl)
                    refine Reg.ob_yes rfl rfl rfl eg ?_
                    have e4 : a.eval (.tmp 4) = .int .i64 (k : Int) := old 4 (by kernel_rfl)
                    refine Reg.wp_val (W' := W) (v := _) (by simp only [execOp, e4, Reg.eval_const]; rfl) ⟨_, rfl, Bel.refl W, rfl⟩
                  | 11, hoi =>
                    simp only [List.getElem?_toArray, List.getElem?_cons_succ, List.getElem?_cons_zero, Option.some.injEq] at hoi
                    subst hoi
                    have eg : a.eval (.tmp 40) = .bool true := need 7 _ 40 rfl rfl (by kernel_rfl)
                    refine Reg.ob_yes rfl rfl rfl eg ?_
                    have e43 : a.eval (.tmp 43) = .int .i64 (k : Int) := need 10 _ 43 rfl rfl (by kernel_rfl)
                    have hkw := HKW.out
                    refine Reg.wp_val (W' := W) (v := .int .i64 (j : Int)) (by simp only [execOp, e43, Reg.eval_const, resolve, invoke, builtin, List.map_toArray, List.map_cons, List.map_nil, Option.map_some, Option.map_none]; (first | rfl | go_simp | (go_simp; rfl))) ⟨_, rfl, Bel.refl W, rfl⟩
                  | 12, hoi =>
                    simp only [List.getElem?_toArray, List.getElem?_cons_succ, List.getElem?_cons_zero, Option.some.injEq] at hoi
                    subst hoi
                    have eg : a.eval (.tmp 40) = .bool true := need 7 _ 40 rfl rfl (by kernel_rfl)
                    refine Reg.ob_yes rfl rfl rfl eg ?_
                    have e42 : a.eval (.tmp 42) = .slice (some ad) l.length cap := need 9 _ 42 rfl rfl (by kernel_rfl)
                    have e44 : a.eval (.tmp 44) = .int .i64 (j : Int) := need 11 _ 44 rfl rfl (by kernel_rfl)
                    have hjl := HJL.out
                    refine Reg.wp_val (W' := W) (v := .pointer (some (ad.add (j * 5)))) (by simp only [execOp, e42, e44, Reg.eval_const, resolve, invoke, builtin, List.map_toArray, List.map_cons, List.map_nil, Option.map_some, Option.map_none]; (first | rfl | go_simp | (go_simp; rfl))) ⟨_, rfl, Bel.refl W, rfl⟩
                  | 13, hoi =>
                    simp only [List.getElem?_toArray, List.getElem?_cons_succ, List.getElem?_cons_zero, Option.some.injEq] at hoi
                    subst hoi
                    have eg : a.eval (.tmp 40) = .bool true := need 7 _ 40 rfl rfl (by kernel_rfl)
                    refine Reg.ob_yes rfl rfl rfl eg ?_
                    have e45 : a.eval (.tmp 45) = .pointer (some (ad.add (j * 5))) := need 12 _ 45 rfl rfl (by kernel_rfl)
                    refine Reg.wp_val (W' := W) (v := .pointer (some (ad.add (j * 5)))) (by simp only [execOp, e45, Reg.eval_const, resolve, invoke, builtin, List.map_toArray, List.map_cons, List.map_nil, Option.map_some, Option.map_none]; (first | rfl | go_simp | (go_simp; rfl))) ⟨_, rfl, Bel.refl W, rfl⟩
                  | 14, hoi =>
                    simp only [List.getElem?_toArray, List.getElem?_cons_succ, List.getElem?_cons_zero, Option.some.injEq] at hoi
                    subst hoi
                    have eg : a.eval (.tmp 40) = .bool true := need 7 _ 40 rfl rfl (by kernel_rfl)
                    refine Reg.ob_yes rfl rfl rfl eg ?_
                    have e46 : a.eval (.tmp 46) = .pointer (some (ad.add (j * 5))) := need 13 _ 46 rfl rfl (by kernel_rfl)
                    have hx := pw_cell_below hW zj
                    refine Reg.wp_val (W' := W) (v := .int .i64 kj) (by simp only [execOp, e46, Reg.eval_const, resolve, invoke, builtin, List.map_toArray, List.map_cons, List.map_nil, Option.map_some, Option.map_none]; (first | rfl | go_simp | (go_simp; rfl))) ⟨_, rfl, Bel.refl W, rfl⟩
                  | 15, hoi =>
                    simp only [List.getElem?_toArray, List.getElem?_cons_succ, List.getElem?_cons_zero, Option.some.injEq] at hoi
                    subst hoi
                    have eg : a.eval (.tmp 40) = .bool true := need 7 _ 40 rfl rfl (by kernel_rfl)
                    refine Reg.ob_yes rfl rfl rfl eg ?_
                    have e5 : a.eval (.tmp 5) = .pointer (some ⟨g5, 0, none⟩) := old 5 (by kernel_rfl)
                    refine Reg.wp_val (W' := W) (v := .pointer (some ⟨g5, 0, none⟩)) (by simp only [execOp, e5, Reg.eval_const, resolve, invoke, builtin, List.map_toArray, List.map_cons, List.map_nil, Option.map_some, Option.map_none]; (first | rfl | go_simp | (go_simp; rfl))) ⟨_, rfl, Bel.refl W, rfl⟩
                  | 16, hoi =>
                    simp only [List.getElem?_toArray, List.getElem?_cons_succ, List.getElem?_cons_zero, Option.some.injEq] at hoi
                    subst hoi
                    have eg : a.eval (.tmp 40) = .bool true := need 7 _ 40 rfl rfl (by kernel_rfl)
                    refine Reg.ob_yes rfl rfl rfl eg ?_
                    have e48 : a.eval (.tmp 48) = .pointer (some ⟨g5, 0, none⟩) := need 15 _ 48 rfl rfl (by kernel_rfl)
                    have hx := pw_cell_below hW z0
                    refine Reg.wp_val (W' := W) (v := .int .i64 key) (by simp only [execOp, e48, Reg.eval_const, resolve, invoke, builtin, List.map_toArray, List.map_cons, List.map_nil, Option.map_some, Option.map_none]; (first | rfl | go_simp | (go_simp; rfl))) ⟨_, rfl, Bel.refl W, rfl⟩
                  | 17, hoi =>
                    simp only [List.getElem?_toArray, List.getElem?_cons_succ, List.getElem?_cons_zero, Option.some.injEq] at hoi
                    subst hoi
                    have eg : a.eval (.tmp 40) = .bool true := need 7 _ 40 rfl rfl (by kernel_rfl)
                    refine Reg.ob_yes rfl rfl rfl eg ?_
                    have e47 : a.eval (.tmp 47) = .int .i64 kj := need 14 _ 47 rfl rfl (by kernel_rfl)
                    have e49 : a.eval (.tmp 49) = .int .i64 key := need 16 _ 49 rfl rfl (by kernel_rfl)
                    have hge := HGE.out
                    refine Reg.wp_val (W' := W) (v := .bool false) (by simp only [execOp, e47, e49, Reg.eval_const, resolve, invoke, builtin, List.map_toArray, List.map_cons, List.map_nil, Option.map_some, Option.map_none]; (first | rfl | go_simp | (go_simp; rfl))) ⟨_, rfl, Bel.refl W, rfl⟩
                  | 18, hoi =>
                    simp only [List.getElem?_toArray, List.getElem?_cons_succ, List.getElem?_cons_zero, Option.some.injEq] at hoi
                    subst hoi
                    have eg : a.eval (.tmp 37) = .bool false := need 4 _ 37 rfl rfl (by kernel_rfl)
                    refine Reg.ob_yes rfl rfl rfl eg ?_
                    have e40 : a.eval (.tmp 40) = .bool true := need 7 _ 40 rfl rfl (by kernel_rfl)
                    have e50 : a.eval (.tmp 50) = .bool false := need 17 _ 50 rfl rfl (by kernel_rfl)
                    refine Reg.wp_val (W' := W) (v := .bool false) (by simp only [execOp, e40, e50, Reg.eval_const, resolve, invoke, builtin, List.map_toArray, List.map_cons, List.map_nil, Option.map_some, Option.map_none]; (first | rfl | go_simp | (go_simp; rfl))) ⟨_, rfl, Bel.refl W, rfl⟩
                  | 19, hoi =>
                    simp only [List.getElem?_toArray, List.getElem?_cons_succ, List.getElem?_cons_zero, Option.some.injEq] at hoi
                    subst hoi
                    refine Reg.ob_plain rfl ?_
                    have e37 : a.eval (.tmp 37) = .bool false := need 4 _ 37 rfl rfl (by kernel_rfl)
                    have e51 : a.eval (.tmp 51) = .bool false := need 18 _ 51 rfl rfl (by kernel_rfl)
                    refine Reg.wp_val (W' := W) (v := .bool false) (by simp only [execOp, e37, e51, Reg.eval_const, resolve, invoke, builtin, List.map_toArray, List.map_cons, List.map_nil, Option.map_some, Option.map_none]; (first | rfl | go_simp | (go_simp; rfl))) ⟨_, rfl, Bel.refl W, rfl⟩
                  | n + 20, hoi => simp at hoi
                · intro a w9 hW hsize hdef got same did
                  have ha := Reg.act_of [33, 34, 35, 36, 37, 38, 39, 40, 41, 42, 43, 44, 45, 46, 47, 48, 49, 50, 51, 52] hsize hdef same (by kernel_rfl)
                  simp only [List.foldl_cons, List.foldl_nil] at ha
                  generalize a.tmps.getD 33 undef = y33 at ha
                  generalize a.tmps.getD 34 undef = y34 at ha
                  generalize a.tmps.getD 35 undef = y35 at ha
                  generalize a.tmps.getD 36 undef = y36 at ha
                  generalize a.tmps.getD 37 undef = y37 at ha
                  generalize a.tmps.getD 38 undef = y38 at ha
                  generalize a.tmps.getD 39 undef = y39 at ha
                  generalize a.tmps.getD 40 undef = y40 at ha
                  generalize a.tmps.getD 41 undef = y41 at ha
                  generalize a.tmps.getD 42 undef = y42 at ha
                  generalize a.tmps.getD 43 undef = y43 at ha
                  generalize a.tmps.getD 44 undef = y44 at ha
                  generalize a.tmps.getD 45 undef = y45 at ha
                  generalize a.tmps.getD 46 undef = y46 at ha
                  generalize a.tmps.getD 47 undef = y47 at ha
                  generalize a.tmps.getD 48 undef = y48 at ha
                  generalize a.tmps.getD 49 undef = y49 at ha
                  generalize a.tmps.getD 50 undef = y50 at ha
                  generalize a.tmps.getD 51 undef = y51 at ha
                  have k52 := got 19 _ 52 rfl rfl
                  simp only at k52
                  rw [k52] at ha
                  clear k52
                  clear got same hsize hdef did
                  subst ha
                  simp only [List.setIfInBounds_toArray, List.set_cons_zero, List.set_cons_succ]
                  go_wp2
                  go_roundw
                  case rel =>
                    refine ⟨k + 1, by go_num, by omega, Lib.hid (HX5.out.below hW), Lib.hid ?_⟩
                    rw [← HI.out, HIK2.out, HPK.out]
                    have : prevK l (k + 1) = some key := by unfold prevK; rw [if_neg (by omega), Nat.add_sub_cancel, HGT.out]; rfl
                    rw [this]
                    simp [HLT.out]
                  case measure => (simp [intOf] <;> omega)
        · have hkl : k = l.length := by omega
          have hi := HI.out
          rw [hkl, List.drop_length] at hi
          have HI2 := Lib.hid hi
          clear hi hkl
          go_wp2
          go_ret
          refine ⟨?_, HX.out.1⟩
          rw [← HI2.out]
          rfl
  · have HF : Hid (goodV leaf right l = false) := Lib.hid (by
      rw [HG.out]
      by_cases q1 : (leaf == decide (right = 0)) = true
      · rw [q1]
        by_cases q2 : (leaf || pv) = true
        · exact absurd ⟨q1, q2⟩ hok
        · rw [Bool.not_eq_true] at q2
          rw [q2]; rfl
      · rw [Bool.not_eq_true] at q1
        rw [q1]; rfl)
    rw [HF.out]
    clear HG HF
    cases leaf with
    | true =>
      have hr : right ≠ 0 := fun e => hok (by rw [e]; simp)
      have br : (right == 0) = false := by simpa using hr
      clear hok hr
      go_enter Try.func47, Try.ntmps47
      go_wp2_with (go_at_call 74; refine (HP.out _).mono ?_; rintro e w0 ⟨rfl, rfl⟩)
      go_ret
      exact ⟨rfl, (Below.refl _ _).alloc (Nat.le_refl _) _⟩
    | false =>
      by_cases hr : right = 0
      · subst hr
        clear hok
        go_enter Try.func47, Try.ntmps47
        go_wp2_with (go_at_call 74; refine (HP.out _).mono ?_; rintro e w0 ⟨rfl, rfl⟩)
        go_ret
        exact ⟨rfl, (Below.refl _ _).alloc (Nat.le_refl _) _⟩
      · have br : (right == 0) = false := by simpa using hr
        have hpv : pv = false := by
          cases pv
          · rfl
          · exact absurd ⟨by simpa using hr, rfl⟩ hok
        subst hpv
        clear hok hr
        go_enter Try.func47, Try.ntmps47
        go_wp2_with (go_at_call 74; refine (HP.out _).mono ?_; rintro e w0 ⟨rfl, rfl⟩)
        go_ret
        exact ⟨rfl, (Below.refl _ _).alloc (Nat.le_refl _) _⟩
end Go.Proofs.Ytlfcgicobhalmaa.K
