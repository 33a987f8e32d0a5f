/- The law OctetPuts, walked. -/
import Derived.Test.YtlfcgicobhalmaaBase
import Derived.Test.YtlfcgicobhalmaaWLaw02
import Derived.Test.YtlfcgicobhalmaaReg
namespace Go.Proofs.Ytlfcgicobhalmaa.K
open Go Go.RowKit Go.Proofs.YtlfcgicobhalmaaW.PrintWords Go.Proofs.YtlfcgicobhalmaaW.PrintLast Go.Proofs.YtlfcgicobhalmaaW.PrintMore
set_option linter.unusedVariables false
set_option linter.unusedSimpArgs false
open Go.Proofs.Ytlfcgicobhalmaa.MOct (W V tk sz vr num head getV le be many putL)
/-- "spare room" -/
def spare : List Int := [115, 112, 97, 114, 101, 32, 114, 111, 111, 109]
abbrev spareS : ByteArray := ⟨#[115, 112, 97, 114, 101, 32, 114, 111, 111, 109]⟩
abbrev bx (kd n size : Int) (little : Bool) (AB : Option Addr) (m cB : Nat) : Obj := .cells #[.int .i64 kd, .int .u64 n, .int .i64 size, .bool little, .slice AB m cB] 30
abbrev KV : Kd (Int × Int × Int × Bool × List Int) := Kd.pair (Kd.int .i64) (Kd.pair (Kd.int .u64) (Kd.pair (Kd.int .i64) (Kd.pair Kd.bool (Kd.slice 5 (Kd.int .u8)))))
set_option maxHeartbeats 1000000 in
set_option maxRecDepth 100000 in
theorem OctetPuts_calls {w : World} (A : Option Addr) (c : Nat) (l : List Int) (hC : (Kd.int .u8).C w A l.length l) (hc : l.length ≤ c) (hq : (∀ x ∈ l, (Lit.int .u8 x).wf = true) ∧ l.length ≤ 9223372036854775807)
    (cs : Array Value) (x : Int × Int × Int × Bool × List Int) (hK : KV.K w x cs.toList)
    (hv : (Lit.int .i64 x.1).wf = true ∧ (Lit.int .u64 x.2.1).wf = true ∧ (Lit.int .i64 x.2.2.1).wf = true ∧ True ∧ (∀ y ∈ x.2.2.2.2, (Lit.int .u8 y).wf = true) ∧ x.2.2.2.2.length ≤ 9223372036854775807) :
    Calls Try.prog 4 #[.slice A l.length c, .agg cs] w fun e w' => e = .returned (.bool true) ∧ Below w.heap.size w w' := by
  obtain ⟨kd, n, size, little, bs⟩ := x
  obtain ⟨_, _, e0, rfl, _, _, rfl, rfl, _, _, rfl, rfl, _, _, rfl, rfl, AB, cB, rfl, _, _⟩ := hK
  obtain rfl : cs = #[.int .i64 kd, .int .u64 n, .int .i64 size, .bool little, .slice AB bs.length cB] := by
    cases cs; simpa using e0
  have HN := Lib.hid (u64_wf hv.2.1)
  have HQ := Lib.hid (bytesOk_wf hq.1)
  have HC : Hid (CB w A l) := Lib.hid hC
  clear hq hv hC e0
  by_cases hlen : 300 < l.length
  · go_enter Try.func4, Try.ntmps4
    go_wp2_with (go_at_call 13; refine (lives02 _).mono ?_; rintro e w4 ⟨rfl, hb4⟩; have HB4 := Lib.hid hb4; clear hb4)
    go_ret
    exact ⟨rfl, bthen ((Below.refl _ _).alloc (Nat.le_refl _) _) HB4.out⟩
  · have hl3 : l.length ≤ 300 := by omega
    have hb2 : l.length < 140737488355328 := by omega
    have HL3 := Lib.hid hl3
    have HLN := Lib.hid hb2
    clear hb2
    go_enter Try.func4, Try.ntmps4
    have hcell0 : ∀ W : World, Below (w.alloc (bx kd n size little AB bs.length cB)).heap.size (w.alloc (bx kd n size little AB bs.length cB)) W →
        W.cell? ⟨w.heap.size, 1, none⟩ = some (.int .u64 n) ∧ W.cell? ⟨w.heap.size, 2, none⟩ = some (.int .i64 size) ∧ W.cell? ⟨w.heap.size, 3, none⟩ = some (.bool little) := by
      intro W hW
      have hh : (w.alloc (bx kd n size little AB bs.length cB)).heap[w.heap.size]? = some (bx kd n size little AB bs.length cB) := heap_alloc_new w _
      have h2 := (hW.block w.heap.size (by simp)).trans hh
      exact ⟨cell_of_row W _ 1 _ 30 (0, 0) h2, cell_of_row W _ 2 _ 30 (0, 0) h2, cell_of_row W _ 3 _ 30 (0, 0) h2⟩
    have HCELL := Lib.hid hcell0
    clear hcell0
    go_wp2_with (first
      | (at_make; refine mk0 (w0 := w.alloc (bx kd n size little AB bs.length cB)) _ _ rfl rfl (l.length + 50) rfl rfl (by have := HL3.out; omega) (Below.refl _ _) ?_; intro v1 w1 HO1 HB1)
      | (at_builtin; refine appN (w0 := w.alloc (bx kd n size little AB bs.length cB)) _ _ rfl rfl v1 [] l A c rfl rfl HO1.out (HC.out.below (bthen ((Below.refl _ _).alloc (Nat.le_refl _) _) HB1.out)) HB1.out (by have := HLN.out; simpa using this) ?_; intro v2 w2 HO2 HB2)
      | (at_builtin; refine appS (w0 := w.alloc (bx kd n size little AB bs.length cB)) _ _ rfl rfl v2 ([] ++ l) spareS rfl rfl HO2.out HB2.out (by have := HL3.out; rw [show spareS.size = 10 from rfl, List.length_append]; simp; omega) ?_; intro v3 w3 HO3 HB3
         have ho3 : RB (w.alloc (bx kd n size little AB bs.length cB)) w3 v3 (l ++ spare) := HO3.out
         obtain ⟨g, cap, rfl, hcap, hC3'⟩ := ho3.form (by simp [spare])
         have hcap2 : l.length + 10 ≤ cap := by simpa [spare] using hcap
         obtain ⟨x1, x2, x3⟩ := HCELL.out w3 HB3.out
         clear ho3 HO3
         have HC3 := Lib.hid hC3'
         clear hC3' hcap HO1 HO2 HB1 HB2
         have HCA : Hid (CB w3 A l) := Lib.hid (HC.out.below (bthen ((Below.refl _ _).alloc (Nat.le_refl _) _) HB3.out)))
      | (go_at_call 14; refine (octet_Get_calls _ _ _ _ _ _ HCA.out hc HQ.out).mono ?_; rintro e w4 ⟨rfl, rfl⟩)
      | (go_at_call 15; refine (ref02_Get_calls _ _ _ _ _ _ HCA.out hc HQ.out).mono ?_; rintro e w4 ⟨rfl, rfl⟩)
      | (go_at_call 12; refine (octet_Take_calls _ _ _ _ HCA.out hc HQ.out).mono ?_; rintro e w4 ⟨rfl, rfl⟩)
      | (go_at_call 16; refine (ref02_Take_calls _ _ _ _ HCA.out hc HQ.out).mono ?_; rintro e w4 ⟨rfl, rfl⟩))
    have hg : ∀ W : World, Below w3.heap.size w3 W → CB W (some ⟨g, 0, none⟩) l := fun W hW => by
      have := (HC3.out.below hW).take l.length (by simp)
      rwa [List.take_left] at this
    have HG := Lib.hid hg
    have hl9 : l.length + 9 < 140737488355328 := by have := HL3.out; omega
    have HL9 := Lib.hid hl9
    clear hg hl9
    refine Reg.region_mono (P := Try.prog) (Ext := Bel) (R := fun i v W => match i with
        | 0 => v = .slice (some ⟨g, 0, none⟩) l.length cap
        | 1 => v = .pointer (some ⟨w.heap.size, 1, none⟩)
        | 2 => v = .int .u64 n
        | 3 => v = .pointer (some ⟨w.heap.size, 2, none⟩)
        | 4 => v = .int .i64 size
        | 5 => v = .pointer (some ⟨w.heap.size, 3, none⟩)
        | 6 => v = .bool little
        | 7 => RB w3 W v (l ++ putL n size little)
        | 8 => v = .string (strOfNums (l ++ putL n size little))
        | 9 => v = .slice A l.length c
        | 10 => v = .pointer (some ⟨w.heap.size, 1, none⟩)
        | 11 => v = .int .u64 n
        | 12 => v = .pointer (some ⟨w.heap.size, 2, none⟩)
        | 13 => v = .int .i64 size
        | 14 => v = .pointer (some ⟨w.heap.size, 3, none⟩)
        | 15 => v = .bool little
        | 16 => RB w3 W v (l ++ putL n size little)
        | 17 => v = .string (strOfNums (l ++ putL n size little))
        | 18 => v = .bool true
        | 19 => v = .bool true
        | 20 => v = .slice (some ⟨g, 0, none⟩) l.length cap
        | 21 => v = .pointer (some ⟨w.heap.size, 1, none⟩)
        | 22 => v = .int .u64 n
        | 23 => RB w3 W v (l ++ vr n)
        | 24 => v = .string (strOfNums (l ++ vr n))
        | 25 => v = .slice A l.length c
        | 26 => v = .pointer (some ⟨w.heap.size, 1, none⟩)
        | 27 => v = .int .u64 n
        | 28 => RB w3 W v (l ++ vr n)
        | 29 => v = .string (strOfNums (l ++ vr n))
        | 30 => v = .bool true
        | 31 => v = .bool true
        | 32 => v = .bool true
        | _ => True) (fun W => Below w3.heap.size w3 W) rfl (by kernel_rfl) (by kernel_rfl) (Bel.drew w3) (fun W W' h h' => bthen h h') Bel.refl (by intro j v W W' hx h; split at h <;> first | exact h | exact RB.below h hx) ?_ ?_
    · intro i oi hoi a W hW need old
      match i, hoi with
      | 0, hoi =>
        simp only [List.getElem?_toArray, List.getElem?_cons_succ, List.getElem?_cons_zero, Option.some.injEq] at hoi
        subst hoi
        refine Reg.ob_plain rfl ?_
        have e5 : a.eval (.tmp 5) = .slice (some ⟨g, 0, none⟩) l.length cap := old 5 (by kernel_rfl)
        refine Reg.wp_val (W' := W) (v := _) (by simp only [execOp, e5, Reg.eval_const]; rfl) ⟨_, rfl, Bel.refl W, rfl⟩
      | 1, hoi =>
        simp only [List.getElem?_toArray, List.getElem?_cons_succ, List.getElem?_cons_zero, Option.some.injEq] at hoi
        subst hoi
        refine Reg.ob_plain rfl ?_
        have e3 : a.eval (.tmp 3) = .pointer (some ⟨w.heap.size, 0, none⟩) := old 3 (by kernel_rfl)
        refine Reg.wp_val (W' := W) (v := .pointer (some ⟨w.heap.size, 1, none⟩)) (by simp only [execOp, e3, Reg.eval_const, resolve, invoke, builtin, List.map_toArray, List.map_cons, List.map_nil, Option.map_some, Option.map_none]; (first | rfl | go_simp | (go_simp; rfl))) ⟨_, rfl, Bel.refl W, rfl⟩
      | 2, hoi =>
        simp only [List.getElem?_toArray, List.getElem?_cons_succ, List.getElem?_cons_zero, Option.some.injEq] at hoi
        subst hoi
        refine Reg.ob_plain rfl ?_
        have e58 : a.eval (.tmp 58) = .pointer (some ⟨w.heap.size, 1, none⟩) := need 1 _ 58 rfl rfl (by kernel_rfl)
        have hx := (HCELL.out W (bthen HB3.out hW)).1
        refine Reg.wp_val (W' := W) (v := .int .u64 n) (by simp only [execOp, e58, Reg.eval_const, resolve, invoke, builtin, List.map_toArray, List.map_cons, List.map_nil, Option.map_some, Option.map_none]; (first | rfl | go_simp | (go_simp; rfl))) ⟨_, rfl, Bel.refl W, rfl⟩
      | 3, hoi =>
        simp only [List.getElem?_toArray, List.getElem?_cons_succ, List.getElem?_cons_zero, Option.some.injEq] at hoi
        subst hoi
        refine Reg.ob_plain rfl ?_
        have e3 : a.eval (.tmp 3) = .pointer (some ⟨w.heap.size, 0, none⟩) := old 3 (by kernel_rfl)
        refine Reg.wp_val (W' := W) (v := .pointer (some ⟨w.heap.size, 2, none⟩)) (by simp only [execOp, e3, Reg.eval_const, resolve, invoke, builtin, List.map_toArray, List.map_cons, List.map_nil, Option.map_some, Option.map_none]; (first | rfl | go_simp | (go_simp; rfl))) ⟨_, rfl, Bel.refl W, rfl⟩
      | 4, hoi =>
        simp only [List.getElem?_toArray, List.getElem?_cons_succ, List.getElem?_cons_zero, Option.some.injEq] at hoi
        subst hoi
        refine Reg.ob_plain rfl ?_
        have e60 : a.eval (.tmp 60) = .pointer (some ⟨w.heap.size, 2, none⟩) := need 3 _ 60 rfl rfl (by kernel_rfl)
        have hx := (HCELL.out W (bthen HB3.out hW)).2.1
        refine Reg.wp_val (W' := W) (v := .int .i64 size) (by simp only [execOp, e60, Reg.eval_const, resolve, invoke, builtin, List.map_toArray, List.map_cons, List.map_nil, Option.map_some, Option.map_none]; (first | rfl | go_simp | (go_simp; rfl))) ⟨_, rfl, Bel.refl W, rfl⟩
      | 5, hoi =>
        simp only [List.getElem?_toArray, List.getElem?_cons_succ, List.getElem?_cons_zero, Option.some.injEq] at hoi
        subst hoi
        refine Reg.ob_plain rfl ?_
        have e3 : a.eval (.tmp 3) = .pointer (some ⟨w.heap.size, 0, none⟩) := old 3 (by kernel_rfl)
        refine Reg.wp_val (W' := W) (v := .pointer (some ⟨w.heap.size, 3, none⟩)) (by simp only [execOp, e3, Reg.eval_const, resolve, invoke, builtin, List.map_toArray, List.map_cons, List.map_nil, Option.map_some, Option.map_none]; (first | rfl | go_simp | (go_simp; rfl))) ⟨_, rfl, Bel.refl W, rfl⟩
      | 6, hoi =>
        simp only [List.getElem?_toArray, List.getElem?_cons_succ, List.getElem?_cons_zero, Option.some.injEq] at hoi
        subst hoi
        refine Reg.ob_plain rfl ?_
        have e62 : a.eval (.tmp 62) = .pointer (some ⟨w.heap.size, 3, none⟩) := need 5 _ 62 rfl rfl (by kernel_rfl)
        have hx := (HCELL.out W (bthen HB3.out hW)).2.2
        refine Reg.wp_val (W' := W) (v := .bool little) (by simp only [execOp, e62, Reg.eval_const, resolve, invoke, builtin, List.map_toArray, List.map_cons, List.map_nil, Option.map_some, Option.map_none]; (first | rfl | go_simp | (go_simp; rfl))) ⟨_, rfl, Bel.refl W, rfl⟩
      | 7, hoi =>
        simp only [List.getElem?_toArray, List.getElem?_cons_succ, List.getElem?_cons_zero, Option.some.injEq] at hoi
        subst hoi
        refine Reg.ob_plain rfl ?_
        have e57 : a.eval (.tmp 57) = .slice (some ⟨g, 0, none⟩) l.length cap := need 0 _ 57 rfl rfl (by kernel_rfl)
        have e59 : a.eval (.tmp 59) = .int .u64 n := need 2 _ 59 rfl rfl (by kernel_rfl)
        have e61 : a.eval (.tmp 61) = .int .i64 size := need 4 _ 61 rfl rfl (by kernel_rfl)
        have e63 : a.eval (.tmp 63) = .bool little := need 6 _ 63 rfl rfl (by kernel_rfl)
        refine Reg.wp_call (f := 17) (args := #[.slice (some ⟨g, 0, none⟩) l.length cap, .int .u64 n, .int .i64 size, .bool little]) (by simp only [execOp, e57, e59, e61, e63, Reg.eval_const, resolve, invoke, List.map_toArray, List.map_cons, List.map_nil]; go_simp) ?_
        refine (octet_Put_calls _ _ _ _ _ _ _ (HG.out W hW) (by omega) HL9.out HN.out.1 HN.out.2).mono ?_
        rintro e W' ⟨v, rfl, ho, hb⟩; exact ⟨v, rfl, v, rfl, hb, ho.lower hW.size⟩
      | 8, hoi =>
        simp only [List.getElem?_toArray, List.getElem?_cons_succ, List.getElem?_cons_zero, Option.some.injEq] at hoi
        subst hoi
        refine Reg.ob_plain rfl ?_
        have r64 := need 7 _ 64 rfl rfl (by kernel_rfl)
        simp only at r64
        obtain ⟨x64, e64⟩ : ∃ x, a.eval (.tmp 64) = x := ⟨_, rfl⟩
        rw [← Reg.eval_tmp, e64] at r64
        have hs := r64.str
        refine Reg.wp_val (W' := W) (v := .string (strOfNums (l ++ putL n size little))) (by simp only [execOp, e64, Reg.eval_const, resolve, invoke, builtin, List.map_toArray, List.map_cons, List.map_nil, Option.map_some, Option.map_none]; (first | rfl | go_simp | (go_simp; rfl))) ⟨_, rfl, Bel.refl W, rfl⟩
      | 9, hoi =>
        simp only [List.getElem?_toArray, List.getElem?_cons_succ, List.getElem?_cons_zero, Option.some.injEq] at hoi
        subst hoi
        refine Reg.ob_plain rfl ?_
        have e0 : a.eval (.tmp 0) = .slice A l.length c := old 0 (by kernel_rfl)
        refine Reg.wp_val (W' := W) (v := _) (by simp only [execOp, e0, Reg.eval_const]; rfl) ⟨_, rfl, Bel.refl W, rfl⟩
      | 10, hoi =>
        simp only [List.getElem?_toArray, List.getElem?_cons_succ, List.getElem?_cons_zero, Option.some.injEq] at hoi
        subst hoi
        refine Reg.ob_plain rfl ?_
        have e3 : a.eval (.tmp 3) = .pointer (some ⟨w.heap.size, 0, none⟩) := old 3 (by kernel_rfl)
        refine Reg.wp_val (W' := W) (v := .pointer (some ⟨w.heap.size, 1, none⟩)) (by simp only [execOp, e3, Reg.eval_const, resolve, invoke, builtin, List.map_toArray, List.map_cons, List.map_nil, Option.map_some, Option.map_none]; (first | rfl | go_simp | (go_simp; rfl))) ⟨_, rfl, Bel.refl W, rfl⟩
      | 11, hoi =>
        simp only [List.getElem?_toArray, List.getElem?_cons_succ, List.getElem?_cons_zero, Option.some.injEq] at hoi
        subst hoi
        refine Reg.ob_plain rfl ?_
        have e67 : a.eval (.tmp 67) = .pointer (some ⟨w.heap.size, 1, none⟩) := need 10 _ 67 rfl rfl (by kernel_rfl)
        have hx := (HCELL.out W (bthen HB3.out hW)).1
        refine Reg.wp_val (W' := W) (v := .int .u64 n) (by simp only [execOp, e67, Reg.eval_const, resolve, invoke, builtin, List.map_toArray, List.map_cons, List.map_nil, Option.map_some, Option.map_none]; (first | rfl | go_simp | (go_simp; rfl))) ⟨_, rfl, Bel.refl W, rfl⟩
      | 12, hoi =>
        simp only [List.getElem?_toArray, List.getElem?_cons_succ, List.getElem?_cons_zero, Option.some.injEq] at hoi
        subst hoi
        refine Reg.ob_plain rfl ?_
        have e3 : a.eval (.tmp 3) = .pointer (some ⟨w.heap.size, 0, none⟩) := old 3 (by kernel_rfl)
        refine Reg.wp_val (W' := W) (v := .pointer (some ⟨w.heap.size, 2, none⟩)) (by simp only [execOp, e3, Reg.eval_const, resolve, invoke, builtin, List.map_toArray, List.map_cons, List.map_nil, Option.map_some, Option.map_none]; (first | rfl | go_simp | (go_simp; rfl))) ⟨_, rfl, Bel.refl W, rfl⟩
      | 13, hoi =>
        simp only [List.getElem?_toArray, List.getElem?_cons_succ, List.getElem?_cons_zero, Option.some.injEq] at hoi
        subst hoi
        refine Reg.ob_plain rfl ?_
        have e69 : a.eval (.tmp 69) = .pointer (some ⟨w.heap.size, 2, none⟩) := need 12 _ 69 rfl rfl (by kernel_rfl)
        have hx := (HCELL.out W (bthen HB3.out hW)).2.1
        refine Reg.wp_val (W' := W) (v := .int .i64 size) (by simp only [execOp, e69, Reg.eval_const, resolve, invoke, builtin, List.map_toArray, List.map_cons, List.map_nil, Option.map_some, Option.map_none]; (first | rfl | go_simp | (go_simp; rfl))) ⟨_, rfl, Bel.refl W, rfl⟩
      | 14, hoi =>
        simp only [List.getElem?_toArray, List.getElem?_cons_succ, List.getElem?_cons_zero, Option.some.injEq] at hoi
        subst hoi
        refine Reg.ob_plain rfl ?_
        have e3 : a.eval (.tmp 3) = .pointer (some ⟨w.heap.size, 0, none⟩) := old 3 (by kernel_rfl)
        refine Reg.wp_val (W' := W) (v := .pointer (some ⟨w.heap.size, 3, none⟩)) (by simp only [execOp, e3, Reg.eval_const, resolve, invoke, builtin, List.map_toArray, List.map_cons, List.map_nil, Option.map_some, Option.map_none]; (first | rfl | go_simp | (go_simp; rfl))) ⟨_, rfl, Bel.refl W, rfl⟩
      | 15, hoi =>
        simp only [List.getElem?_toArray, List.getElem?_cons_succ, List.getElem?_cons_zero, Option.some.injEq] at hoi
        subst hoi
        refine Reg.ob_plain rfl ?_
        have e71 : a.eval (.tmp 71) = .pointer (some ⟨w.heap.size, 3, none⟩) := need 14 _ 71 rfl rfl (by kernel_rfl)
        have hx := (HCELL.out W (bthen HB3.out hW)).2.2
        refine Reg.wp_val (W' := W) (v := .bool little) (by simp only [execOp, e71, Reg.eval_const, resolve, invoke, builtin, List.map_toArray, List.map_cons, List.map_nil, Option.map_some, Option.map_none]; (first | rfl | go_simp | (go_simp; rfl))) ⟨_, rfl, Bel.refl W, rfl⟩
      | 16, hoi =>
        simp only [List.getElem?_toArray, List.getElem?_cons_succ, List.getElem?_cons_zero, Option.some.injEq] at hoi
        subst hoi
        refine Reg.ob_plain rfl ?_
        have e66 : a.eval (.tmp 66) = .slice A l.length c := need 9 _ 66 rfl rfl (by kernel_rfl)
        have e68 : a.eval (.tmp 68) = .int .u64 n := need 11 _ 68 rfl rfl (by kernel_rfl)
        have e70 : a.eval (.tmp 70) = .int .i64 size := need 13 _ 70 rfl rfl (by kernel_rfl)
        have e72 : a.eval (.tmp 72) = .bool little := need 15 _ 72 rfl rfl (by kernel_rfl)
        refine Reg.wp_call (f := 18) (args := #[.slice A l.length c, .int .u64 n, .int .i64 size, .bool little]) (by simp only [execOp, e66, e68, e70, e72, Reg.eval_const, resolve, invoke, List.map_toArray, List.map_cons, List.map_nil]; go_simp) ?_
        refine (ref02_Put_calls _ _ _ _ _ _ _ (HCA.out.below hW) hc HL9.out HN.out.1 HN.out.2).mono ?_
        rintro e W' ⟨v, rfl, ho, hb⟩; exact ⟨v, rfl, v, rfl, hb, ho.lower hW.size⟩
      | 17, hoi =>
        simp only [List.getElem?_toArray, List.getElem?_cons_succ, List.getElem?_cons_zero, Option.some.injEq] at hoi
        subst hoi
        refine Reg.ob_plain rfl ?_
        have r73 := need 16 _ 73 rfl rfl (by kernel_rfl)
        simp only at r73
        obtain ⟨x73, e73⟩ : ∃ x, a.eval (.tmp 73) = x := ⟨_, rfl⟩
        rw [← Reg.eval_tmp, e73] at r73
        have hs := r73.str
        refine Reg.wp_val (W' := W) (v := .string (strOfNums (l ++ putL n size little))) (by simp only [execOp, e73, Reg.eval_const, resolve, invoke, builtin, List.map_toArray, List.map_cons, List.map_nil, Option.map_some, Option.map_none]; (first | rfl | go_simp | (go_simp; rfl))) ⟨_, rfl, Bel.refl W, rfl⟩
      | 18, hoi =>
        simp only [List.getElem?_toArray, List.getElem?_cons_succ, List.getElem?_cons_zero, Option.some.injEq] at hoi
        subst hoi
        refine Reg.ob_plain rfl ?_
        have e65 : a.eval (.tmp 65) = .string (strOfNums (l ++ putL n size little)) := need 8 _ 65 rfl rfl (by kernel_rfl)
        have e74 : a.eval (.tmp 74) = .string (strOfNums (l ++ putL n size little)) := need 17 _ 74 rfl rfl (by kernel_rfl)
        have hbb := beq_self_eq_true ((strOfNums (l ++ putL n size little)).toList)
        refine Reg.wp_val (W' := W) (v := .bool true) (by simp only [execOp, e65, e74, Reg.eval_const, resolve, invoke, builtin, List.map_toArray, List.map_cons, List.map_nil, Option.map_some, Option.map_none]; (first | rfl | go_simp | (go_simp; rfl))) ⟨_, rfl, Bel.refl W, rfl⟩
      | 19, hoi =>
        simp only [List.getElem?_toArray, List.getElem?_cons_succ, List.getElem?_cons_zero, Option.some.injEq] at hoi
        subst hoi
        refine Reg.ob_plain rfl ?_
        have e75 : a.eval (.tmp 75) = .bool true := need 18 _ 75 rfl rfl (by kernel_rfl)
        refine Reg.wp_val (W' := W) (v := _) (by simp only [execOp, e75, Reg.eval_const]; rfl) ⟨_, rfl, Bel.refl W, rfl⟩
      | 20, hoi =>
        simp only [List.getElem?_toArray, List.getElem?_cons_succ, List.getElem?_cons_zero, Option.some.injEq] at hoi
        subst hoi
        have eg : a.eval (.tmp 76) = .bool true := need 19 _ 76 rfl rfl (by kernel_rfl)
        refine Reg.ob_yes rfl rfl rfl eg ?_
        have e5 : a.eval (.tmp 5) = .slice (some ⟨g, 0, none⟩) l.length cap := old 5 (by kernel_rfl)
        refine Reg.wp_val (W' := W) (v := _) (by simp only [execOp, e5, Reg.eval_const]; rfl) ⟨_, rfl, Bel.refl W, rfl⟩
      | 21, hoi =>
        simp only [List.getElem?_toArray, List.getElem?_cons_succ, List.getElem?_cons_zero, Option.some.injEq] at hoi
        subst hoi
        have eg : a.eval (.tmp 76) = .bool true := need 19 _ 76 rfl rfl (by kernel_rfl)
        refine Reg.ob_yes rfl rfl rfl eg ?_
        have e3 : a.eval (.tmp 3) = .pointer (some ⟨w.heap.size, 0, none⟩) := old 3 (by kernel_rfl)
        refine Reg.wp_val (W' := W) (v := .pointer (some ⟨w.heap.size, 1, none⟩)) (by simp only [execOp, e3, Reg.eval_const, resolve, invoke, builtin, List.map_toArray, List.map_cons, List.map_nil, Option.map_some, Option.map_none]; (first | rfl | go_simp | (go_simp; rfl))) ⟨_, rfl, Bel.refl W, rfl⟩
      | 22, hoi =>
        simp only [List.getElem?_toArray, List.getElem?_cons_succ, List.getElem?_cons_zero, Option.some.injEq] at hoi
        subst hoi
        have eg : a.eval (.tmp 76) = .bool true := need 19 _ 76 rfl rfl (by kernel_rfl)
        refine Reg.ob_yes rfl rfl rfl eg ?_
        have e78 : a.eval (.tmp 78) = .pointer (some ⟨w.heap.size, 1, none⟩) := need 21 _ 78 rfl rfl (by kernel_rfl)
        have hx := (HCELL.out W (bthen HB3.out hW)).1
        refine Reg.wp_val (W' := W) (v := .int .u64 n) (by simp only [execOp, e78, Reg.eval_const, resolve, invoke, builtin, List.map_toArray, List.map_cons, List.map_nil, Option.map_some, Option.map_none]; (first | rfl | go_simp | (go_simp; rfl))) ⟨_, rfl, Bel.refl W, rfl⟩
      | 23, hoi =>
        simp only [List.getElem?_toArray, List.getElem?_cons_succ, List.getElem?_cons_zero, Option.some.injEq] at hoi
        subst hoi
        have eg : a.eval (.tmp 76) = .bool true := need 19 _ 76 rfl rfl (by kernel_rfl)
        refine Reg.ob_yes rfl rfl rfl eg ?_
        have e77 : a.eval (.tmp 77) = .slice (some ⟨g, 0, none⟩) l.length cap := need 20 _ 77 rfl rfl (by kernel_rfl)
        have e79 : a.eval (.tmp 79) = .int .u64 n := need 22 _ 79 rfl rfl (by kernel_rfl)
        refine Reg.wp_call (f := 11) (args := #[.slice (some ⟨g, 0, none⟩) l.length cap, .int .u64 n]) (by simp only [execOp, e77, e79, Reg.eval_const, resolve, invoke, List.map_toArray, List.map_cons, List.map_nil]; go_simp) ?_
        refine (octet_Var_calls _ _ _ _ _ (HG.out W hW) (by omega) HL9.out HN.out.1 HN.out.2).mono ?_
        rintro e W' ⟨v, rfl, ho, hb⟩; exact ⟨v, rfl, v, rfl, hb, ho.lower hW.size⟩
      | 24, hoi =>
        simp only [List.getElem?_toArray, List.getElem?_cons_succ, List.getElem?_cons_zero, Option.some.injEq] at hoi
        subst hoi
        have eg : a.eval (.tmp 76) = .bool true := need 19 _ 76 rfl rfl (by kernel_rfl)
        refine Reg.ob_yes rfl rfl rfl eg ?_
        have r80 := need 23 _ 80 rfl rfl (by kernel_rfl)
        simp only at r80
        obtain ⟨x80, e80⟩ : ∃ x, a.eval (.tmp 80) = x := ⟨_, rfl⟩
        rw [← Reg.eval_tmp, e80] at r80
        have hs := r80.str
        refine Reg.wp_val (W' := W) (v := .string (strOfNums (l ++ vr n))) (by simp only [execOp, e80, Reg.eval_const, resolve, invoke, builtin, List.map_toArray, List.map_cons, List.map_nil, Option.map_some, Option.map_none]; (first | rfl | go_simp | (go_simp; rfl))) ⟨_, rfl, Bel.refl W, rfl⟩
      | 25, hoi =>
        simp only [List.getElem?_toArray, List.getElem?_cons_succ, List.getElem?_cons_zero, Option.some.injEq] at hoi
        subst hoi
        have eg : a.eval (.tmp 76) = .bool true := need 19 _ 76 rfl rfl (by kernel_rfl)
        refine Reg.ob_yes rfl rfl rfl eg ?_
        have e0 : a.eval (.tmp 0) = .slice A l.length c := old 0 (by kernel_rfl)
        refine Reg.wp_val (W' := W) (v := _) (by simp only [execOp, e0, Reg.eval_const]; rfl) ⟨_, rfl, Bel.refl W, rfl⟩
      | 26, hoi =>
        simp only [List.getElem?_toArray, List.getElem?_cons_succ, List.getElem?_cons_zero, Option.some.injEq] at hoi
        subst hoi
        have eg : a.eval (.tmp 76) = .bool true := need 19 _ 76 rfl rfl (by kernel_rfl)
        refine Reg.ob_yes rfl rfl rfl eg ?_
        have e3 : a.eval (.tmp 3) = .pointer (some ⟨w.heap.size, 0, none⟩) := old 3 (by kernel_rfl)
        refine Reg.wp_val (W' := W) (v := .pointer (some ⟨w.heap.size, 1, none⟩)) (by simp only [execOp, e3, Reg.eval_const, resolve, invoke, builtin, List.map_toArray, List.map_cons, List.map_nil, Option.map_some, Option.map_none]; (first | rfl | go_simp | (go_simp; rfl))) ⟨_, rfl, Bel.refl W, rfl⟩
      | 27, hoi =>
        simp only [List.getElem?_toArray, List.getElem?_cons_succ, List.getElem?_cons_zero, Option.some.injEq] at hoi
        subst hoi
        have eg : a.eval (.tmp 76) = .bool true := need 19 _ 76 rfl rfl (by kernel_rfl)
        refine Reg.ob_yes rfl rfl rfl eg ?_
        have e83 : a.eval (.tmp 83) = .pointer (some ⟨w.heap.size, 1, none⟩) := need 26 _ 83 rfl rfl (by kernel_rfl)
        have hx := (HCELL.out W (bthen HB3.out hW)).1
        refine Reg.wp_val (W' := W) (v := .int .u64 n) (by simp only [execOp, e83, Reg.eval_const, resolve, invoke, builtin, List.map_toArray, List.map_cons, List.map_nil, Option.map_some, Option.map_none]; (first | rfl | go_simp | (go_simp; rfl))) ⟨_, rfl, Bel.refl W, rfl⟩
      | 28, hoi =>
        simp only [List.getElem?_toArray, List.getElem?_cons_succ, List.getElem?_cons_zero, Option.some.injEq] at hoi
        subst hoi
        have eg : a.eval (.tmp 76) = .bool true := need 19 _ 76 rfl rfl (by kernel_rfl)
        refine Reg.ob_yes rfl rfl rfl eg ?_
        have e82 : a.eval (.tmp 82) = .slice A l.length c := need 25 _ 82 rfl rfl (by kernel_rfl)
        have e84 : a.eval (.tmp 84) = .int .u64 n := need 27 _ 84 rfl rfl (by kernel_rfl)
        refine Reg.wp_call (f := 19) (args := #[.slice A l.length c, .int .u64 n]) (by simp only [execOp, e82, e84, Reg.eval_const, resolve, invoke, List.map_toArray, List.map_cons, List.map_nil]; go_simp) ?_
        refine (ref02_Var_calls _ _ _ _ _ (HCA.out.below hW) hc HL9.out HN.out.1 HN.out.2).mono ?_
        rintro e W' ⟨v, rfl, ho, hb⟩; exact ⟨v, rfl, v, rfl, hb, ho.lower hW.size⟩
      | 29, hoi =>
        simp only [List.getElem?_toArray, List.getElem?_cons_succ, List.getElem?_cons_zero, Option.some.injEq] at hoi
        subst hoi
        have eg : a.eval (.tmp 76) = .bool true := need 19 _ 76 rfl rfl (by kernel_rfl)
        refine Reg.ob_yes rfl rfl rfl eg ?_
        have r85 := need 28 _ 85 rfl rfl (by kernel_rfl)
        simp only at r85
        obtain ⟨x85, e85⟩ : ∃ x, a.eval (.tmp 85) = x := ⟨_, rfl⟩
        rw [← Reg.eval_tmp, e85] at r85
        have hs := r85.str
        refine Reg.wp_val (W' := W) (v := .string (strOfNums (l ++ vr n))) (by simp only [execOp, e85, Reg.eval_const, resolve, invoke, builtin, List.map_toArray, List.map_cons, List.map_nil, Option.map_some, Option.map_none]; (first | rfl | go_simp | (go_simp; rfl))) ⟨_, rfl, Bel.refl W, rfl⟩
      | 30, hoi =>
        simp only [List.getElem?_toArray, List.getElem?_cons_succ, List.getElem?_cons_zero, Option.some.injEq] at hoi
        subst hoi
        have eg : a.eval (.tmp 76) = .bool true := need 19 _ 76 rfl rfl (by kernel_rfl)
        refine Reg.ob_yes rfl rfl rfl eg ?_
        have e81 : a.eval (.tmp 81) = .string (strOfNums (l ++ vr n)) := need 24 _ 81 rfl rfl (by kernel_rfl)
        have e86 : a.eval (.tmp 86) = .string (strOfNums (l ++ vr n)) := need 29 _ 86 rfl rfl (by kernel_rfl)
        have hbb := beq_self_eq_true ((strOfNums (l ++ vr n)).toList)
        refine Reg.wp_val (W' := W) (v := .bool true) (by simp only [execOp, e81, e86, Reg.eval_const, resolve, invoke, builtin, List.map_toArray, List.map_cons, List.map_nil, Option.map_some, Option.map_none]; (first | rfl | go_simp | (go_simp; rfl))) ⟨_, rfl, Bel.refl W, rfl⟩
      | 31, hoi =>
        simp only [List.getElem?_toArray, List.getElem?_cons_succ, List.getElem?_cons_zero, Option.some.injEq] at hoi
        subst hoi
        refine Reg.ob_plain rfl ?_
        have e76 : a.eval (.tmp 76) = .bool true := need 19 _ 76 rfl rfl (by kernel_rfl)
        have e87 : a.eval (.tmp 87) = .bool true := need 30 _ 87 rfl rfl (by kernel_rfl)
        refine Reg.wp_val (W' := W) (v := .bool true) (by simp only [execOp, e76, e87, Reg.eval_const, resolve, invoke, builtin, List.map_toArray, List.map_cons, List.map_nil, Option.map_some, Option.map_none]; (first | rfl | go_simp | (go_simp; rfl))) ⟨_, rfl, Bel.refl W, rfl⟩
      | 32, hoi =>
        simp only [List.getElem?_toArray, List.getElem?_cons_succ, List.getElem?_cons_zero, Option.some.injEq] at hoi
        subst hoi
        refine Reg.ob_plain rfl ?_
        have e88 : a.eval (.tmp 88) = .bool true := need 31 _ 88 rfl rfl (by kernel_rfl)
        refine Reg.wp_val (W' := W) (v := _) (by simp only [execOp, e88, Reg.eval_const]; rfl) ⟨_, rfl, Bel.refl W, rfl⟩
      | n + 33, hoi => simp at hoi
    · intro a w8 hW hsize hdef got same
      have ha := Reg.act_of [57, 58, 59, 60, 61, 62, 63, 64, 65, 66, 67, 68, 69, 70, 71, 72, 73, 74, 75, 76, 77, 78, 79, 80, 81, 82, 83, 84, 85, 86, 87, 88, 14] hsize hdef same (by kernel_rfl)
      simp only [List.foldl_cons, List.foldl_nil] at ha
      generalize a.tmps.getD 57 undef = y57 at ha
      generalize a.tmps.getD 58 undef = y58 at ha
      generalize a.tmps.getD 59 undef = y59 at ha
      generalize a.tmps.getD 60 undef = y60 at ha
      generalize a.tmps.getD 61 undef = y61 at ha
      generalize a.tmps.getD 62 undef = y62 at ha
      generalize a.tmps.getD 63 undef = y63 at ha
      generalize a.tmps.getD 64 undef = y64 at ha
      generalize a.tmps.getD 65 undef = y65 at ha
      generalize a.tmps.getD 66 undef = y66 at ha
      generalize a.tmps.getD 67 undef = y67 at ha
      generalize a.tmps.getD 68 undef = y68 at ha
      generalize a.tmps.getD 69 undef = y69 at ha
      generalize a.tmps.getD 70 undef = y70 at ha
      generalize a.tmps.getD 71 undef = y71 at ha
      generalize a.tmps.getD 72 undef = y72 at ha
      generalize a.tmps.getD 73 undef = y73 at ha
      generalize a.tmps.getD 74 undef = y74 at ha
      generalize a.tmps.getD 75 undef = y75 at ha
      generalize a.tmps.getD 76 undef = y76 at ha
      generalize a.tmps.getD 77 undef = y77 at ha
      generalize a.tmps.getD 78 undef = y78 at ha
      generalize a.tmps.getD 79 undef = y79 at ha
      generalize a.tmps.getD 80 undef = y80 at ha
      generalize a.tmps.getD 81 undef = y81 at ha
      generalize a.tmps.getD 82 undef = y82 at ha
      generalize a.tmps.getD 83 undef = y83 at ha
      generalize a.tmps.getD 84 undef = y84 at ha
      generalize a.tmps.getD 85 undef = y85 at ha
      generalize a.tmps.getD 86 undef = y86 at ha
      generalize a.tmps.getD 87 undef = y87 at ha
      generalize a.tmps.getD 88 undef = y88 at ha
      have k14 := got 32 _ 14 rfl rfl
      simp only at k14
      rw [k14] at ha
      clear k14
      clear got same hsize hdef
      subst ha
      simp only [List.setIfInBounds_toArray, List.set_cons_zero, List.set_cons_succ]

      have HW8 := Lib.hid hW
      clear hW
      have hsp : ∀ W : World, Below w8.heap.size w8 W → (convert 23 9 (.slice (some ⟨g, 0, none⟩) (l.length + 10) cap)).run Try.prog W = .ok (.string (strOfNums (l ++ spare))) W := fun W hW => by
        have := (HC3.out.below (bthen HW8.out hW)).str (c := cap)
        rwa [List.length_append] at this
      have HSP := Lib.hid hsp
      have heq : ((strOfNums (l ++ spare)).toList == (strOfNums l ++ spareS).toList) = true := by
        have e : strOfNums (l ++ spare) = strOfNums l ++ spareS := by
          apply ByteArray.ext
          simp [strOfNums, spare, spareS]
        rw [e]
        exact beq_self_eq_true _
      have HEQ := Lib.hid heq
      clear hsp heq
      go_wp2_with fail
      refine Reg.region_mono (P := Try.prog) (Ext := Bel) (R := fun i v W => match i with
          | 0 => v = .bool true
          | 1 => v = .bool true
          | 2 => v = .int .u64 (getV l size little).1
          | 3 => v = .int .u64 (getV l size little).1
          | 4 => v = .bool true
          | 5 => v = .bool true
          | 6 => v = .bool true
          | 7 => v = .bool (getV l size little).2
          | 8 => v = .bool (getV l size little).2
          | 9 => v = .bool true
          | 10 => v = .bool true
          | 11 => v = .bool true
          | 12 => v = .int .u64 (MOct.take l).1
          | 13 => v = .int .u64 (MOct.take l).1
          | 14 => v = .bool true
          | 15 => v = .bool true
          | 16 => v = .bool true
          | 17 => v = .int .i64 (MOct.take l).2
          | 18 => v = .int .i64 (MOct.take l).2
          | 19 => v = .bool true
          | 20 => v = .bool true
          | 21 => v = .bool true
          | 22 => v = .pointer (some ⟨w.heap.size, 1, none⟩)
          | 23 => v = .int .u64 n
          | 24 => v = .int .i64 (sz n)
          | 25 => v = .pointer (some ⟨w.heap.size, 1, none⟩)
          | 26 => v = .int .u64 n
          | 27 => v = .int .i64 (sz n)
          | 28 => v = .bool true
          | 29 => v = .bool true
          | 30 => v = .bool true
          | 31 => v = .slice (some ⟨g, 0, none⟩) l.length cap
          | 32 => v = .slice A l.length c
          | 33 => v = .int .i64 ↑l.length
          | 34 => v = .int .i64 (↑l.length + 10)
          | 35 => v = .slice (some ⟨g, 0, none⟩) (l.length + 10) cap
          | 36 => v = .string (strOfNums (l ++ spare))
          | 37 => v = .slice A l.length c
          | 38 => v = .string (strOfNums l)
          | 39 => v = .string (strOfNums l ++ spareS)
          | 40 => v = .bool true
          | 41 => v = .bool true
          | 42 => v = .bool true
          | 43 => v = .bool true
          | 44 => v = .bool true
          | 45 => v = .bool true
          | _ => True) (fun W => Below w8.heap.size w8 W) rfl (by kernel_rfl) (by kernel_rfl) (Bel.drew w8) (fun W W' h h' => bthen h h') Bel.refl (by intro j v W W' hx h; split at h <;> first | exact h | exact RB.below h hx) ?_ ?_
      · intro i oi hoi a W hW need old
        match i, hoi with
        | 0, hoi =>
          simp only [List.getElem?_toArray, List.getElem?_cons_succ, List.getElem?_cons_zero, Option.some.injEq] at hoi
          subst hoi
          refine Reg.ob_plain rfl ?_
          have e14 : a.eval (.tmp 14) = .bool true := old 14 (by kernel_rfl)
          refine Reg.wp_val (W' := W) (v := _) (by simp only [execOp, e14, Reg.eval_const]; rfl) ⟨_, rfl, Bel.refl W, rfl⟩
        | 1, hoi =>
          simp only [List.getElem?_toArray, List.getElem?_cons_succ, List.getElem?_cons_zero, Option.some.injEq] at hoi
          subst hoi
          refine Reg.ob_plain rfl ?_
          have e89 : a.eval (.tmp 89) = .bool true := need 0 _ 89 rfl rfl (by kernel_rfl)
          refine Reg.wp_val (W' := W) (v := _) (by simp only [execOp, e89, Reg.eval_const]; rfl) ⟨_, rfl, Bel.refl W, rfl⟩
        | 2, hoi =>
          simp only [List.getElem?_toArray, List.getElem?_cons_succ, List.getElem?_cons_zero, Option.some.injEq] at hoi
          subst hoi
          have eg : a.eval (.tmp 90) = .bool true := need 1 _ 90 rfl rfl (by kernel_rfl)
          refine Reg.ob_yes rfl rfl rfl eg ?_
          have e6 : a.eval (.tmp 6) = .int .u64 (getV l size little).1 := old 6 (by kernel_rfl)
          refine Reg.wp_val (W' := W) (v := _) (by simp only [execOp, e6, Reg.eval_const]; rfl) ⟨_, rfl, Bel.refl W, rfl⟩
        | 3, hoi =>
          simp only [List.getElem?_toArray, List.getElem?_cons_succ, List.getElem?_cons_zero, Option.some.injEq] at hoi
          subst hoi
          have eg : a.eval (.tmp 90) = .bool true := need 1 _ 90 rfl rfl (by kernel_rfl)
          refine Reg.ob_yes rfl rfl rfl eg ?_
          have e8 : a.eval (.tmp 8) = .int .u64 (getV l size little).1 := old 8 (by kernel_rfl)
          refine Reg.wp_val (W' := W) (v := _) (by simp only [execOp, e8, Reg.eval_const]; rfl) ⟨_, rfl, Bel.refl W, rfl⟩
        | 4, hoi =>
          simp only [List.getElem?_toArray, List.getElem?_cons_succ, List.getElem?_cons_zero, Option.some.injEq] at hoi
          subst hoi
          have eg : a.eval (.tmp 90) = .bool true := need 1 _ 90 rfl rfl (by kernel_rfl)
          refine Reg.ob_yes rfl rfl rfl eg ?_
          have e91 : a.eval (.tmp 91) = .int .u64 (getV l size little).1 := need 2 _ 91 rfl rfl (by kernel_rfl)
          have e92 : a.eval (.tmp 92) = .int .u64 (getV l size little).1 := need 3 _ 92 rfl rfl (by kernel_rfl)
          have hbb := beq_self_eq_true (getV l size little).1
          refine Reg.wp_val (W' := W) (v := .bool true) (by simp only [execOp, e91, e92, Reg.eval_const, resolve, invoke, builtin, List.map_toArray, List.map_cons, List.map_nil, Option.map_some, Option.map_none]; (first | rfl | go_simp | (go_simp; rfl))) ⟨_, rfl, Bel.refl W, rfl⟩
        | 5, hoi =>
          simp only [List.getElem?_toArray, List.getElem?_cons_succ, List.getElem?_cons_zero, Option.some.injEq] at hoi
          subst hoi
          refine Reg.ob_plain rfl ?_
          have e90 : a.eval (.tmp 90) = .bool true := need 1 _ 90 rfl rfl (by kernel_rfl)
          have e93 : a.eval (.tmp 93) = .bool true := need 4 _ 93 rfl rfl (by kernel_rfl)
          refine Reg.wp_val (W' := W) (v := .bool true) (by simp only [execOp, e90, e93, Reg.eval_const, resolve, invoke, builtin, List.map_toArray, List.map_cons, List.map_nil, Option.map_some, Option.map_none]; (first | rfl | go_simp | (go_simp; rfl))) ⟨_, rfl, Bel.refl W, rfl⟩
        | 6, hoi =>
          simp only [List.getElem?_toArray, List.getElem?_cons_succ, List.getElem?_cons_zero, Option.some.injEq] at hoi
          subst hoi
          refine Reg.ob_plain rfl ?_
          have e94 : a.eval (.tmp 94) = .bool true := need 5 _ 94 rfl rfl (by kernel_rfl)
          refine Reg.wp_val (W' := W) (v := _) (by simp only [execOp, e94, Reg.eval_const]; rfl) ⟨_, rfl, Bel.refl W, rfl⟩
        | 7, hoi =>
          simp only [List.getElem?_toArray, List.getElem?_cons_succ, List.getElem?_cons_zero, Option.some.injEq] at hoi
          subst hoi
          have eg : a.eval (.tmp 95) = .bool true := need 6 _ 95 rfl rfl (by kernel_rfl)
          refine Reg.ob_yes rfl rfl rfl eg ?_
          have e7 : a.eval (.tmp 7) = .bool (getV l size little).2 := old 7 (by kernel_rfl)
          refine Reg.wp_val (W' := W) (v := _) (by simp only [execOp, e7, Reg.eval_const]; rfl) ⟨_, rfl, Bel.refl W, rfl⟩
        | 8, hoi =>
          simp only [List.getElem?_toArray, List.getElem?_cons_succ, List.getElem?_cons_zero, Option.some.injEq] at hoi
          subst hoi
          have eg : a.eval (.tmp 95) = .bool true := need 6 _ 95 rfl rfl (by kernel_rfl)
          refine Reg.ob_yes rfl rfl rfl eg ?_
          have e9 : a.eval (.tmp 9) = .bool (getV l size little).2 := old 9 (by kernel_rfl)
          refine Reg.wp_val (W' := W) (v := _) (by simp only [execOp, e9, Reg.eval_const]; rfl) ⟨_, rfl, Bel.refl W, rfl⟩
        | 9, hoi =>
          simp only [List.getElem?_toArray, List.getElem?_cons_succ, List.getElem?_cons_zero, Option.some.injEq] at hoi
          subst hoi
          have eg : a.eval (.tmp 95) = .bool true := need 6 _ 95 rfl rfl (by kernel_rfl)
          refine Reg.ob_yes rfl rfl rfl eg ?_
          have e96 : a.eval (.tmp 96) = .bool (getV l size little).2 := need 7 _ 96 rfl rfl (by kernel_rfl)
          have e97 : a.eval (.tmp 97) = .bool (getV l size little).2 := need 8 _ 97 rfl rfl (by kernel_rfl)
          have hbb := beq_self_eq_true (getV l size little).2
          refine Reg.wp_val (W' := W) (v := .bool true) (by simp only [execOp, e96, e97, Reg.eval_const, resolve, invoke, builtin, List.map_toArray, List.map_cons, List.map_nil, Option.map_some, Option.map_none]; (first | rfl | go_simp | (go_simp; rfl))) ⟨_, rfl, Bel.refl W, rfl⟩
        | 10, hoi =>
          simp only [List.getElem?_toArray, List.getElem?_cons_succ, List.getElem?_cons_zero, Option.some.injEq] at hoi
          subst hoi
          refine Reg.ob_plain rfl ?_
          have e95 : a.eval (.tmp 95) = .bool true := need 6 _ 95 rfl rfl (by kernel_rfl)
          have e98 : a.eval (.tmp 98) = .bool true := need 9 _ 98 rfl rfl (by kernel_rfl)
          refine Reg.wp_val (W' := W) (v := .bool true) (by simp only [execOp, e95, e98, Reg.eval_const, resolve, invoke, builtin, List.map_toArray, List.map_cons, List.map_nil, Option.map_some, Option.map_none]; (first | rfl | go_simp | (go_simp; rfl))) ⟨_, rfl, Bel.refl W, rfl⟩
        | 11, hoi =>
          simp only [List.getElem?_toArray, List.getElem?_cons_succ, List.getElem?_cons_zero, Option.some.injEq] at hoi
          subst hoi
          refine Reg.ob_plain rfl ?_
          have e99 : a.eval (.tmp 99) = .bool true := need 10 _ 99 rfl rfl (by kernel_rfl)
          refine Reg.wp_val (W' := W) (v := _) (by simp only [execOp, e99, Reg.eval_const]; rfl) ⟨_, rfl, Bel.refl W, rfl⟩
        | 12, hoi =>
          simp only [List.getElem?_toArray, List.getElem?_cons_succ, List.getElem?_cons_zero, Option.some.injEq] at hoi
          subst hoi
          have eg : a.eval (.tmp 100) = .bool true := need 11 _ 100 rfl rfl (by kernel_rfl)
          refine Reg.ob_yes rfl rfl rfl eg ?_
          have e10 : a.eval (.tmp 10) = .int .u64 (MOct.take l).1 := old 10 (by kernel_rfl)
          refine Reg.wp_val (W' := W) (v := _) (by simp only [execOp, e10, Reg.eval_const]; rfl) ⟨_, rfl, Bel.refl W, rfl⟩
        | 13, hoi =>
          simp only [List.getElem?_toArray, List.getElem?_cons_succ, List.getElem?_cons_zero, Option.some.injEq] at hoi
          subst hoi
          have eg : a.eval (.tmp 100) = .bool true := need 11 _ 100 rfl rfl (by kernel_rfl)
          refine Reg.ob_yes rfl rfl rfl eg ?_
          have e12 : a.eval (.tmp 12) = .int .u64 (MOct.take l).1 := old 12 (by kernel_rfl)
          refine Reg.wp_val (W' := W) (v := _) (by simp only [execOp, e12, Reg.eval_const]; rfl) ⟨_, rfl, Bel.refl W, rfl⟩
        | 14, hoi =>
          simp only [List.getElem?_toArray, List.getElem?_cons_succ, List.getElem?_cons_zero, Option.some.injEq] at hoi
          subst hoi
          have eg : a.eval (.tmp 100) = .bool true := need 11 _ 100 rfl rfl (by kernel_rfl)
          refine Reg.ob_yes rfl rfl rfl eg ?_
          have e101 : a.eval (.tmp 101) = .int .u64 (MOct.take l).1 := need 12 _ 101 rfl rfl (by kernel_rfl)
          have e102 : a.eval (.tmp 102) = .int .u64 (MOct.take l).1 := need 13 _ 102 rfl rfl (by kernel_rfl)
          have hbb := beq_self_eq_true (MOct.take l).1
          refine Reg.wp_val (W' := W) (v := .bool true) (by simp only [execOp, e101, e102, Reg.eval_const, resolve, invoke, builtin, List.map_toArray, List.map_cons, List.map_nil, Option.map_some, Option.map_none]; (first | rfl | go_simp | (go_simp; rfl))) ⟨_, rfl, Bel.refl W, rfl⟩
        | 15, hoi =>
          simp only [List.getElem?_toArray, List.getElem?_cons_succ, List.getElem?_cons_zero, Option.some.injEq] at hoi
          subst hoi
          refine Reg.ob_plain rfl ?_
          have e100 : a.eval (.tmp 100) = .bool true := need 11 _ 100 rfl rfl (by kernel_rfl)
          have e103 : a.eval (.tmp 103) = .bool true := need 14 _ 103 rfl rfl (by kernel_rfl)
          refine Reg.wp_val (W' := W) (v := .bool true) (by simp only [execOp, e100, e103, Reg.eval_const, resolve, invoke, builtin, List.map_toArray, List.map_cons, List.map_nil, Option.map_some, Option.map_none]; (first | rfl | go_simp | (go_simp; rfl))) ⟨_, rfl, Bel.refl W, rfl⟩
        | 16, hoi =>
          simp only [List.getElem?_toArray, List.getElem?_cons_succ, List.getElem?_cons_zero, Option.some.injEq] at hoi
          subst hoi
          refine Reg.ob_plain rfl ?_
          have e104 : a.eval (.tmp 104) = .bool true := need 15 _ 104 rfl rfl (by kernel_rfl)
          refine Reg.wp_val (W' := W) (v := _) (by simp only [execOp, e104, Reg.eval_const]; rfl) ⟨_, rfl, Bel.refl W, rfl⟩
        | 17, hoi =>
          simp only [List.getElem?_toArray, List.getElem?_cons_succ, List.getElem?_cons_zero, Option.some.injEq] at hoi
          subst hoi
          have eg : a.eval (.tmp 105) = .bool true := need 16 _ 105 rfl rfl (by kernel_rfl)
          refine Reg.ob_yes rfl rfl rfl eg ?_
          have e11 : a.eval (.tmp 11) = .int .i64 (MOct.take l).2 := old 11 (by kernel_rfl)
          refine Reg.wp_val (W' := W) (v := _) (by simp only [execOp, e11, Reg.eval_const]; rfl) ⟨_, rfl, Bel.refl W, rfl⟩
        | 18, hoi =>
          simp only [List.getElem?_toArray, List.getElem?_cons_succ, List.getElem?_cons_zero, Option.some.injEq] at hoi
          subst hoi
          have eg : a.eval (.tmp 105) = .bool true := need 16 _ 105 rfl rfl (by kernel_rfl)
          refine Reg.ob_yes rfl rfl rfl eg ?_
          have e13 : a.eval (.tmp 13) = .int .i64 (MOct.take l).2 := old 13 (by kernel_rfl)
          refine Reg.wp_val (W' := W) (v := _) (by simp only [execOp, e13, Reg.eval_const]; rfl) ⟨_, rfl, Bel.refl W, rfl⟩
        | 19, hoi =>
          simp only [List.getElem?_toArray, List.getElem?_cons_succ, List.getElem?_cons_zero, Option.some.injEq] at hoi
          subst hoi
          have eg : a.eval (.tmp 105) = .bool true := need 16 _ 105 rfl rfl (by kernel_rfl)
          refine Reg.ob_yes rfl rfl rfl eg ?_
          have e106 : a.eval (.tmp 106) = .int .i64 (MOct.take l).2 := need 17 _ 106 rfl rfl (by kernel_rfl)
          have e107 : a.eval (.tmp 107) = .int .i64 (MOct.take l).2 := need 18 _ 107 rfl rfl (by kernel_rfl)
          have hbb := beq_self_eq_true (MOct.take l).2
          refine Reg.wp_val (W' := W) (v := .bool true) (by simp only [execOp, e106, e107, Reg.eval_const, resolve, invoke, builtin, List.map_toArray, List.map_cons, List.map_nil, Option.map_some, Option.map_none]; (first | rfl | go_simp | (go_simp; rfl))) ⟨_, rfl, Bel.refl W, rfl⟩
        | 20, hoi =>
          simp only [List.getElem?_toArray, List.getElem?_cons_succ, List.getElem?_cons_zero, Option.some.injEq] at hoi
          subst hoi
          refine Reg.ob_plain rfl ?_
          have e105 : a.eval (.tmp 105) = .bool true := need 16 _ 105 rfl rfl (by kernel_rfl)
          have e108 : a.eval (.tmp 108) = .bool true := need 19 _ 108 rfl rfl (by kernel_rfl)
          refine Reg.wp_val (W' := W) (v := .bool true) (by simp only [execOp, e105, e108, Reg.eval_const, resolve, invoke, builtin, List.map_toArray, List.map_cons, List.map_nil, Option.map_some, Option.map_none]; (first | rfl | go_simp | (go_simp; rfl))) ⟨_, rfl, Bel.refl W, rfl⟩
        | 21, hoi =>
          simp only [List.getElem?_toArray, List.getElem?_cons_succ, List.getElem?_cons_zero, Option.some.injEq] at hoi
          subst hoi
          refine Reg.ob_plain rfl ?_
          have e109 : a.eval (.tmp 109) = .bool true := need 20 _ 109 rfl rfl (by kernel_rfl)
          refine Reg.wp_val (W' := W) (v := _) (by simp only [execOp, e109, Reg.eval_const]; rfl) ⟨_, rfl, Bel.refl W, rfl⟩
        | 22, hoi =>
          simp only [List.getElem?_toArray, List.getElem?_cons_succ, List.getElem?_cons_zero, Option.some.injEq] at hoi
          subst hoi
          have eg : a.eval (.tmp 110) = .bool true := need 21 _ 110 rfl rfl (by kernel_rfl)
          refine Reg.ob_yes rfl rfl rfl eg ?_
          have e3 : a.eval (.tmp 3) = .pointer (some ⟨w.heap.size, 0, none⟩) := old 3 (by kernel_rfl)
          refine Reg.wp_val (W' := W) (v := .pointer (some ⟨w.heap.size, 1, none⟩)) (by simp only [execOp, e3, Reg.eval_const, resolve, invoke, builtin, List.map_toArray, List.map_cons, List.map_nil, Option.map_some, Option.map_none]; (first | rfl | go_simp | (go_simp; rfl))) ⟨_, rfl, Bel.refl W, rfl⟩
        | 23, hoi =>
          simp only [List.getElem?_toArray, List.getElem?_cons_succ, List.getElem?_cons_zero, Option.some.injEq] at hoi
          subst hoi
          have eg : a.eval (.tmp 110) = .bool true := need 21 _ 110 rfl rfl (by kernel_rfl)
          refine Reg.ob_yes rfl rfl rfl eg ?_
          have e111 : a.eval (.tmp 111) = .pointer (some ⟨w.heap.size, 1, none⟩) := need 22 _ 111 rfl rfl (by kernel_rfl)
          have hx := (HCELL.out W (bthen (bthen HB3.out HW8.out) hW)).1
          refine Reg.wp_val (W' := W) (v := .int .u64 n) (by simp only [execOp, e111, Reg.eval_const, resolve, invoke, builtin, List.map_toArray, List.map_cons, List.map_nil, Option.map_some, Option.map_none]; (first | rfl | go_simp | (go_simp; rfl))) ⟨_, rfl, Bel.refl W, rfl⟩
        | 24, hoi =>
          simp only [List.getElem?_toArray, List.getElem?_cons_succ, List.getElem?_cons_zero, Option.some.injEq] at hoi
          subst hoi
          have eg : a.eval (.tmp 110) = .bool true := need 21 _ 110 rfl rfl (by kernel_rfl)
          refine Reg.ob_yes rfl rfl rfl eg ?_
          have e112 : a.eval (.tmp 112) = .int .u64 n := need 23 _ 112 rfl rfl (by kernel_rfl)
          refine Reg.wp_call (f := 20) (args := #[.int .u64 n]) (by simp only [execOp, e112, Reg.eval_const, resolve, invoke, List.map_toArray, List.map_cons, List.map_nil]; go_simp) ?_
          refine (octet_Size_calls _ _ HN.out.1 HN.out.2).mono ?_
          rintro e W' ⟨rfl, rfl⟩; exact ⟨_, rfl, _, rfl, Bel.refl _, rfl⟩
        | 25, hoi =>
          simp only [List.getElem?_toArray, List.getElem?_cons_succ, List.getElem?_cons_zero, Option.some.injEq] at hoi
          subst hoi
          have eg : a.eval (.tmp 110) = .bool true := need 21 _ 110 rfl rfl (by kernel_rfl)
          refine Reg.ob_yes rfl rfl rfl eg ?_
          have e3 : a.eval (.tmp 3) = .pointer (some ⟨w.heap.size, 0, none⟩) := old 3 (by kernel_rfl)
          refine Reg.wp_val (W' := W) (v := .pointer (some ⟨w.heap.size, 1, none⟩)) (by simp only [execOp, e3, Reg.eval_const, resolve, invoke, builtin, List.map_toArray, List.map_cons, List.map_nil, Option.map_some, Option.map_none]; (first | rfl | go_simp | (go_simp; rfl))) ⟨_, rfl, Bel.refl W, rfl⟩
        | 26, hoi =>
          simp only [List.getElem?_toArray, List.getElem?_cons_succ, List.getElem?_cons_zero, Option.some.injEq] at hoi
          subst hoi
          have eg : a.eval (.tmp 110) = .bool true := need 21 _ 110 rfl rfl (by kernel_rfl)
          refine Reg.ob_yes rfl rfl rfl eg ?_
          have e114 : a.eval (.tmp 114) = .pointer (some ⟨w.heap.size, 1, none⟩) := need 25 _ 114 rfl rfl (by kernel_rfl)
          have hx := (HCELL.out W (bthen (bthen HB3.out HW8.out) hW)).1
          refine Reg.wp_val (W' := W) (v := .int .u64 n) (by simp only [execOp, e114, Reg.eval_const, resolve, invoke, builtin, List.map_toArray, List.map_cons, List.map_nil, Option.map_some, Option.map_none]; (first | rfl | go_simp | (go_simp; rfl))) ⟨_, rfl, Bel.refl W, rfl⟩
        | 27, hoi =>
          simp only [List.getElem?_toArray, List.getElem?_cons_succ, List.getElem?_cons_zero, Option.some.injEq] at hoi
          subst hoi
          have eg : a.eval (.tmp 110) = .bool true := need 21 _ 110 rfl rfl (by kernel_rfl)
          refine Reg.ob_yes rfl rfl rfl eg ?_
          have e115 : a.eval (.tmp 115) = .int .u64 n := need 26 _ 115 rfl rfl (by kernel_rfl)
          refine Reg.wp_call (f := 21) (args := #[.int .u64 n]) (by simp only [execOp, e115, Reg.eval_const, resolve, invoke, List.map_toArray, List.map_cons, List.map_nil]; go_simp) ?_
          refine (ref02_Size_calls _ _ HN.out.1 HN.out.2).mono ?_
          rintro e W' ⟨rfl, rfl⟩; exact ⟨_, rfl, _, rfl, Bel.refl _, rfl⟩
        | 28, hoi =>
          simp only [List.getElem?_toArray, List.getElem?_cons_succ, List.getElem?_cons_zero, Option.some.injEq] at hoi
          subst hoi
          have eg : a.eval (.tmp 110) = .bool true := need 21 _ 110 rfl rfl (by kernel_rfl)
          refine Reg.ob_yes rfl rfl rfl eg ?_
          have e113 : a.eval (.tmp 113) = .int .i64 (sz n) := need 24 _ 113 rfl rfl (by kernel_rfl)
          have e116 : a.eval (.tmp 116) = .int .i64 (sz n) := need 27 _ 116 rfl rfl (by kernel_rfl)
          have hbb := beq_self_eq_true (sz n)
          refine Reg.wp_val (W' := W) (v := .bool true) (by simp only [execOp, e113, e116, Reg.eval_const, resolve, invoke, builtin, List.map_toArray, List.map_cons, List.map_nil, Option.map_some, Option.map_none]; (first | rfl | go_simp | (go_simp; rfl))) ⟨_, rfl, Bel.refl W, rfl⟩
        | 29, hoi =>
          simp only [List.getElem?_toArray, List.getElem?_cons_succ, List.getElem?_cons_zero, Option.some.injEq] at hoi
          subst hoi
          refine Reg.ob_plain rfl ?_
          have e110 : a.eval (.tmp 110) = .bool true := need 21 _ 110 rfl rfl (by kernel_rfl)
          have e117 : a.eval (.tmp 117) = .bool true := need 28 _ 117 rfl rfl (by kernel_rfl)
          refine Reg.wp_val (W' := W) (v := .bool true) (by simp only [execOp, e110, e117, Reg.eval_const, resolve, invoke, builtin, List.map_toArray, List.map_cons, List.map_nil, Option.map_some, Option.map_none]; (first | rfl | go_simp | (go_simp; rfl))) ⟨_, rfl, Bel.refl W, rfl⟩
        | 30, hoi =>
          simp only [List.getElem?_toArray, List.getElem?_cons_succ, List.getElem?_cons_zero, Option.some.injEq] at hoi
          subst hoi
          refine Reg.ob_plain rfl ?_
          have e118 : a.eval (.tmp 118) = .bool true := need 29 _ 118 rfl rfl (by kernel_rfl)
          refine Reg.wp_val (W' := W) (v := _) (by simp only [execOp, e118, Reg.eval_const]; rfl) ⟨_, rfl, Bel.refl W, rfl⟩
        | 31, hoi =>
          simp only [List.getElem?_toArray, List.getElem?_cons_succ, List.getElem?_cons_zero, Option.some.injEq] at hoi
          subst hoi
          have eg : a.eval (.tmp 119) = .bool true := need 30 _ 119 rfl rfl (by kernel_rfl)
          refine Reg.ob_yes rfl rfl rfl eg ?_
          have e5 : a.eval (.tmp 5) = .slice (some ⟨g, 0, none⟩) l.length cap := old 5 (by kernel_rfl)
          refine Reg.wp_val (W' := W) (v := _) (by simp only [execOp, e5, Reg.eval_const]; rfl) ⟨_, rfl, Bel.refl W, rfl⟩
        | 32, hoi =>
          simp only [List.getElem?_toArray, List.getElem?_cons_succ, List.getElem?_cons_zero, Option.some.injEq] at hoi
          subst hoi
          have eg : a.eval (.tmp 119) = .bool true := need 30 _ 119 rfl rfl (by kernel_rfl)
          refine Reg.ob_yes rfl rfl rfl eg ?_
          have e0 : a.eval (.tmp 0) = .slice A l.length c := old 0 (by kernel_rfl)
          refine Reg.wp_val (W' := W) (v := _) (by simp only [execOp, e0, Reg.eval_const]; rfl) ⟨_, rfl, Bel.refl W, rfl⟩
        | 33, hoi =>
          simp only [List.getElem?_toArray, List.getElem?_cons_succ, List.getElem?_cons_zero, Option.some.injEq] at hoi
          subst hoi
          have eg : a.eval (.tmp 119) = .bool true := need 30 _ 119 rfl rfl (by kernel_rfl)
          refine Reg.ob_yes rfl rfl rfl eg ?_
          have e121 : a.eval (.tmp 121) = .slice A l.length c := need 32 _ 121 rfl rfl (by kernel_rfl)
          refine Reg.wp_val (W' := W) (v := .int .i64 ↑l.length) (by simp only [execOp, e121, Reg.eval_const, resolve, invoke, builtin, List.map_toArray, List.map_cons, List.map_nil, Option.map_some, Option.map_none]; (first | rfl | go_simp | (go_simp; rfl))) ⟨_, rfl, Bel.refl W, rfl⟩
        | 34, hoi =>
          simp only [List.getElem?_toArray, List.getElem?_cons_succ, List.getElem?_cons_zero, Option.some.injEq] at hoi
          subst hoi
          have eg : a.eval (.tmp 119) = .bool true := need 30 _ 119 rfl rfl (by kernel_rfl)
          refine Reg.ob_yes rfl rfl rfl eg ?_
          have e122 : a.eval (.tmp 122) = .int .i64 ↑l.length := need 33 _ 122 rfl rfl (by kernel_rfl)
          have hwr : IntKind.i64.wrap (↑l.length + 10) = ↑l.length + 10 := by have := HL3.out; rw [IntKind.wrap_i64]; omega
          refine Reg.wp_val (W' := W) (v := .int .i64 (↑l.length + 10)) (by simp only [execOp, e122, Reg.eval_const, resolve, invoke, builtin, List.map_toArray, List.map_cons, List.map_nil, Option.map_some, Option.map_none]; (first | rfl | go_simp | (go_simp; rfl))) ⟨_, rfl, Bel.refl W, rfl⟩
        | 35, hoi =>
          simp only [List.getElem?_toArray, List.getElem?_cons_succ, List.getElem?_cons_zero, Option.some.injEq] at hoi
          subst hoi
          have eg : a.eval (.tmp 119) = .bool true := need 30 _ 119 rfl rfl (by kernel_rfl)
          refine Reg.ob_yes rfl rfl rfl eg ?_
          have e120 : a.eval (.tmp 120) = .slice (some ⟨g, 0, none⟩) l.length cap := need 31 _ 120 rfl rfl (by kernel_rfl)
          have e123 : a.eval (.tmp 123) = .int .i64 (↑l.length + 10) := need 34 _ 123 rfl rfl (by kernel_rfl)
          have hkc : 0 ≤ (l.length : Int) + 10 ∧ (l.length : Int) + 10 ≤ cap := by omega
          have htn : ((l.length : Int) + 10).toNat = l.length + 10 := by omega
          refine Reg.wp_val (W' := W) (v := .slice (some ⟨g, 0, none⟩) (l.length + 10) cap) (by simp only [execOp, e120, e123, Reg.eval_const, resolve, invoke, builtin, List.map_toArray, List.map_cons, List.map_nil, Option.map_some, Option.map_none]; (first | rfl | go_simp | (go_simp; rfl))) ⟨_, rfl, Bel.refl W, rfl⟩
        | 36, hoi =>
          simp only [List.getElem?_toArray, List.getElem?_cons_succ, List.getElem?_cons_zero, Option.some.injEq] at hoi
          subst hoi
          have eg : a.eval (.tmp 119) = .bool true := need 30 _ 119 rfl rfl (by kernel_rfl)
          refine Reg.ob_yes rfl rfl rfl eg ?_
          have e124 : a.eval (.tmp 124) = .slice (some ⟨g, 0, none⟩) (l.length + 10) cap := need 35 _ 124 rfl rfl (by kernel_rfl)
          have hs := HSP.out W hW
          refine Reg.wp_val (W' := W) (v := .string (strOfNums (l ++ spare))) (by simp only [execOp, e124, Reg.eval_const, resolve, invoke, builtin, List.map_toArray, List.map_cons, List.map_nil, Option.map_some, Option.map_none]; (first | rfl | go_simp | (go_simp; rfl))) ⟨_, rfl, Bel.refl W, rfl⟩
        | 37, hoi =>
          simp only [List.getElem?_toArray, List.getElem?_cons_succ, List.getElem?_cons_zero, Option.some.injEq] at hoi
          subst hoi
          have eg : a.eval (.tmp 119) = .bool true := need 30 _ 119 rfl rfl (by kernel_rfl)
          refine Reg.ob_yes rfl rfl rfl eg ?_
          have e0 : a.eval (.tmp 0) = .slice A l.length c := old 0 (by kernel_rfl)
          refine Reg.wp_val (W' := W) (v := _) (by simp only [execOp, e0, Reg.eval_const]; rfl) ⟨_, rfl, Bel.refl W, rfl⟩
        | 38, hoi =>
          simp only [List.getElem?_toArray, List.getElem?_cons_succ, List.getElem?_cons_zero, Option.some.injEq] at hoi
          subst hoi
          have eg : a.eval (.tmp 119) = .bool true := need 30 _ 119 rfl rfl (by kernel_rfl)
          refine Reg.ob_yes rfl rfl rfl eg ?_
          have e126 : a.eval (.tmp 126) = .slice A l.length c := need 37 _ 126 rfl rfl (by kernel_rfl)
          have hs := (HCA.out.below (bthen HW8.out hW)).str (c := c)
          refine Reg.wp_val (W' := W) (v := .string (strOfNums l)) (by simp only [execOp, e126, Reg.eval_const, resolve, invoke, builtin, List.map_toArray, List.map_cons, List.map_nil, Option.map_some, Option.map_none]; (first | rfl | go_simp | (go_simp; rfl))) ⟨_, rfl, Bel.refl W, rfl⟩
        | 39, hoi =>
          simp only [List.getElem?_toArray, List.getElem?_cons_succ, List.getElem?_cons_zero, Option.some.injEq] at hoi
          subst hoi
          have eg : a.eval (.tmp 119) = .bool true := need 30 _ 119 rfl rfl (by kernel_rfl)
          refine Reg.ob_yes rfl rfl rfl eg ?_
          have e127 : a.eval (.tmp 127) = .string (strOfNums l) := need 38 _ 127 rfl rfl (by kernel_rfl)
          have hsz : ¬ 9223372036854775807 < (strOfNums l).size + 10 := by have := HL3.out; rw [strOfNums_size]; omega
          refine Reg.wp_val (W' := W) (v := .string (strOfNums l ++ spareS)) (by simp only [execOp, e127, Reg.eval_const, resolve, invoke, builtin, List.map_toArray, List.map_cons, List.map_nil, Option.map_some, Option.map_none]; (first | rfl | go_simp | (go_simp; rfl))) ⟨_, rfl, Bel.refl W, rfl⟩
        | 40, hoi =>
          simp only [List.getElem?_toArray, List.getElem?_cons_succ, List.getElem?_cons_zero, Option.some.injEq] at hoi
          subst hoi
          have eg : a.eval (.tmp 119) = .bool true := need 30 _ 119 rfl rfl (by kernel_rfl)
          refine Reg.ob_yes rfl rfl rfl eg ?_
          have e125 : a.eval (.tmp 125) = .string (strOfNums (l ++ spare)) := need 36 _ 125 rfl rfl (by kernel_rfl)
          have e128 : a.eval (.tmp 128) = .string (strOfNums l ++ spareS) := need 39 _ 128 rfl rfl (by kernel_rfl)
          have hbb := HEQ.out
          refine Reg.wp_val (W' := W) (v := .bool true) (by simp only [execOp, e125, e128, Reg.eval_const, resolve, invoke, builtin, List.map_toArray, List.map_cons, List.map_nil, Option.map_some, Option.map_none]; (first | rfl | go_simp | (go_simp; rfl))) ⟨_, rfl, Bel.refl W, rfl⟩
        | 41, hoi =>
          simp only [List.getElem?_toArray, List.getElem?_cons_succ, List.getElem?_cons_zero, Option.some.injEq] at hoi
          subst hoi
          refine Reg.ob_plain rfl ?_
          have e119 : a.eval (.tmp 119) = .bool true := need 30 _ 119 rfl rfl (by kernel_rfl)
          have e129 : a.eval (.tmp 129) = .bool true := need 40 _ 129 rfl rfl (by kernel_rfl)
          refine Reg.wp_val (W' := W) (v := .bool true) (by simp only [execOp, e119, e129, Reg.eval_const, resolve, invoke, builtin, List.map_toArray, List.map_cons, List.map_nil, Option.map_some, Option.map_none]; (first | rfl | go_simp | (go_simp; rfl))) ⟨_, rfl, Bel.refl W, rfl⟩
        | 42, hoi =>
          simp only [List.getElem?_toArray, List.getElem?_cons_succ, List.getElem?_cons_zero, Option.some.injEq] at hoi
          subst hoi
          refine Reg.ob_plain rfl ?_
          have e130 : a.eval (.tmp 130) = .bool true := need 41 _ 130 rfl rfl (by kernel_rfl)
          refine Reg.wp_val (W' := W) (v := _) (by simp only [execOp, e130, Reg.eval_const]; rfl) ⟨_, rfl, Bel.refl W, rfl⟩
        | 43, hoi =>
          simp only [List.getElem?_toArray, List.getElem?_cons_succ, List.getElem?_cons_zero, Option.some.injEq] at hoi
          subst hoi
          have eg : a.eval (.tmp 131) = .bool true := need 42 _ 131 rfl rfl (by kernel_rfl)
          refine Reg.ob_yes rfl rfl rfl eg ?_
          refine Reg.wp_call (f := 13) (args := #[]) (by simp only [execOp, Reg.eval_const, resolve, invoke, List.map_toArray, List.map_cons, List.map_nil]; go_simp) ?_
          refine (lives02 _).mono ?_
          rintro e W' ⟨rfl, hb⟩; exact ⟨_, rfl, _, rfl, hb, rfl⟩
        | 44, hoi =>
          simp only [List.getElem?_toArray, List.getElem?_cons_succ, List.getElem?_cons_zero, Option.some.injEq] at hoi
          subst hoi
          refine Reg.ob_plain rfl ?_
          have e131 : a.eval (.tmp 131) = .bool true := need 42 _ 131 rfl rfl (by kernel_rfl)
          have e132 : a.eval (.tmp 132) = .bool true := need 43 _ 132 rfl rfl (by kernel_rfl)
          refine Reg.wp_val (W' := W) (v := .bool true) (by simp only [execOp, e131, e132, Reg.eval_const, resolve, invoke, builtin, List.map_toArray, List.map_cons, List.map_nil, Option.map_some, Option.map_none]; (first | rfl | go_simp | (go_simp; rfl))) ⟨_, rfl, Bel.refl W, rfl⟩
        | 45, hoi =>
          simp only [List.getElem?_toArray, List.getElem?_cons_succ, List.getElem?_cons_zero, Option.some.injEq] at hoi
          subst hoi
          refine Reg.ob_plain rfl ?_
          have e133 : a.eval (.tmp 133) = .bool true := need 44 _ 133 rfl rfl (by kernel_rfl)
          refine Reg.wp_val (W' := W) (v := _) (by simp only [execOp, e133, Reg.eval_const]; rfl) ⟨_, rfl, Bel.refl W, rfl⟩
        | n + 46, hoi => simp at hoi
      · intro a w9 hW hsize hdef got same
        have ha := Reg.act_of [89, 90, 91, 92, 93, 94, 95, 96, 97, 98, 99, 100, 101, 102, 103, 104, 105, 106, 107, 108, 109, 110, 111, 112, 113, 114, 115, 116, 117, 118, 119, 120, 121, 122, 123, 124, 125, 126, 127, 128, 129, 130, 131, 132, 133, 4] hsize hdef same (by kernel_rfl)
        simp only [List.foldl_cons, List.foldl_nil] at ha
        generalize a.tmps.getD 89 undef = y89 at ha
        generalize a.tmps.getD 90 undef = y90 at ha
        generalize a.tmps.getD 91 undef = y91 at ha
        generalize a.tmps.getD 92 undef = y92 at ha
        generalize a.tmps.getD 93 undef = y93 at ha
        generalize a.tmps.getD 94 undef = y94 at ha
        generalize a.tmps.getD 95 undef = y95 at ha
        generalize a.tmps.getD 96 undef = y96 at ha
        generalize a.tmps.getD 97 undef = y97 at ha
        generalize a.tmps.getD 98 undef = y98 at ha
        generalize a.tmps.getD 99 undef = y99 at ha
        generalize a.tmps.getD 100 undef = y100 at ha
        generalize a.tmps.getD 101 undef = y101 at ha
        generalize a.tmps.getD 102 undef = y102 at ha
        generalize a.tmps.getD 103 undef = y103 at ha
        generalize a.tmps.getD 104 undef = y104 at ha
        generalize a.tmps.getD 105 undef = y105 at ha
        generalize a.tmps.getD 106 undef = y106 at ha
        generalize a.tmps.getD 107 undef = y107 at ha
        generalize a.tmps.getD 108 undef = y108 at ha
        generalize a.tmps.getD 109 undef = y109 at ha
        generalize a.tmps.getD 110 undef = y110 at ha
        generalize a.tmps.getD 111 undef = y111 at ha
        generalize a.tmps.getD 112 undef = y112 at ha
        generalize a.tmps.getD 113 undef = y113 at ha
        generalize a.tmps.getD 114 undef = y114 at ha
        generalize a.tmps.getD 115 undef = y115 at ha
        generalize a.tmps.getD 116 undef = y116 at ha
        generalize a.tmps.getD 117 undef = y117 at ha
        generalize a.tmps.getD 118 undef = y118 at ha
        generalize a.tmps.getD 119 undef = y119 at ha
        generalize a.tmps.getD 120 undef = y120 at ha
        generalize a.tmps.getD 121 undef = y121 at ha
        generalize a.tmps.getD 122 undef = y122 at ha
        generalize a.tmps.getD 123 undef = y123 at ha
        generalize a.tmps.getD 124 undef = y124 at ha
        generalize a.tmps.getD 125 undef = y125 at ha
        generalize a.tmps.getD 126 undef = y126 at ha
        generalize a.tmps.getD 127 undef = y127 at ha
        generalize a.tmps.getD 128 undef = y128 at ha
        generalize a.tmps.getD 129 undef = y129 at ha
        generalize a.tmps.getD 130 undef = y130 at ha
        generalize a.tmps.getD 131 undef = y131 at ha
        generalize a.tmps.getD 132 undef = y132 at ha
        generalize a.tmps.getD 133 undef = y133 at ha
        have k4 := got 45 _ 4 rfl rfl
        simp only at k4
        rw [k4] at ha
        clear k4
        clear got same hsize hdef
        subst ha
        simp only [List.setIfInBounds_toArray, List.set_cons_zero, List.set_cons_succ]

        go_wp2
        go_ret
        exact ⟨rfl, bthen ((Below.refl _ _).alloc (Nat.le_refl _) _) (bthen HB3.out (bthen HW8.out hW))⟩
end Go.Proofs.Ytlfcgicobhalmaa.K
