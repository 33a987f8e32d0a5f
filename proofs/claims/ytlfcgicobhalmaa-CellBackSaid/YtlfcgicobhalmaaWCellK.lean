/- The law CellBack, walked; a page's node comes back. -/
import Derived.Test.YtlfcgicobhalmaaBase2
import Derived.Test.YtlfcgicobhalmaaWSrc2
import Derived.Test.YtlfcgicobhalmaaWBack
import Derived.Test.YtlfcgicobhalmaaWZig
import Derived.Test.YtlfcgicobhalmaaWLaw02
import Derived.Test.YtlfcgicobhalmaaMNode
import Derived.Test.YtlfcgicobhalmaaOps
import Derived.Test.YtlfcgicobhalmaaRegGen
import Derived.Test.YtlfcgicobhalmaaWZeros
import Derived.Test.YtlfcgicobhalmaaWRow
import Derived.Test.YtlfcgicobhalmaaWCell
import Derived.Test.YtlfcgicobhalmaaWCellG
import Derived.Test.YtlfcgicobhalmaaWCellB
import Derived.Test.YtlfcgicobhalmaaWCellZ
import Derived.Test.YtlfcgicobhalmaaWCellP
import Derived.Test.YtlfcgicobhalmaaWCellH
import Derived.Test.YtlfcgicobhalmaaWCellF
import Derived.Test.YtlfcgicobhalmaaWCellN
import Derived.Test.YtlfcgicobhalmaaWCellA
namespace Go.Proofs.Ytlfcgicobhalmaa.K
open Go Go.RowKit Go.Proofs.YtlfcgicobhalmaaW.PrintWords Go.Proofs.YtlfcgicobhalmaaW.PrintLast Go.Proofs.YtlfcgicobhalmaaW.PrintMore
set_option linter.unusedVariables false
set_option linter.unusedSimpArgs false
open Go.Proofs.Ytlfcgicobhalmaa.MOct (W V tk sz vr num head getV le be many putL)
open Go.Proofs.Ytlfcgicobhalmaa.MOct (Cel isPageV localV spillsV insideV leafyV mayV goodFrom goodV u64 csize cbytes nsize nbody nbytes findV)

set_option maxHeartbeats 2000000 in
set_option maxRecDepth 100000 in
theorem same_eq (leaf : Bool) (right : Int) (l : List Cel) (A A' : Option Addr) (cap cap' : Nat) (w : World) (hC : KC9.C w A l.length l) (hC' : KC9.C w A' l.length l) (hc : l.length ≤ cap) (hc' : l.length ≤ cap') (hl : l.length ≤ 100000) :
    Calls Try.prog 53 #[.agg #[.bool leaf, .int .i64 right, .slice A l.length cap], .agg #[.bool leaf, .int .i64 right, .slice A' l.length cap']] w fun e w' => e = .returned (.bool true) ∧ Below w.heap.size w w' := by
  have HC := Lib.hid hC
  have HC' := Lib.hid hC'
  have b1 : (leaf != leaf) = false := by simp
  have b2 : (right != right) = false := by simp
  have b3 : ((l.length : Int) != l.length) = false := by simp
  clear hC hC'
  go_enter Try.func53, Try.ntmps53
  go_upto_region 4 with (fail)
  have hbb : Below w.heap.size w ((w.alloc (.cells #[.bool leaf, .int .i64 right, .slice A l.length cap] 60)).alloc (.cells #[.bool leaf, .int .i64 right, .slice A' l.length cap'] 60)) := ((Below.refl _ _).alloc (Nat.le_refl _) _).alloc (by simp) _
  have hh2 := heap_alloc_new (w.alloc (.cells #[.bool leaf, .int .i64 right, .slice A l.length cap] 60)) (.cells #[.bool leaf, .int .i64 right, .slice A' l.length cap'] 60)
  rw [show (w.alloc (.cells #[.bool leaf, .int .i64 right, .slice A l.length cap] 60)).heap.size = w.heap.size + 1 by simp] at hh2
  have HB0 := Lib.hid hbb
  have HH2 := Lib.hid hh2
  clear hbb hh2
  go_loopw [32] (fun i wr => ∃ k : Nat, i = .int .i64 k ∧ k ≤ l.length ∧ Hid (Below w.heap.size w wr ∧ wr.heap[w.heap.size + 1]? = some (.cells #[.bool leaf, .int .i64 right, .slice A' l.length cap'] 60 (0, 0)))) (fun i _ => l.length - (intOf i).toNat)
  case atStart => exact ⟨0, rfl, by omega, Lib.hid ⟨HB0.out, HH2.out⟩⟩
  case round =>
    obtain ⟨k, rfl, hk, HB⟩ := hrel
    by_cases hlt : k < l.length
    · obtain ⟨ad, rfl, key, child, len, loc, next, AB, cB, hget, x0, x1, x2, x3, x4, hcB, hCB⟩ := cel_at (Kd.C_below HC.out HB.out.1) k hlt
      obtain ⟨ad2, rfl, key2, child2, len2, loc2, next2, AB2, cB2, hget2, y0, y1, y2, y3, y4, hcB2, hCB2⟩ := cel_at (Kd.C_below HC'.out HB.out.1) k hlt
      rw [hget] at hget2
      simp only [Option.some.injEq, Prod.mk.injEq] at hget2
      obtain ⟨rfl, rfl, rfl, rfl, rfl⟩ := hget2
      have HCB := Lib.hid hCB
      have HCB2 := Lib.hid hCB2
      have b4 : (key != key) = false := by simp
      have b5 : (child != child) = false := by simp
      have b6 : (len != len) = false := by simp
      have b7 : (next != next) = false := by simp
      have n2 : wr.cell? ⟨w.heap.size + 1, 2, none⟩ = some (.slice (some ad2) l.length cap') := cell_of_row wr _ 2 _ 60 (0, 0) HB.out.2
      clear hget hCB hCB2
      go_upto_region 6 with (fail)
      generalize hW5 : wr.alloc (Obj.cells #[Value.int IntKind.i64 key, Value.int IntKind.i64 child, Value.int IntKind.i64 len, Value.slice AB loc.length cB, Value.int IntKind.i64 next] 92) = W5
      have hb5 : Below wr.heap.size wr W5 := by subst hW5; exact (Below.refl _ _).alloc (Nat.le_refl _) _
      have hbx : W5.heap[wr.heap.size]? = some (.cells #[Value.int IntKind.i64 key, Value.int IntKind.i64 child, Value.int IntKind.i64 len, Value.slice AB loc.length cB, Value.int IntKind.i64 next] 92 (0, 0)) := by subst hW5; exact heap_alloc_new wr _
      obtain ⟨g5, hg5⟩ : ∃ g5, wr.heap.size = g5 := ⟨_, rfl⟩
      rw [hg5] at hbx ⊢
      have q0 := pw_cell_below hb5 y0
      have q1 := pw_cell_below hb5 y1
      have q2 := pw_cell_below hb5 y2
      have q3 := pw_cell_below hb5 y3
      have q4 := pw_cell_below hb5 y4
      have m2 := pw_cell_below hb5 n2
      have HB5 := Lib.hid (bthen HB.out.1 hb5)
      have HX5 := Lib.hid hbx
      have HN5 : Hid (W5.heap[w.heap.size + 1]? = _) := Lib.hid ((hb5.block _ (blk_lt HB.out.2)).trans HB.out.2)
      have HCB5 := Lib.hid (HCB.out.below hb5)
      have HCB6 := Lib.hid (HCB2.out.below hb5)
      clear hW5 hb5 hg5 hbx x0 x1 x2 x3 x4 y0 y1 y2 y3 y4 n2
      go_upto_region 7 with (fail)
      generalize hW6 : W5.alloc (Obj.cells #[Value.int IntKind.i64 key, Value.int IntKind.i64 child, Value.int IntKind.i64 len, Value.slice AB2 loc.length cB2, Value.int IntKind.i64 next] 92) = W6
      have hb6 : Below W5.heap.size W5 W6 := by subst hW6; exact (Below.refl _ _).alloc (Nat.le_refl _) _
      have hbx6 : W6.heap[W5.heap.size]? = some (.cells #[Value.int IntKind.i64 key, Value.int IntKind.i64 child, Value.int IntKind.i64 len, Value.slice AB2 loc.length cB2, Value.int IntKind.i64 next] 92 (0, 0)) := by subst hW6; exact heap_alloc_new W5 _
      obtain ⟨g6, hg6⟩ : ∃ g6, W5.heap.size = g6 := ⟨_, rfl⟩
      have hx5 : W6.heap[g5]? = _ := (hb6.block _ (blk_lt HX5.out)).trans HX5.out
      rw [hg6] at hbx6 ⊢
      have z0 : W6.cell? ⟨g5, 0, none⟩ = some (.int .i64 key) := cell_of_row W6 g5 0 _ 92 (0, 0) hx5
      have z1 : W6.cell? ⟨g5, 1, none⟩ = some (.int .i64 child) := cell_of_row W6 g5 1 _ 92 (0, 0) hx5
      have z2 : W6.cell? ⟨g5, 2, none⟩ = some (.int .i64 len) := cell_of_row W6 g5 2 _ 92 (0, 0) hx5
      have z3 : W6.cell? ⟨g5, 3, none⟩ = some (.slice AB loc.length cB) := cell_of_row W6 g5 3 _ 92 (0, 0) hx5
      have z4 : W6.cell? ⟨g5, 4, none⟩ = some (.int .i64 next) := cell_of_row W6 g5 4 _ 92 (0, 0) hx5
      have v0 : W6.cell? ⟨g6, 0, none⟩ = some (.int .i64 key) := cell_of_row W6 g6 0 _ 92 (0, 0) hbx6
      have v1 : W6.cell? ⟨g6, 1, none⟩ = some (.int .i64 child) := cell_of_row W6 g6 1 _ 92 (0, 0) hbx6
      have v2 : W6.cell? ⟨g6, 2, none⟩ = some (.int .i64 len) := cell_of_row W6 g6 2 _ 92 (0, 0) hbx6
      have v3 : W6.cell? ⟨g6, 3, none⟩ = some (.slice AB2 loc.length cB2) := cell_of_row W6 g6 3 _ 92 (0, 0) hbx6
      have v4 : W6.cell? ⟨g6, 4, none⟩ = some (.int .i64 next) := cell_of_row W6 g6 4 _ 92 (0, 0) hbx6
      have hs1 := (HCB5.out.below hb6).str (c := cB)
      have hs2 := (HCB6.out.below hb6).str (c := cB2)
      have HB6 := Lib.hid (bthen HB5.out hb6)
      have HN6 : Hid (W6.heap[w.heap.size + 1]? = _) := Lib.hid ((hb6.block _ (blk_lt HN5.out)).trans HN5.out)
      clear hW6 hb6 hg6 hbx6 hx5 q0 q1 q2 q3 q4 m2
      go_wp2
      go_roundw
      case rel => exact ⟨k + 1, by go_num, by omega, Lib.hid ⟨HB6.out, HN6.out⟩⟩
      case measure => (simp [intOf] <;> omega)
    · go_wp2
      go_ret
      exact ⟨rfl, HB.out.1⟩

theorem getV_putS (n : Int) (s : Nat) (rest : List Int) (h0 : 0 ≤ n) (h1 : 1 ≤ s) (h8 : s ≤ 8) : getV (putL n s false ++ rest) s false = (n % 256 ^ s, true) := by
  have hm : many (s : Int) = s := by unfold many; split <;> omega
  have hl : (putL n s false).length = s := by rw [MOct.putL_length, hm]
  have hp : putL n s false = be n s := by unfold putL; rw [hm]; rfl
  unfold MOct.getV
  rw [if_neg (by rw [List.length_append, hl]; omega)]
  have e : head (putL n s false ++ rest) (s : Int).toNat false = be n s := by
    unfold head
    rw [if_neg (by simp), Int.toNat_natCast, List.take_append_of_le_length (by omega), List.take_of_length_le (by omega), hp]
  rw [e, MOct.num_be n s h0]
theorem numS_putS (n : Int) (s : Nat) (rest : List Int) (h0 : 0 ≤ n) (h1 : 1 ≤ s) (h8 : s ≤ 8) (hn : n < 256 ^ s) : numS true (putL n s false ++ rest) 0 s false = (n, rest, 0) := by
  have hm : many (s : Int) = s := by unfold many; split <;> omega
  have hl : (putL n s false).length = s := by rw [MOct.putL_length, hm]
  unfold numS
  rw [if_neg (by simp), if_neg (by omega), getV_putS n s rest h0 h1 h8]
  simp only [if_true]
  rw [Int.emod_eq_of_lt h0 hn, Int.toNat_natCast]
  have : (putL n s false ++ rest).drop s = rest := by
    have := List.drop_left (l₁ := putL n s false) (l₂ := rest)
    rw [hl] at this
    exact this
  rw [this]
theorem u64_small {n : Int} (h0 : 0 ≤ n) (h1 : n < 18446744073709551616) : u64 n = n := by unfold MOct.u64; omega
theorem isPage_iff {n : Int} : isPageV n = true ↔ 1 ≤ n ∧ n ≤ 4000 := by unfold MOct.isPageV; simp
theorem nextV_cbytes (leaf : Bool) (c : Cel) (rest : List Int) (h : mayV leaf c = true) (hk : -9223372036854775808 ≤ c.1 ∧ c.1 < 9223372036854775808) : nextV leaf (cbytes leaf c ++ rest) 0 = (c, rest, 0) := by
  obtain ⟨key, child, len, loc, next⟩ := c
  have hz := MOct.zig_range key hk.1 hk.2
  unfold MOct.mayV at h
  unfold nextV MOct.cbytes
  cases leaf with
  | false =>
    simp only [Bool.false_eq_true, if_false] at h ⊢
    unfold MOct.insideV at h
    simp only [Bool.and_eq_true, decide_eq_true_eq, beq_iff_eq] at h
    obtain ⟨⟨⟨h1, rfl⟩, rfl⟩, h4⟩ := h
    have h1' := isPage_iff.1 h1
    have hloc : loc = [] := List.eq_nil_of_length_eq_zero (by omega)
    subst hloc
    rw [List.append_assoc, u64_small (by omega) (by omega)]
    have e1 := numS_putS child 4 (vr (MOct.zig key) ++ rest) (by omega) (by omega) (by omega) (by omega)
    rw [show ((4 : Nat) : Int) = 4 from rfl] at e1
    rw [e1]
    simp only
    rw [varS_vr _ _ _ hz.1 hz.2 (by omega)]
    simp only
    rw [MOct.zag_zig]
  | true =>
    simp only [if_true] at h ⊢
    unfold MOct.leafyV at h
    simp only [Bool.and_eq_true, decide_eq_true_eq] at h
    obtain ⟨⟨⟨⟨rfl, h2⟩, h3⟩, h4⟩, h5⟩ := h
    rw [u64_small h2 (by omega)]
    rw [List.append_assoc, List.append_assoc, List.append_assoc]
    rw [varS_vr _ _ _ hz.1 hz.2 (by omega)]
    simp only
    rw [varS_vr _ _ _ h2 (by omega) h3]
    simp only
    rw [← h4, bytesS_app]
    simp only
    rw [MOct.zag_zig]
    have hs : spillsV (key, 0, len, loc, 0) = spillsV (key, 0, len, loc, next) := rfl
    rw [hs]
    cases hsv : spillsV (key, 0, len, loc, next) with
    | true =>
      rw [hsv] at h5
      simp only [if_true] at h5 ⊢
      have h5' := isPage_iff.1 h5
      rw [u64_small (by omega) (by omega)]
      have e1 := numS_putS next 4 rest (by omega) (by omega) (by omega) (by omega)
      rw [show ((4 : Nat) : Int) = 4 from rfl] at e1
      rw [e1]
    | false =>
      rw [hsv] at h5
      simp only [Bool.false_eq_true, if_false, decide_eq_true_eq] at h5 ⊢
      subst h5
      rfl
theorem cellsV_flat (leaf : Bool) (rest : List Int) : ∀ (l : List Cel) (p : Option Int), MOct.goodFrom leaf p l = true → (∀ c ∈ l, -9223372036854775808 ≤ c.1 ∧ c.1 < 9223372036854775808) → cellsV leaf l.length (l.flatMap (cbytes leaf) ++ rest) 0 = (l, rest, 0) := by
  intro l
  induction l with
  | nil => intro p _ _; rfl
  | cons c t ih =>
    intro p h hk
    simp only [MOct.goodFrom, Bool.and_eq_true] at h
    rw [List.flatMap_cons, List.append_assoc, List.length_cons, cellsV, if_pos rfl, nextV_cbytes leaf c _ h.1.1 (hk c (by simp))]
    simp only
    rw [ih (some c.1) h.2 (fun x hx => hk x (by simp [hx]))]
theorem good_right {leaf : Bool} {right : Int} {l : List Cel} (h : goodV leaf right l = true) : 0 ≤ right ∧ right ≤ 4000 := by
  unfold MOct.goodV at h
  simp only [Bool.and_eq_true, beq_iff_eq, Bool.or_eq_true] at h
  obtain ⟨⟨h1, h2⟩, _⟩ := h
  rcases h2 with rfl | h2
  · have : right = 0 := by simpa using h1.symm
    omega
  · have := isPage_iff.1 h2; omega
theorem parse_back (leaf : Bool) (right : Int) (l : List Cel) (h : goodV leaf right l = true ∧ nsize leaf l ≤ 512) (hk : ∀ c ∈ l, -9223372036854775808 ≤ c.1 ∧ c.1 < 9223372036854775808) (hl : l.length ≤ 512) : parseV (nbytes leaf right l) = some (leaf, right, l) := by
  have hlen := MOct.nbytes_length leaf right l h
  have hr := good_right h.1
  have hgf : MOct.goodFrom leaf none l = true := by
    have := h.1
    unfold MOct.goodV at this
    simp only [Bool.and_eq_true] at this
    exact this.2
  unfold parseV
  rw [if_pos hlen]
  obtain ⟨Z, hZ⟩ : ∃ Z, List.replicate (512 - (nbody leaf right l).length) (0 : Int) = Z := ⟨_, rfl⟩
  have hb : nbytes leaf right l = (if leaf then 1 else 2) :: (putL l.length 2 false ++ (putL right 4 false ++ (l.flatMap (cbytes leaf) ++ Z))) := by
    unfold MOct.nbytes
    rw [if_pos h, hZ]
    unfold MOct.nbody
    rw [u64_small hr.1 (by omega)]
    simp [List.append_assoc]
  have e0 : numS true (nbytes leaf right l) 0 1 false = ((if leaf then 1 else 2), putL l.length 2 false ++ (putL right 4 false ++ (l.flatMap (cbytes leaf) ++ Z)), 0) := by
    have := numS_putS (if leaf then 1 else 2) 1 (putL l.length 2 false ++ (putL right 4 false ++ (l.flatMap (cbytes leaf) ++ Z))) (by split <;> omega) (by omega) (by omega) (by split <;> simp)
    rw [show ((1 : Nat) : Int) = 1 from rfl] at this
    have hp : putL (if leaf then 1 else 2) 1 false = [if leaf then (1 : Int) else 2] := by cases leaf <;> decide
    rw [hp] at this
    rw [hb]
    exact this
  have e1 := numS_putS l.length 2 (putL right 4 false ++ (l.flatMap (cbytes leaf) ++ Z)) (by omega) (by omega) (by omega) (by omega)
  rw [show ((2 : Nat) : Int) = 2 from rfl] at e1
  have e2 := numS_putS right 4 (l.flatMap (cbytes leaf) ++ Z) (by omega) (by omega) (by omega) (by omega)
  rw [show ((4 : Nat) : Int) = 4 from rfl] at e2
  have hhd : headV (nbytes leaf right l) = (leaf, l.length, right, l.flatMap (cbytes leaf) ++ Z, 0) := by
    unfold headV
    simp only [e0, e1, e2, Int.toNat_natCast]
    cases leaf <;> rfl
  rw [hhd]
  simp only
  rw [cellsV_flat leaf Z l none hgf hk]
  simp

set_option maxHeartbeats 1000000 in
theorem nbytes_bad (leaf : Bool) (right : Int) (l : List Cel) (A : Option Addr) (cap : Nat) (w : World) (hC : KC9.C w A l.length l) (hc : l.length ≤ cap) (hl : l.length ≤ 100000) (hg : goodV leaf right l = false) :
    Calls Try.prog 51 #[.agg #[.bool leaf, .int .i64 right, .slice A l.length cap]] w fun e w' => e = .returned (.slice none 0 0) ∧ Below w.heap.size w w' := by
  have HG := Lib.hid (fun W (h : Below w.heap.size w W) => good_calls leaf right l A cap W (Kd.C_below hC h) hc (by omega))
  have HX0 : Hid (Bx w #[.bool leaf, .int .i64 right, .slice A l.length cap] 55 (w.alloc (.cells #[.bool leaf, .int .i64 right, .slice A l.length cap] 55))) := Lib.hid (Bx.new _ _ _)
  rw [hg] at HG
  clear hg hC
  go_enter Try.func51, Try.ntmps51
  go_wp2_with (go_at_call 47; refine (HG.out _ HX0.out.1).mono ?_; rintro e w1 ⟨rfl, hb1⟩; have HX1 := Lib.hid (HX0.out.below hb1); clear hb1)
  go_ret
  exact ⟨rfl, HX1.out.1⟩
theorem parseV_ok {b : List Int} (hb : bytesOk b) {lf : Bool} {rt : Int} {xs : List Cel} (h : parseV b = some (lf, rt, xs)) : NodeOk xs ∧ nbytes lf rt xs = b ∧ b.length = 512 := by
  unfold parseV at h
  by_cases h5 : b.length = 512
  · rw [if_pos h5] at h
    simp only at h
    split at h
    · rename_i h6
      simp only [Option.some.injEq, Prod.mk.injEq] at h
      obtain ⟨rfl, rfl, rfl⟩ := h
      have hb1 : bytesOk (headV b).2.2.2.1 := numS_ok (numS_ok (numS_ok hb))
      have hl1 : (headV b).2.2.2.1.length ≤ b.length := Nat.le_trans numS_le (Nat.le_trans numS_le numS_le)
      have hk := num2 (l := (numS true b 0 1 false).2.1) (e := (numS true b 0 1 false).2.2) (numS_ok hb)
      have hkk : (headV b).2.1 ≤ 65536 := by show (numS true _ _ 2 false).1.toNat ≤ 65536; omega
      have hok := cellsV_ok (headV b).1 (headV b).2.1 (l := (headV b).2.2.2.1) (e := (headV b).2.2.2.2) hb1
      exact ⟨⟨by have := hok.1; omega, fun c hc => ⟨(hok.2 c hc).1, by have := (hok.2 c hc).2; omega⟩⟩, h6.2, h5⟩
    · cases h
  · rw [if_neg h5] at h; cases h
theorem nbytes_ok {leaf : Bool} {right : Int} {l : List Cel} (h : ∀ c ∈ l, bytesOk c.2.2.2.1) : bytesOk (nbytes leaf right l) := by
  unfold MOct.nbytes
  split
  · refine bytesOk_append ?_ (fun x hx => by rw [List.eq_of_mem_replicate hx]; omega)
    unfold MOct.nbody
    refine bytesOk_append (bytesOk_append (bytesOk_append (fun x hx => ?_) (MOct.putL_range _ _ _)) (MOct.putL_range _ _ _)) (fun x hx => ?_)
    · rw [List.mem_singleton] at hx; subst hx; split <;> omega
    · obtain ⟨c, hc, hx⟩ := List.mem_flatMap.1 hx
      unfold MOct.cbytes at hx
      split at hx
      · refine bytesOk_append (bytesOk_append (bytesOk_append (MOct.vr_range _) (MOct.vr_range _)) (h c hc)) ?_ x hx
        split
        · exact MOct.putL_range _ _ _
        · exact bytesOk_nil
      · exact bytesOk_append (MOct.putL_range _ _ _) (MOct.vr_range _) x hx
  · exact bytesOk_nil
theorem good_small {leaf : Bool} {right : Int} {l : List Cel} (h : goodV leaf right l = true) : ∀ c ∈ l, c.2.2.2.1.length ≤ 96 := by
  unfold MOct.goodV at h
  simp only [Bool.and_eq_true] at h
  have key : ∀ (l : List Cel) (p : Option Int), MOct.goodFrom leaf p l = true → ∀ c ∈ l, mayV leaf c = true := by
    intro l
    induction l with
    | nil => intro p _ c hc; simp at hc
    | cons x t ih =>
      intro p h c hc
      simp only [MOct.goodFrom, Bool.and_eq_true] at h
      rcases List.mem_cons.1 hc with rfl | hc
      · exact h.1.1
      · exact ih _ h.2 c hc
  intro c hc
  have hm := key l none h.2 c hc
  unfold MOct.mayV at hm
  cases leaf with
  | false =>
    simp only [Bool.false_eq_true, if_false] at hm
    unfold MOct.insideV at hm
    simp only [Bool.and_eq_true, beq_iff_eq] at hm
    omega
  | true =>
    simp only [if_true] at hm
    unfold MOct.leafyV MOct.localV at hm
    simp only [Bool.and_eq_true, decide_eq_true_eq] at hm
    have := hm.1.2
    split at this
    · omega
    · split at this <;> omega
set_option maxHeartbeats 4000000 in
set_option maxRecDepth 100000 in
theorem CellBack_calls {w : World} (cs : Array Value) (x : Bool × Int × List Cel) (hK : KN9.K w x cs.toList)
    (hq : True ∧ (Lit.int .i64 x.2.1).wf = true ∧ (∀ c ∈ x.2.2, ((Lit.int .i64 c.1).wf = true ∧ (Lit.int .i64 c.2.1).wf = true ∧ (Lit.int .i64 c.2.2.1).wf = true ∧ ((∀ y ∈ c.2.2.2.1, (Lit.int .u8 y).wf = true) ∧ c.2.2.2.1.length ≤ 9223372036854775807) ∧ (Lit.int .i64 c.2.2.2.2).wf = true)) ∧ x.2.2.length ≤ 9223372036854775807)
    (Ab : Option Addr) (cb : Nat) (lb : List Int) (hCb : CB w Ab lb) (hcb : lb.length ≤ cb) (hqb : (∀ y ∈ lb, (Lit.int .u8 y).wf = true) ∧ lb.length ≤ 9223372036854775807) :
    Calls Try.prog 10 #[.agg cs, .slice Ab lb.length cb] w fun e w' => e = .returned (.bool true) ∧ Below w.heap.size w w' := by
  obtain ⟨leaf, right, l⟩ := x
  obtain ⟨_, _, e0, rfl, _, _, rfl, rfl, A, cap, rfl, hc, hC⟩ := hK
  obtain rfl : cs = #[.bool leaf, .int .i64 right, .slice A l.length cap] := by
    cases cs; simpa using e0
  simp only at hc hC hq
  have hkeys : ∀ c ∈ l, -9223372036854775808 ≤ c.1 ∧ c.1 < 9223372036854775808 := fun c hc => i64_wf (hq.2.2.1 c hc).1
  have hbo := bytesOk_wf hqb.1
  have hloc : ∀ c ∈ l, bytesOk c.2.2.2.1 := fun c hc => bytesOk_wf (hq.2.2.1 c hc).2.2.2.1.1
  have HLOC := Lib.hid hloc
  clear hloc
  have HKY := Lib.hid hkeys
  have HS33 := Lib.hid (fun W (h : Below w.heap.size w W) => light_any leaf right l A cap W (Kd.C_below hC h) hc)
  have HC := Lib.hid hC
  have HCb := Lib.hid hCb
  have HBO := Lib.hid hbo
  have HX : Hid (Bx w #[.bool leaf, .int .i64 right, .slice A l.length cap] 55 (w.alloc (.cells #[.bool leaf, .int .i64 right, .slice A l.length cap] 55))) := Lib.hid (Bx.new _ _ _)
  clear hq e0 hqb hkeys hbo hC hCb
  by_cases hbl : 1000 < lb.length
  · go_enter Try.func10, Try.ntmps10
    go_wp2_with (go_at_call 33; refine (HS33.out _ HX.out.1).mono ?_; rintro e w1 ⟨b, rfl, hl3, hb⟩; have hx := HX.out.below hb; have a0 := hx.cell (i := 0) rfl; have a1 := hx.cell (i := 1) rfl; have a2 := hx.cell (i := 2) rfl; have HX := Lib.hid hx; clear hx hb; cases b)
    · refine (lives09 _).mono ?_; rintro e w1 ⟨rfl, hb⟩; have hx := HX.out.below hb; have a0 := hx.cell (i := 0) rfl; have a1 := hx.cell (i := 1) rfl; have a2 := hx.cell (i := 2) rfl; have HX := Lib.hid hx; clear hx hb
      go_wp2
      go_ret
      exact ⟨rfl, HX.out.1⟩
    · refine (lives09 _).mono ?_; rintro e w1 ⟨rfl, hb⟩; have hx := HX.out.below hb; have a0 := hx.cell (i := 0) rfl; have a1 := hx.cell (i := 1) rfl; have a2 := hx.cell (i := 2) rfl; have HX := Lib.hid hx; clear hx hb
      go_wp2
      go_ret
      exact ⟨rfl, HX.out.1⟩
  · have hbl2 : lb.length ≤ 1000 := by omega
    clear hbl
    go_enter Try.func10, Try.ntmps10
    go_upto_region 3 with (go_at_call 33; refine (HS33.out _ HX.out.1).mono ?_; rintro e w1 ⟨b, rfl, hl3, hb⟩; have hx := HX.out.below hb; have a0 := hx.cell (i := 0) rfl; have a1 := hx.cell (i := 1) rfl; have a2 := hx.cell (i := 2) rfl; have HX := Lib.hid hx; clear hx hb; cases b)
    · refine (lives09 _).mono ?_; rintro e w1 ⟨rfl, hb⟩; have hx := HX.out.below hb; have a0 := hx.cell (i := 0) rfl; have a1 := hx.cell (i := 1) rfl; have a2 := hx.cell (i := 2) rfl; have HX := Lib.hid hx; clear hx hb
      go_wp2
      go_ret
      exact ⟨rfl, HX.out.1⟩
    · have hl3 := hl3 (by trivial)
      have hpb := fun W (h : Below w.heap.size w W) => parse_calls Ab cb lb W (HCb.out.below h) hcb HBO.out
      obtain ⟨pv, hpv⟩ : ∃ pv, parseV lb = pv := ⟨_, rfl⟩
      rw [hpv] at hpb
      cases pv with
      | none =>
        rw [show errV none = 9 from rfl] at hpb
        have HPB := Lib.hid hpb
        clear hpb hpv
        go_upto_region 4 with (go_at_call 45; refine (HPB.out _ HX.out.1).mono ?_; rintro e w3 ⟨Ax, cx, rfl, hcx, hCx, hb⟩; clear hcx hCx; have hx := HX.out.below hb; have a0 := hx.cell (i := 0) rfl; have a1 := hx.cell (i := 1) rfl; have a2 := hx.cell (i := 2) rfl; have HX := Lib.hid hx; clear hx hb)
        have hxw := HX.out.below ((Below.refl w3.heap.size w3).alloc (Nat.le_refl _) (Obj.cells #[Value.bool false, Value.int .i64 0, Value.slice Ax 0 cx] 55))
        generalize hW4 : w3.alloc (Obj.cells #[Value.bool false, Value.int .i64 0, Value.slice Ax 0 cx] 55) = w4 at hxw ⊢
        have HX4 := Lib.hid hxw
        clear hW4 hxw a0 a1 a2
        go_quiet (fail)
        have hxd := HX4.out.below (pw_below_drewN (Below.refl w4.heap.size w4) nq)
        generalize hW5 : w4.drewN nq = w5 at hxd ⊢
        have a0 := hxd.cell (i := 0) rfl
        have a1 := hxd.cell (i := 1) rfl
        have a2 := hxd.cell (i := 2) rfl
        have HX := Lib.hid hxd
        clear hW5 hxd
        obtain ⟨gv, hgv⟩ : ∃ gv, goodV leaf right l = gv := ⟨_, rfl⟩
        have HS47 := Lib.hid (fun W (h : Below w.heap.size w W) => good_calls leaf right l A cap W (Kd.C_below HC.out h) hc (by omega))
        rw [hgv] at HS47
        cases gv with
        | false =>
          have HS51 := Lib.hid (fun W (h : Below w.heap.size w W) => nbytes_bad leaf right l A cap W (Kd.C_below HC.out h) hc (by omega) hgv)
          clear hgv
          go_wp2_with (first
            | (go_at_call 24; refine (lives09 _).mono ?_; rintro e w1 ⟨rfl, hb⟩; have hx := HX.out.below hb; have a0 := hx.cell (i := 0) rfl; have a1 := hx.cell (i := 1) rfl; have a2 := hx.cell (i := 2) rfl; have HX := Lib.hid hx; clear hx hb)
            | (go_at_call 47; refine (HS47.out _ HX.out.1).mono ?_; rintro e w1 ⟨rfl, hb⟩; have hx := HX.out.below hb; have a0 := hx.cell (i := 0) rfl; have a1 := hx.cell (i := 1) rfl; have a2 := hx.cell (i := 2) rfl; have HX := Lib.hid hx; clear hx hb)
            | (go_at_call 51; refine (HS51.out _ HX.out.1).mono ?_; rintro e w1 ⟨rfl, hb⟩; have hx := HX.out.below hb; have a0 := hx.cell (i := 0) rfl; have a1 := hx.cell (i := 1) rfl; have a2 := hx.cell (i := 2) rfl; have HX := Lib.hid hx; clear hx hb))
          go_ret
          exact ⟨rfl, HX.out.1⟩
        | true =>
          have hnk : NodeOk l := ⟨by omega, fun c hc => ⟨HKY.out c hc, by have := good_small hgv c hc; omega⟩⟩
          have HS51 := Lib.hid (fun W (h : Below w.heap.size w W) => nbytes_calls leaf right l A cap W (Kd.C_below HC.out h) hc hnk)
          have HS50 := Lib.hid (fun W (h : Below w.heap.size w W) => fits_calls leaf right l A cap W (Kd.C_below HC.out h) hc hnk)
          by_cases hfit : nsize leaf l ≤ 512
          · have hd : decide (nsize leaf l ≤ 512) = true := by simpa using hfit
            rw [hd] at HS50
            have hpg := parse_back leaf right l ⟨hgv, hfit⟩ HKY.out (by omega)
            have hpl := MOct.nbytes_length leaf right l ⟨hgv, hfit⟩
            obtain ⟨PG, hPG⟩ : ∃ PG, nbytes leaf right l = PG := ⟨_, rfl⟩
            rw [hPG] at hpg hpl HS51
            have HPG := Lib.hid hpg
            have HPL := Lib.hid hpl
            have hpo : bytesOk PG := by rw [← hPG]; exact nbytes_ok HLOC.out
            have HPP : Hid (∀ A7 c7 W, CB W A7 PG → 512 ≤ c7 → Calls Try.prog 45 #[.slice A7 512 c7] W fun e w' => ∃ A' c', e = .returned (.tuple #[.agg #[.bool leaf, .int .i64 right, .slice A' l.length c'], .int .i64 0]) ∧ l.length ≤ c' ∧ KC9.C w' A' l.length l ∧ Below W.heap.size W w') := Lib.hid (fun A7 c7 W hC7 h7 => by
              have := parse_calls A7 c7 PG W hC7 (by omega) hpo
              rw [hpg, hpl] at this
              exact this)
            have HPLN := Lib.hid (fun W (h : Below w.heap.size w W) => plain_calls leaf right l A cap W (Kd.C_below HC.out h) hc (by omega))
            clear hgv hnk hfit hd hpg hpo
            go_upto_region 10 with (first
              | (go_at_call 45; refine (HPP.out A7 c7 _ HC7.out h7).mono ?_; rintro e w8 ⟨A8, c8, rfl, hc8, hC8, hb⟩; have HC8 := Lib.hid hC8; clear hC8; have hx := HX.out.below hb; have a0 := hx.cell (i := 0) rfl; have a1 := hx.cell (i := 1) rfl; have a2 := hx.cell (i := 2) rfl; have HX := Lib.hid hx; clear hx hb)
              | (go_at_call 50; refine (HS50.out _ HX.out.1).mono ?_; rintro e w1 ⟨rfl, hb⟩; have HC7 := Lib.hid (HC7.out.below hb); have hx := HX.out.below hb; have a0 := hx.cell (i := 0) rfl; have a1 := hx.cell (i := 1) rfl; have a2 := hx.cell (i := 2) rfl; have HX := Lib.hid hx; clear hx hb)
              | (go_at_call 47; refine (HS47.out _ HX.out.1).mono ?_; rintro e w1 ⟨rfl, hb⟩; have HC7 := Lib.hid (HC7.out.below hb); have hx := HX.out.below hb; have a0 := hx.cell (i := 0) rfl; have a1 := hx.cell (i := 1) rfl; have a2 := hx.cell (i := 2) rfl; have HX := Lib.hid hx; clear hx hb)
              | (go_at_call 51; refine (HS51.out _ HX.out.1).mono ?_; rintro e w1 ⟨v1, rfl, hr1, hn1, hb⟩; obtain ⟨A7, c7, rfl, h7, hC7⟩ := page_form hr1 HPL.out; have HC7 := Lib.hid hC7; clear hr1 hn1 hC7; have hx := HX.out.below hb; have a0 := hx.cell (i := 0) rfl; have a1 := hx.cell (i := 1) rfl; have a2 := hx.cell (i := 2) rfl; have HX := Lib.hid hx; clear hx hb))
            have hxw := HX.out.below ((Below.refl w8.heap.size w8).alloc (Nat.le_refl _) (Obj.cells #[Value.bool leaf, Value.int .i64 right, Value.slice A8 l.length c8] 55))
            have hby := heap_alloc_new w8 (Obj.cells #[Value.bool leaf, Value.int .i64 right, Value.slice A8 l.length c8] 55)
            have hcy := Kd.C_below HC8.out ((Below.refl w8.heap.size w8).alloc (Nat.le_refl _) (Obj.cells #[Value.bool leaf, Value.int .i64 right, Value.slice A8 l.length c8] 55))
            obtain ⟨gy, hgy⟩ : ∃ gy, w8.heap.size = gy := ⟨_, rfl⟩
            rw [hgy] at hby ⊢
            clear a0 a1 a2
            generalize hW9 : w8.alloc (Obj.cells #[Value.bool leaf, Value.int .i64 right, Value.slice A8 l.length c8] 55) = w9 at hxw hby hcy ⊢
            have y0 : w9.cell? ⟨gy, 0, none⟩ = some (.bool leaf) := cell_of_row w9 gy 0 _ 55 (0, 0) hby
            have y1 : w9.cell? ⟨gy, 1, none⟩ = some (.int .i64 right) := cell_of_row w9 gy 1 _ 55 (0, 0) hby
            have y2 : w9.cell? ⟨gy, 2, none⟩ = some (.slice A8 l.length c8) := cell_of_row w9 gy 2 _ 55 (0, 0) hby
            have a0 := hxw.cell (i := 0) rfl
            have a1 := hxw.cell (i := 1) rfl
            have a2 := hxw.cell (i := 2) rfl
            have HX9 := Lib.hid hxw
            have HPLX := Lib.hid (fun W (h : Below w9.heap.size w9 W) => plain_calls leaf right l A8 c8 W (Kd.C_below hcy h) hc8 (by omega))
            have HPLN9 := Lib.hid (fun W (h : Below w9.heap.size w9 W) => HPLN.out W (bthen HX9.out.1 h))
            have HPLN := HPLN9
            clear hW9 hxw hgy hby hcy
            refine Reg.region_mono (P := Try.prog) (Ext := Bel) (R := fun i v W => match i with
                | 0 => v = .int .i64 0
                | 1 => v = .bool true
                | 2 => v = .bool true
                | 3 => v = .agg #[.bool leaf, .int .i64 right, .slice A8 l.length c8]
                | 4 => ∃ A' c', v = .agg #[.bool leaf, .int .i64 right, .slice A' l.length c'] ∧ l.length ≤ c' ∧ KC9.C W A' l.length l
                | 5 => v = .agg #[.bool leaf, .int .i64 right, .slice A l.length cap]
                | 6 => ∃ A' c', v = .agg #[.bool leaf, .int .i64 right, .slice A' l.length c'] ∧ l.length ≤ c' ∧ KC9.C W A' l.length l
                | 7 => v = .bool true
                | 8 => v = .bool true
                | 9 => v = .bool true
                | 10 => v = .slice A7 512 c7
                | 11 => v = .int .i64 512
                | 12 => v = .bool true
                | 13 => v = .bool true
                | 14 => v = .bool true
                | 15 => v = .bool true
                | 16 => v = .bool true
                | 17 => v = .bool true
                | _ => True) (fun W => Below w9.heap.size w9 W) rfl (by kernel_rfl) (by kernel_rfl) (Bel.drew w9) (fun W W' h h' => bthen h h') Bel.refl (by intro j v W W' hx h; split at h <;> first | exact h | (obtain ⟨A', c', e, h1, h2⟩ := h; exact ⟨A', c', e, h1, Kd.C_below h2 hx⟩)) ?_ ?_
            · intro i oi hoi a W hW need old
              match i, hoi with
              | 0, hoi =>
                simp only [List.getElem?_toArray, List.getElem?_cons_succ, List.getElem?_cons_zero, Option.some.injEq] at hoi
                subst hoi
                refine Reg.ob_plain rfl ?_
                have e9 : a.eval (.tmp 9) = .int .i64 0 := old 9 (by kernel_rfl)
                refine Reg.wp_val (W' := W) (v := _) (by simp only [execOp, e9, Reg.eval_const]; rfl) ⟨_, rfl, Bel.refl W, rfl⟩
              | 1, hoi =>
                simp only [List.getElem?_toArray, List.getElem?_cons_succ, List.getElem?_cons_zero, Option.some.injEq] at hoi
                subst hoi
                refine Reg.ob_plain rfl ?_
                have e55 : a.eval (.tmp 55) = .int .i64 0 := need 0 _ 55 rfl rfl (by kernel_rfl)
                refine Reg.wp_val (W' := W) (v := .bool true) (by simp only [execOp, e55, Reg.eval_const, resolve, invoke, builtin, List.map_toArray, List.map_cons, List.map_nil, Option.map_some, Option.map_none]; (first | rfl | go_simp | (go_simp; rfl))) ⟨_, rfl, Bel.refl W, rfl⟩
              | 2, hoi =>
                simp only [List.getElem?_toArray, List.getElem?_cons_succ, List.getElem?_cons_zero, Option.some.injEq] at hoi
                subst hoi
                refine Reg.ob_plain rfl ?_
                have e56 : a.eval (.tmp 56) = .bool true := need 1 _ 56 rfl rfl (by kernel_rfl)
                refine Reg.wp_val (W' := W) (v := _) (by simp only [execOp, e56, Reg.eval_const]; rfl) ⟨_, rfl, Bel.refl W, rfl⟩
              | 3, hoi =>
                simp only [List.getElem?_toArray, List.getElem?_cons_succ, List.getElem?_cons_zero, Option.some.injEq] at hoi
                subst hoi
                have eg : a.eval (.tmp 57) = .bool true := need 2 _ 57 rfl rfl (by kernel_rfl)
                refine Reg.ob_yes rfl rfl rfl eg ?_
                have e8 : a.eval (.tmp 8) = .pointer (some ⟨gy, 0, none⟩) := old 8 (by kernel_rfl)
                have hx0 := pw_cell_below hW y0
                have hx1 := pw_cell_below hW y1
                have hx2 := pw_cell_below hW y2
                refine Reg.wp_val (W' := W) (v := .agg #[.bool leaf, .int .i64 right, .slice A8 l.length c8]) (by simp only [execOp, e8, Reg.eval_const, resolve, invoke, builtin, List.map_toArray, List.map_cons, List.map_nil, Option.map_some, Option.map_none]; (first | rfl | go_simp | (go_simp; rfl))) ⟨_, rfl, Bel.refl W, rfl⟩
              | 4, hoi =>
                simp only [List.getElem?_toArray, List.getElem?_cons_succ, List.getElem?_cons_zero, Option.some.injEq] at hoi
                subst hoi
                have eg : a.eval (.tmp 57) = .bool true := need 2 _ 57 rfl rfl (by kernel_rfl)
                refine Reg.ob_yes rfl rfl rfl eg ?_
                have e58 : a.eval (.tmp 58) = .agg #[.bool leaf, .int .i64 right, .slice A8 l.length c8] := need 3 _ 58 rfl rfl (by kernel_rfl)
                refine Reg.wp_call (f := 35) (args := #[.agg #[.bool leaf, .int .i64 right, .slice A8 l.length c8]]) (by simp only [execOp, e58, Reg.eval_const, resolve, invoke, List.map_toArray, List.map_cons, List.map_nil]; go_simp) ?_
                refine (HPLX.out W hW).mono ?_
                rintro e W' ⟨A', c', rfl, h1, h2, hb⟩; exact ⟨_, rfl, _, rfl, hb, A', c', rfl, h1, h2⟩
              | 5, hoi =>
                simp only [List.getElem?_toArray, List.getElem?_cons_succ, List.getElem?_cons_zero, Option.some.injEq] at hoi
                subst hoi
                have eg : a.eval (.tmp 57) = .bool true := need 2 _ 57 rfl rfl (by kernel_rfl)
                refine Reg.ob_yes rfl rfl rfl eg ?_
                have e2 : a.eval (.tmp 2) = .pointer (some ⟨w.heap.size, 0, none⟩) := old 2 (by kernel_rfl)
                have hx0 := pw_cell_below hW a0
                have hx1 := pw_cell_below hW a1
                have hx2 := pw_cell_below hW a2
                refine Reg.wp_val (W' := W) (v := .agg #[.bool leaf, .int .i64 right, .slice A l.length cap]) (by simp only [execOp, e2, Reg.eval_const, resolve, invoke, builtin, List.map_toArray, List.map_cons, List.map_nil, Option.map_some, Option.map_none]; (first | rfl | go_simp | (go_simp; rfl))) ⟨_, rfl, Bel.refl W, rfl⟩
              | 6, hoi =>
                simp only [List.getElem?_toArray, List.getElem?_cons_succ, List.getElem?_cons_zero, Option.some.injEq] at hoi
                subst hoi
                have eg : a.eval (.tmp 57) = .bool true := need 2 _ 57 rfl rfl (by kernel_rfl)
                refine Reg.ob_yes rfl rfl rfl eg ?_
                have e60 : a.eval (.tmp 60) = .agg #[.bool leaf, .int .i64 right, .slice A l.length cap] := need 5 _ 60 rfl rfl (by kernel_rfl)
                refine Reg.wp_call (f := 35) (args := #[.agg #[.bool leaf, .int .i64 right, .slice A l.length cap]]) (by simp only [execOp, e60, Reg.eval_const, resolve, invoke, List.map_toArray, List.map_cons, List.map_nil]; go_simp) ?_
                refine (HPLN.out W hW).mono ?_
                rintro e W' ⟨A', c', rfl, h1, h2, hb⟩; exact ⟨_, rfl, _, rfl, hb, A', c', rfl, h1, h2⟩
              | 7, hoi =>
                simp only [List.getElem?_toArray, List.getElem?_cons_succ, List.getElem?_cons_zero, Option.some.injEq] at hoi
                subst hoi
                have eg : a.eval (.tmp 57) = .bool true := need 2 _ 57 rfl rfl (by kernel_rfl)
                refine Reg.ob_yes rfl rfl rfl eg ?_
                have r59 := need 4 _ 59 rfl rfl (by kernel_rfl)
                simp only at r59
                obtain ⟨x59, e59⟩ : ∃ x, a.eval (.tmp 59) = x := ⟨_, rfl⟩
                rw [← Reg.eval_tmp, e59] at r59
                have r61 := need 6 _ 61 rfl rfl (by kernel_rfl)
                simp only at r61
                obtain ⟨x61, e61⟩ : ∃ x, a.eval (.tmp 61) = x := ⟨_, rfl⟩
                rw [← Reg.eval_tmp, e61] at r61
                obtain ⟨A1', c1', rfl, h11, h12⟩ := r59
                obtain ⟨A2', c2', rfl, h21, h22⟩ := r61
                refine Reg.wp_call (f := 53) (args := #[.agg #[.bool leaf, .int .i64 right, .slice A1' l.length c1'], .agg #[.bool leaf, .int .i64 right, .slice A2' l.length c2']]) (by simp only [execOp, e59, e61, Reg.eval_const, resolve, invoke, List.map_toArray, List.map_cons, List.map_nil]; go_simp) ?_
                refine (same_eq leaf right l A1' A2' c1' c2' W h12 h22 h11 h21 (by omega)).mono ?_
                rintro e W' ⟨rfl, hb⟩; exact ⟨_, rfl, _, rfl, hb, rfl⟩
              | 8, hoi =>
                simp only [List.getElem?_toArray, List.getElem?_cons_succ, List.getElem?_cons_zero, Option.some.injEq] at hoi
                subst hoi
                refine Reg.ob_plain rfl ?_
                have e57 : a.eval (.tmp 57) = .bool true := need 2 _ 57 rfl rfl (by kernel_rfl)
                have e62 : a.eval (.tmp 62) = .bool true := need 7 _ 62 rfl rfl (by kernel_rfl)
                refine Reg.wp_val (W' := W) (v := .bool true) (by simp only [execOp, e57, e62, Reg.eval_const, resolve, invoke, builtin, List.map_toArray, List.map_cons, List.map_nil, Option.map_some, Option.map_none]; (first | rfl | go_simp | (go_simp; rfl))) ⟨_, rfl, Bel.refl W, rfl⟩
              | 9, hoi =>
                simp only [List.getElem?_toArray, List.getElem?_cons_succ, List.getElem?_cons_zero, Option.some.injEq] at hoi
                subst hoi
                refine Reg.ob_plain rfl ?_
                have e63 : a.eval (.tmp 63) = .bool true := need 8 _ 63 rfl rfl (by kernel_rfl)
                refine Reg.wp_val (W' := W) (v := _) (by simp only [execOp, e63, Reg.eval_const]; rfl) ⟨_, rfl, Bel.refl W, rfl⟩
              | 10, hoi =>
                simp only [List.getElem?_toArray, List.getElem?_cons_succ, List.getElem?_cons_zero, Option.some.injEq] at hoi
                subst hoi
                have eg : a.eval (.tmp 64) = .bool true := need 9 _ 64 rfl rfl (by kernel_rfl)
                refine Reg.ob_yes rfl rfl rfl eg ?_
                have e7 : a.eval (.tmp 7) = .slice A7 512 c7 := old 7 (by kernel_rfl)
                refine Reg.wp_val (W' := W) (v := _) (by simp only [execOp, e7, Reg.eval_const]; rfl) ⟨_, rfl, Bel.refl W, rfl⟩
              | 11, hoi =>
                simp only [List.getElem?_toArray, List.getElem?_cons_succ, List.getElem?_cons_zero, Option.some.injEq] at hoi
                subst hoi
                have eg : a.eval (.tmp 64) = .bool true := need 9 _ 64 rfl rfl (by kernel_rfl)
                refine Reg.ob_yes rfl rfl rfl eg ?_
                have e65 : a.eval (.tmp 65) = .slice A7 512 c7 := need 10 _ 65 rfl rfl (by kernel_rfl)
                refine Reg.wp_val (W' := W) (v := .int .i64 512) (by simp only [execOp, e65, Reg.eval_const, resolve, invoke, builtin, List.map_toArray, List.map_cons, List.map_nil, Option.map_some, Option.map_none]; (first | rfl | go_simp | (go_simp; rfl))) ⟨_, rfl, Bel.refl W, rfl⟩
              | 12, hoi =>
                simp only [List.getElem?_toArray, List.getElem?_cons_succ, List.getElem?_cons_zero, Option.some.injEq] at hoi
                subst hoi
                have eg : a.eval (.tmp 64) = .bool true := need 9 _ 64 rfl rfl (by kernel_rfl)
                refine Reg.ob_yes rfl rfl rfl eg ?_
                have e66 : a.eval (.tmp 66) = .int .i64 512 := need 11 _ 66 rfl rfl (by kernel_rfl)
                refine Reg.wp_val (W' := W) (v := .bool true) (by simp only [execOp, e66, Reg.eval_const, resolve, invoke, builtin, List.map_toArray, List.map_cons, List.map_nil, Option.map_some, Option.map_none]; (first | rfl | go_simp | (go_simp; rfl))) ⟨_, rfl, Bel.refl W, rfl⟩
              | 13, hoi =>
                simp only [List.getElem?_toArray, List.getElem?_cons_succ, List.getElem?_cons_zero, Option.some.injEq] at hoi
                subst hoi
                refine Reg.ob_plain rfl ?_
                have e64 : a.eval (.tmp 64) = .bool true := need 9 _ 64 rfl rfl (by kernel_rfl)
                have e67 : a.eval (.tmp 67) = .bool true := need 12 _ 67 rfl rfl (by kernel_rfl)
                refine Reg.wp_val (W' := W) (v := .bool true) (by simp only [execOp, e64, e67, Reg.eval_const, resolve, invoke, builtin, List.map_toArray, List.map_cons, List.map_nil, Option.map_some, Option.map_none]; (first | rfl | go_simp | (go_simp; rfl))) ⟨_, rfl, Bel.refl W, rfl⟩
              | 14, hoi =>
                simp only [List.getElem?_toArray, List.getElem?_cons_succ, List.getElem?_cons_zero, Option.some.injEq] at hoi
                subst hoi
                refine Reg.ob_plain rfl ?_
                have e68 : a.eval (.tmp 68) = .bool true := need 13 _ 68 rfl rfl (by kernel_rfl)
                refine Reg.wp_val (W' := W) (v := _) (by simp only [execOp, e68, Reg.eval_const]; rfl) ⟨_, rfl, Bel.refl W, rfl⟩
              | 15, hoi =>
                simp only [List.getElem?_toArray, List.getElem?_cons_succ, List.getElem?_cons_zero, Option.some.injEq] at hoi
                subst hoi
                have eg : a.eval (.tmp 69) = .bool true := need 14 _ 69 rfl rfl (by kernel_rfl)
                refine Reg.ob_yes rfl rfl rfl eg ?_
                refine Reg.wp_call (f := 24) (args := #[]) (by simp only [execOp, Reg.eval_const, resolve, invoke, List.map_toArray, List.map_cons, List.map_nil]; go_simp) ?_
                refine (lives09 W).mono ?_
                rintro e W' ⟨rfl, hb⟩; exact ⟨_, rfl, _, rfl, hb, rfl⟩
              | 16, hoi =>
                simp only [List.getElem?_toArray, List.getElem?_cons_succ, List.getElem?_cons_zero, Option.some.injEq] at hoi
                subst hoi
                refine Reg.ob_plain rfl ?_
                have e69 : a.eval (.tmp 69) = .bool true := need 14 _ 69 rfl rfl (by kernel_rfl)
                have e70 : a.eval (.tmp 70) = .bool true := need 15 _ 70 rfl rfl (by kernel_rfl)
                refine Reg.wp_val (W' := W) (v := .bool true) (by simp only [execOp, e69, e70, Reg.eval_const, resolve, invoke, builtin, List.map_toArray, List.map_cons, List.map_nil, Option.map_some, Option.map_none]; (first | rfl | go_simp | (go_simp; rfl))) ⟨_, rfl, Bel.refl W, rfl⟩
              | 17, hoi =>
                simp only [List.getElem?_toArray, List.getElem?_cons_succ, List.getElem?_cons_zero, Option.some.injEq] at hoi
                subst hoi
                refine Reg.ob_plain rfl ?_
                have e71 : a.eval (.tmp 71) = .bool true := need 16 _ 71 rfl rfl (by kernel_rfl)
                refine Reg.wp_val (W' := W) (v := _) (by simp only [execOp, e71, Reg.eval_const]; rfl) ⟨_, rfl, Bel.refl W, rfl⟩
              | n + 18, hoi => simp at hoi
            · intro a wz hW hsize hdef got same did
              have ha := Reg.act_of [55, 56, 57, 58, 59, 60, 61, 62, 63, 64, 65, 66, 67, 68, 69, 70, 71, 4] hsize hdef same (by kernel_rfl)
              simp only [List.foldl_cons, List.foldl_nil] at ha
              generalize a.tmps.getD 55 undef = y55 at ha
              generalize a.tmps.getD 56 undef = y56 at ha
              generalize a.tmps.getD 57 undef = y57 at ha
              generalize a.tmps.getD 58 undef = y58 at ha
              generalize a.tmps.getD 59 undef = y59 at ha
              generalize a.tmps.getD 60 undef = y60 at ha
              generalize a.tmps.getD 61 undef = y61 at ha
              generalize a.tmps.getD 62 undef = y62 at ha
              generalize a.tmps.getD 63 undef = y63 at ha
              generalize a.tmps.getD 64 undef = y64 at ha
              generalize a.tmps.getD 65 undef = y65 at ha
              generalize a.tmps.getD 66 undef = y66 at ha
              generalize a.tmps.getD 67 undef = y67 at ha
              generalize a.tmps.getD 68 undef = y68 at ha
              generalize a.tmps.getD 69 undef = y69 at ha
              generalize a.tmps.getD 70 undef = y70 at ha
              generalize a.tmps.getD 71 undef = y71 at ha
              have k4 := got 17 _ 4 rfl rfl
              simp only at k4
              rw [k4] at ha
              clear k4
              clear got same hsize hdef did
              subst ha
              simp only [List.setIfInBounds_toArray, List.set_cons_zero, List.set_cons_succ]
              go_wp2
              go_ret
              exact ⟨rfl, bthen HX9.out.1 hW⟩
          · have hd : decide (nsize leaf l ≤ 512) = false := by simpa using hfit
            rw [hd] at HS50
            have hnil : nbytes leaf right l = [] := by unfold MOct.nbytes; rw [if_neg (fun h => hfit h.2)]
            have HNIL := Lib.hid hnil
            clear hgv hnk hfit hd hnil
            go_wp2_with (first
              | (go_at_call 24; refine (lives09 _).mono ?_; rintro e w1 ⟨rfl, hb⟩; have hx := HX.out.below hb; have a0 := hx.cell (i := 0) rfl; have a1 := hx.cell (i := 1) rfl; have a2 := hx.cell (i := 2) rfl; have HX := Lib.hid hx; clear hx hb)
              | (go_at_call 50; refine (HS50.out _ HX.out.1).mono ?_; rintro e w1 ⟨rfl, hb⟩; have hx := HX.out.below hb; have a0 := hx.cell (i := 0) rfl; have a1 := hx.cell (i := 1) rfl; have a2 := hx.cell (i := 2) rfl; have HX := Lib.hid hx; clear hx hb)
              | (go_at_call 47; refine (HS47.out _ HX.out.1).mono ?_; rintro e w1 ⟨rfl, hb⟩; have hx := HX.out.below hb; have a0 := hx.cell (i := 0) rfl; have a1 := hx.cell (i := 1) rfl; have a2 := hx.cell (i := 2) rfl; have HX := Lib.hid hx; clear hx hb)
              | (go_at_call 51; refine (HS51.out _ HX.out.1).mono ?_; rintro e w1 ⟨v1, rfl, hr1, hn1, hb⟩; obtain rfl := hn1 HNIL.out; clear hr1 hn1; have hx := HX.out.below hb; have a0 := hx.cell (i := 0) rfl; have a1 := hx.cell (i := 1) rfl; have a2 := hx.cell (i := 2) rfl; have HX := Lib.hid hx; clear hx hb))
            go_ret
            exact ⟨rfl, HX.out.1⟩
      | some pt =>
        obtain ⟨lf, rt, xs⟩ := pt
        rw [show errV (some (lf, rt, xs)) = 0 from rfl] at hpb
        have HPB := Lib.hid hpb
        have hpk := parseV_ok HBO.out hpv
        have HPK := Lib.hid hpk
        clear hpb hpv hpk
        go_upto_region 4 with (go_at_call 45; refine (HPB.out _ HX.out.1).mono ?_; rintro e w3 ⟨Ax, cx, rfl, hcx, hCx, hb⟩; have HCX := Lib.hid hCx; clear hCx; have hx := HX.out.below hb; have a0 := hx.cell (i := 0) rfl; have a1 := hx.cell (i := 1) rfl; have a2 := hx.cell (i := 2) rfl; have HX := Lib.hid hx; clear hx hb)
        have hxw := HX.out.below ((Below.refl w3.heap.size w3).alloc (Nat.le_refl _) (Obj.cells #[Value.bool lf, Value.int .i64 rt, Value.slice Ax xs.length cx] 55))
        have hbx := heap_alloc_new w3 (Obj.cells #[Value.bool lf, Value.int .i64 rt, Value.slice Ax xs.length cx] 55)
        have hcx4 := Kd.C_below HCX.out ((Below.refl w3.heap.size w3).alloc (Nat.le_refl _) (Obj.cells #[Value.bool lf, Value.int .i64 rt, Value.slice Ax xs.length cx] 55))
        obtain ⟨gx, hgx⟩ : ∃ gx, w3.heap.size = gx := ⟨_, rfl⟩
        rw [hgx] at hbx ⊢
        generalize hW4 : w3.alloc (Obj.cells #[Value.bool lf, Value.int .i64 rt, Value.slice Ax xs.length cx] 55) = w4 at hxw hbx hcx4 ⊢
        have z0 : w4.cell? ⟨gx, 0, none⟩ = some (.bool lf) := cell_of_row w4 gx 0 _ 55 (0, 0) hbx
        have z1 : w4.cell? ⟨gx, 1, none⟩ = some (.int .i64 rt) := cell_of_row w4 gx 1 _ 55 (0, 0) hbx
        have z2 : w4.cell? ⟨gx, 2, none⟩ = some (.slice Ax xs.length cx) := cell_of_row w4 gx 2 _ 55 (0, 0) hbx
        have HX4 := Lib.hid hxw
        have HCb4 := Lib.hid (HCb.out.below hxw.1)
        have HBX : Hid (∀ W, Below w4.heap.size w4 W → Calls Try.prog 51 #[.agg #[.bool lf, .int .i64 rt, .slice Ax xs.length cx]] W fun e W' => ∃ v, e = .returned v ∧ RB W W' v lb ∧ Below W.heap.size W W') := Lib.hid (fun W h => (nbytes_calls lf rt xs Ax cx W (Kd.C_below hcx4 h) hcx HPK.out.1).mono (by rintro e W' ⟨v, rfl, hr, _, hb⟩; rw [HPK.out.2.1] at hr; exact ⟨v, rfl, hr, hb⟩))
        clear hW4 hxw hgx hbx hcx4 a0 a1 a2
        refine Reg.region_mono (P := Try.prog) (Ext := Bel) (R := fun i v W => match i with
            | 0 => v = .int .i64 0
            | 1 => v = .bool true
            | 2 => v = .bool true
            | 3 => v = .agg #[.bool lf, .int .i64 rt, .slice Ax xs.length cx]
            | 4 => RB w4 W v lb
            | 5 => v = .string (strOfNums lb)
            | 6 => v = .slice Ab lb.length cb
            | 7 => v = .string (strOfNums lb)
            | 8 => v = .bool false
            | 9 => v = .bool false
            | _ => True) (fun W => Below w4.heap.size w4 W) rfl (by kernel_rfl) (by kernel_rfl) (Bel.drew w4) (fun W W' h h' => bthen h h') Bel.refl (by intro j v W W' hx h; split at h <;> first | exact h | exact RB.below h hx) ?_ ?_
        · intro i oi hoi a W hW need old
          match i, hoi with
          | 0, hoi =>
            simp only [List.getElem?_toArray, List.getElem?_cons_succ, List.getElem?_cons_zero, Option.some.injEq] at hoi
            subst hoi
            refine Reg.ob_plain rfl ?_
            have e6 : a.eval (.tmp 6) = .int .i64 0 := old 6 (by kernel_rfl)
            refine Reg.wp_val (W' := W) (v := _) (by simp only [execOp, e6, Reg.eval_const]; rfl) ⟨_, rfl, Bel.refl W, rfl⟩
          | 1, hoi =>
            simp only [List.getElem?_toArray, List.getElem?_cons_succ, List.getElem?_cons_zero, Option.some.injEq] at hoi
            subst hoi
            refine Reg.ob_plain rfl ?_
            have e24 : a.eval (.tmp 24) = .int .i64 0 := need 0 _ 24 rfl rfl (by kernel_rfl)
            refine Reg.wp_val (W' := W) (v := .bool true) (by simp only [execOp, e24, Reg.eval_const, resolve, invoke, builtin, List.map_toArray, List.map_cons, List.map_nil, Option.map_some, Option.map_none]; (first | rfl | go_simp | (go_simp; rfl))) ⟨_, rfl, Bel.refl W, rfl⟩
          | 2, hoi =>
            simp only [List.getElem?_toArray, List.getElem?_cons_succ, List.getElem?_cons_zero, Option.some.injEq] at hoi
            subst hoi
            refine Reg.ob_plain rfl ?_
            have e25 : a.eval (.tmp 25) = .bool true := need 1 _ 25 rfl rfl (by kernel_rfl)
            refine Reg.wp_val (W' := W) (v := _) (by simp only [execOp, e25, Reg.eval_const]; rfl) ⟨_, rfl, Bel.refl W, rfl⟩
          | 3, hoi =>
            simp only [List.getElem?_toArray, List.getElem?_cons_succ, List.getElem?_cons_zero, Option.some.injEq] at hoi
            subst hoi
            have eg : a.eval (.tmp 26) = .bool true := need 2 _ 26 rfl rfl (by kernel_rfl)
            refine Reg.ob_yes rfl rfl rfl eg ?_
            have e5 : a.eval (.tmp 5) = .pointer (some ⟨gx, 0, none⟩) := old 5 (by kernel_rfl)
            have hx0 := pw_cell_below hW z0
            have hx1 := pw_cell_below hW z1
            have hx2 := pw_cell_below hW z2
            refine Reg.wp_val (W' := W) (v := .agg #[.bool lf, .int .i64 rt, .slice Ax xs.length cx]) (by simp only [execOp, e5, Reg.eval_const, resolve, invoke, builtin, List.map_toArray, List.map_cons, List.map_nil, Option.map_some, Option.map_none]; (first | rfl | go_simp | (go_simp; rfl))) ⟨_, rfl, Bel.refl W, rfl⟩
          | 4, hoi =>
            simp only [List.getElem?_toArray, List.getElem?_cons_succ, List.getElem?_cons_zero, Option.some.injEq] at hoi
            subst hoi
            have eg : a.eval (.tmp 26) = .bool true := need 2 _ 26 rfl rfl (by kernel_rfl)
            refine Reg.ob_yes rfl rfl rfl eg ?_
            have e27 : a.eval (.tmp 27) = .agg #[.bool lf, .int .i64 rt, .slice Ax xs.length cx] := need 3 _ 27 rfl rfl (by kernel_rfl)
            refine Reg.wp_call (f := 51) (args := #[.agg #[.bool lf, .int .i64 rt, .slice Ax xs.length cx]]) (by simp only [execOp, e27, Reg.eval_const, resolve, invoke, List.map_toArray, List.map_cons, List.map_nil]; go_simp) ?_
            refine (HBX.out W hW).mono ?_
            rintro e' W' ⟨v, rfl, ho, hb⟩; exact ⟨v, rfl, v, rfl, hb, ho.lower hW.size⟩
          | 5, hoi =>
            simp only [List.getElem?_toArray, List.getElem?_cons_succ, List.getElem?_cons_zero, Option.some.injEq] at hoi
            subst hoi
            have eg : a.eval (.tmp 26) = .bool true := need 2 _ 26 rfl rfl (by kernel_rfl)
            refine Reg.ob_yes rfl rfl rfl eg ?_
            have r28 := need 4 _ 28 rfl rfl (by kernel_rfl)
            simp only at r28
            obtain ⟨x28, e28⟩ : ∃ x, a.eval (.tmp 28) = x := ⟨_, rfl⟩
            rw [← Reg.eval_tmp, e28] at r28
            have hs := r28.str
            refine Reg.wp_val (W' := W) (v := .string (strOfNums lb)) (by simp only [execOp, e28, Reg.eval_const, resolve, invoke, builtin, List.map_toArray, List.map_cons, List.map_nil, Option.map_some, Option.map_none]; (first | rfl | go_simp | (go_simp; rfl))) ⟨_, rfl, Bel.refl W, rfl⟩
          | 6, hoi =>
            simp only [List.getElem?_toArray, List.getElem?_cons_succ, List.getElem?_cons_zero, Option.some.injEq] at hoi
            subst hoi
            have eg : a.eval (.tmp 26) = .bool true := need 2 _ 26 rfl rfl (by kernel_rfl)
            refine Reg.ob_yes rfl rfl rfl eg ?_
            have e1 : a.eval (.tmp 1) = .slice Ab lb.length cb := old 1 (by kernel_rfl)
            refine Reg.wp_val (W' := W) (v := _) (by simp only [execOp, e1, Reg.eval_const]; rfl) ⟨_, rfl, Bel.refl W, rfl⟩
          | 7, hoi =>
            simp only [List.getElem?_toArray, List.getElem?_cons_succ, List.getElem?_cons_zero, Option.some.injEq] at hoi
            subst hoi
            have eg : a.eval (.tmp 26) = .bool true := need 2 _ 26 rfl rfl (by kernel_rfl)
            refine Reg.ob_yes rfl rfl rfl eg ?_
            have e30 : a.eval (.tmp 30) = .slice Ab lb.length cb := need 6 _ 30 rfl rfl (by kernel_rfl)
            have hs := (HCb4.out.below hW).str (c := cb)
            refine Reg.wp_val (W' := W) (v := .string (strOfNums lb)) (by simp only [execOp, e30, Reg.eval_const, resolve, invoke, builtin, List.map_toArray, List.map_cons, List.map_nil, Option.map_some, Option.map_none]; (first | rfl | go_simp | (go_simp; rfl))) ⟨_, rfl, Bel.refl W, rfl⟩
          | 8, hoi =>
            simp only [List.getElem?_toArray, List.getElem?_cons_succ, List.getElem?_cons_zero, Option.some.injEq] at hoi
            subst hoi
            have eg : a.eval (.tmp 26) = .bool true := need 2 _ 26 rfl rfl (by kernel_rfl)
            refine Reg.ob_yes rfl rfl rfl eg ?_
            have e29 : a.eval (.tmp 29) = .string (strOfNums lb) := need 5 _ 29 rfl rfl (by kernel_rfl)
            have e31 : a.eval (.tmp 31) = .string (strOfNums lb) := need 7 _ 31 rfl rfl (by kernel_rfl)
            refine Reg.wp_val (W' := W) (v := .bool false) (by simp only [execOp, e29, e31, Reg.eval_const, resolve, invoke, builtin, List.map_toArray, List.map_cons, List.map_nil, Option.map_some, Option.map_none]; (first | rfl | go_simp | (go_simp; rfl))) ⟨_, rfl, Bel.refl W, rfl⟩
          | 9, hoi =>
            simp only [List.getElem?_toArray, List.getElem?_cons_succ, List.getElem?_cons_zero, Option.some.injEq] at hoi
            subst hoi
            refine Reg.ob_plain rfl ?_
            have e26 : a.eval (.tmp 26) = .bool true := need 2 _ 26 rfl rfl (by kernel_rfl)
            have e32 : a.eval (.tmp 32) = .bool false := need 8 _ 32 rfl rfl (by kernel_rfl)
            refine Reg.wp_val (W' := W) (v := .bool false) (by simp only [execOp, e26, e32, Reg.eval_const, resolve, invoke, builtin, List.map_toArray, List.map_cons, List.map_nil, Option.map_some, Option.map_none]; (first | rfl | go_simp | (go_simp; rfl))) ⟨_, rfl, Bel.refl W, rfl⟩
          | n + 10, hoi => simp at hoi
        · intro a w5 hW hsize hdef got same did
          have ha := Reg.act_of [24, 25, 26, 27, 28, 29, 30, 31, 32, 33] hsize hdef same (by kernel_rfl)
          simp only [List.foldl_cons, List.foldl_nil] at ha
          generalize a.tmps.getD 24 undef = y24 at ha
          generalize a.tmps.getD 25 undef = y25 at ha
          generalize a.tmps.getD 26 undef = y26 at ha
          generalize a.tmps.getD 27 undef = y27 at ha
          generalize a.tmps.getD 28 undef = y28 at ha
          generalize a.tmps.getD 29 undef = y29 at ha
          generalize a.tmps.getD 30 undef = y30 at ha
          generalize a.tmps.getD 31 undef = y31 at ha
          generalize a.tmps.getD 32 undef = y32 at ha
          have k33 := got 9 _ 33 rfl rfl
          simp only at k33
          rw [k33] at ha
          clear k33
          clear got same hsize hdef did
          subst ha
          simp only [List.setIfInBounds_toArray, List.set_cons_zero, List.set_cons_succ]
          have hxd := HX4.out.below hW
          have a0 := hxd.cell (i := 0) rfl
          have a1 := hxd.cell (i := 1) rfl
          have a2 := hxd.cell (i := 2) rfl
          have HX := Lib.hid hxd
          clear hxd hW
          obtain ⟨gv, hgv⟩ : ∃ gv, goodV leaf right l = gv := ⟨_, rfl⟩
          have HS47 := Lib.hid (fun W (h : Below w.heap.size w W) => good_calls leaf right l A cap W (Kd.C_below HC.out h) hc (by omega))
          rw [hgv] at HS47
          cases gv with
          | false =>
            have HS51 := Lib.hid (fun W (h : Below w.heap.size w W) => nbytes_bad leaf right l A cap W (Kd.C_below HC.out h) hc (by omega) hgv)
            clear hgv
            go_wp2_with (first
              | (go_at_call 24; refine (lives09 _).mono ?_; rintro e w1 ⟨rfl, hb⟩; have hx := HX.out.below hb; have a0 := hx.cell (i := 0) rfl; have a1 := hx.cell (i := 1) rfl; have a2 := hx.cell (i := 2) rfl; have HX := Lib.hid hx; clear hx hb)
              | (go_at_call 47; refine (HS47.out _ HX.out.1).mono ?_; rintro e w1 ⟨rfl, hb⟩; have hx := HX.out.below hb; have a0 := hx.cell (i := 0) rfl; have a1 := hx.cell (i := 1) rfl; have a2 := hx.cell (i := 2) rfl; have HX := Lib.hid hx; clear hx hb)
              | (go_at_call 51; refine (HS51.out _ HX.out.1).mono ?_; rintro e w1 ⟨rfl, hb⟩; have hx := HX.out.below hb; have a0 := hx.cell (i := 0) rfl; have a1 := hx.cell (i := 1) rfl; have a2 := hx.cell (i := 2) rfl; have HX := Lib.hid hx; clear hx hb))
            go_ret
            exact ⟨rfl, HX.out.1⟩
          | true =>
            have hnk : NodeOk l := ⟨by omega, fun c hc => ⟨HKY.out c hc, by have := good_small hgv c hc; omega⟩⟩
            have HS51 := Lib.hid (fun W (h : Below w.heap.size w W) => nbytes_calls leaf right l A cap W (Kd.C_below HC.out h) hc hnk)
            have HS50 := Lib.hid (fun W (h : Below w.heap.size w W) => fits_calls leaf right l A cap W (Kd.C_below HC.out h) hc hnk)
            by_cases hfit : nsize leaf l ≤ 512
            · have hd : decide (nsize leaf l ≤ 512) = true := by simpa using hfit
              rw [hd] at HS50
              have hpg := parse_back leaf right l ⟨hgv, hfit⟩ HKY.out (by omega)
              have hpl := MOct.nbytes_length leaf right l ⟨hgv, hfit⟩
              obtain ⟨PG, hPG⟩ : ∃ PG, nbytes leaf right l = PG := ⟨_, rfl⟩
              rw [hPG] at hpg hpl HS51
              have HPG := Lib.hid hpg
              have HPL := Lib.hid hpl
              have hpo : bytesOk PG := by rw [← hPG]; exact nbytes_ok HLOC.out
              have HPP : Hid (∀ A7 c7 W, CB W A7 PG → 512 ≤ c7 → Calls Try.prog 45 #[.slice A7 512 c7] W fun e w' => ∃ A' c', e = .returned (.tuple #[.agg #[.bool leaf, .int .i64 right, .slice A' l.length c'], .int .i64 0]) ∧ l.length ≤ c' ∧ KC9.C w' A' l.length l ∧ Below W.heap.size W w') := Lib.hid (fun A7 c7 W hC7 h7 => by
                have := parse_calls A7 c7 PG W hC7 (by omega) hpo
                rw [hpg, hpl] at this
                exact this)
              have HPLN := Lib.hid (fun W (h : Below w.heap.size w W) => plain_calls leaf right l A cap W (Kd.C_below HC.out h) hc (by omega))
              clear hgv hnk hfit hd hpg hpo
              go_upto_region 10 with (first
                | (go_at_call 45; refine (HPP.out A7 c7 _ HC7.out h7).mono ?_; rintro e w8 ⟨A8, c8, rfl, hc8, hC8, hb⟩; have HC8 := Lib.hid hC8; clear hC8; have hx := HX.out.below hb; have a0 := hx.cell (i := 0) rfl; have a1 := hx.cell (i := 1) rfl; have a2 := hx.cell (i := 2) rfl; have HX := Lib.hid hx; clear hx hb)
                | (go_at_call 50; refine (HS50.out _ HX.out.1).mono ?_; rintro e w1 ⟨rfl, hb⟩; have HC7 := Lib.hid (HC7.out.below hb); have hx := HX.out.below hb; have a0 := hx.cell (i := 0) rfl; have a1 := hx.cell (i := 1) rfl; have a2 := hx.cell (i := 2) rfl; have HX := Lib.hid hx; clear hx hb)
                | (go_at_call 47; refine (HS47.out _ HX.out.1).mono ?_; rintro e w1 ⟨rfl, hb⟩; have HC7 := Lib.hid (HC7.out.below hb); have hx := HX.out.below hb; have a0 := hx.cell (i := 0) rfl; have a1 := hx.cell (i := 1) rfl; have a2 := hx.cell (i := 2) rfl; have HX := Lib.hid hx; clear hx hb)
                | (go_at_call 51; refine (HS51.out _ HX.out.1).mono ?_; rintro e w1 ⟨v1, rfl, hr1, hn1, hb⟩; obtain ⟨A7, c7, rfl, h7, hC7⟩ := page_form hr1 HPL.out; have HC7 := Lib.hid hC7; clear hr1 hn1 hC7; have hx := HX.out.below hb; have a0 := hx.cell (i := 0) rfl; have a1 := hx.cell (i := 1) rfl; have a2 := hx.cell (i := 2) rfl; have HX := Lib.hid hx; clear hx hb))
              have hxw := HX.out.below ((Below.refl w8.heap.size w8).alloc (Nat.le_refl _) (Obj.cells #[Value.bool leaf, Value.int .i64 right, Value.slice A8 l.length c8] 55))
              have hby := heap_alloc_new w8 (Obj.cells #[Value.bool leaf, Value.int .i64 right, Value.slice A8 l.length c8] 55)
              have hcy := Kd.C_below HC8.out ((Below.refl w8.heap.size w8).alloc (Nat.le_refl _) (Obj.cells #[Value.bool leaf, Value.int .i64 right, Value.slice A8 l.length c8] 55))
              obtain ⟨gy, hgy⟩ : ∃ gy, w8.heap.size = gy := ⟨_, rfl⟩
              rw [hgy] at hby ⊢
              clear a0 a1 a2
              generalize hW9 : w8.alloc (Obj.cells #[Value.bool leaf, Value.int .i64 right, Value.slice A8 l.length c8] 55) = w9 at hxw hby hcy ⊢
              have y0 : w9.cell? ⟨gy, 0, none⟩ = some (.bool leaf) := cell_of_row w9 gy 0 _ 55 (0, 0) hby
              have y1 : w9.cell? ⟨gy, 1, none⟩ = some (.int .i64 right) := cell_of_row w9 gy 1 _ 55 (0, 0) hby
              have y2 : w9.cell? ⟨gy, 2, none⟩ = some (.slice A8 l.length c8) := cell_of_row w9 gy 2 _ 55 (0, 0) hby
              have a0 := hxw.cell (i := 0) rfl
              have a1 := hxw.cell (i := 1) rfl
              have a2 := hxw.cell (i := 2) rfl
              have HX9 := Lib.hid hxw
              have HPLX := Lib.hid (fun W (h : Below w9.heap.size w9 W) => plain_calls leaf right l A8 c8 W (Kd.C_below hcy h) hc8 (by omega))
              have HPLN9 := Lib.hid (fun W (h : Below w9.heap.size w9 W) => HPLN.out W (bthen HX9.out.1 h))
              have HPLN := HPLN9
              clear hW9 hxw hgy hby hcy
              refine Reg.region_mono (P := Try.prog) (Ext := Bel) (R := fun i v W => match i with
                  | 0 => v = .int .i64 0
                  | 1 => v = .bool true
                  | 2 => v = .bool true
                  | 3 => v = .agg #[.bool leaf, .int .i64 right, .slice A8 l.length c8]
                  | 4 => ∃ A' c', v = .agg #[.bool leaf, .int .i64 right, .slice A' l.length c'] ∧ l.length ≤ c' ∧ KC9.C W A' l.length l
                  | 5 => v = .agg #[.bool leaf, .int .i64 right, .slice A l.length cap]
                  | 6 => ∃ A' c', v = .agg #[.bool leaf, .int .i64 right, .slice A' l.length c'] ∧ l.length ≤ c' ∧ KC9.C W A' l.length l
                  | 7 => v = .bool true
                  | 8 => v = .bool true
                  | 9 => v = .bool true
                  | 10 => v = .slice A7 512 c7
                  | 11 => v = .int .i64 512
                  | 12 => v = .bool true
                  | 13 => v = .bool true
                  | 14 => v = .bool true
                  | 15 => v = .bool true
                  | 16 => v = .bool true
                  | 17 => v = .bool true
                  | _ => True) (fun W => Below w9.heap.size w9 W) rfl (by kernel_rfl) (by kernel_rfl) (Bel.drew w9) (fun W W' h h' => bthen h h') Bel.refl (by intro j v W W' hx h; split at h <;> first | exact h | (obtain ⟨A', c', e, h1, h2⟩ := h; exact ⟨A', c', e, h1, Kd.C_below h2 hx⟩)) ?_ ?_
              · intro i oi hoi a W hW need old
                match i, hoi with
                | 0, hoi =>
                  simp only [List.getElem?_toArray, List.getElem?_cons_succ, List.getElem?_cons_zero, Option.some.injEq] at hoi
                  subst hoi
                  refine Reg.ob_plain rfl ?_
                  have e9 : a.eval (.tmp 9) = .int .i64 0 := old 9 (by kernel_rfl)
                  refine Reg.wp_val (W' := W) (v := _) (by simp only [execOp, e9, Reg.eval_const]; rfl) ⟨_, rfl, Bel.refl W, rfl⟩
                | 1, hoi =>
                  simp only [List.getElem?_toArray, List.getElem?_cons_succ, List.getElem?_cons_zero, Option.some.injEq] at hoi
                  subst hoi
                  refine Reg.ob_plain rfl ?_
                  have e55 : a.eval (.tmp 55) = .int .i64 0 := need 0 _ 55 rfl rfl (by kernel_rfl)
                  refine Reg.wp_val (W' := W) (v := .bool true) (by simp only [execOp, e55, Reg.eval_const, resolve, invoke, builtin, List.map_toArray, List.map_cons, List.map_nil, Option.map_some, Option.map_none]; (first | rfl | go_simp | (go_simp; rfl))) ⟨_, rfl, Bel.refl W, rfl⟩
                | 2, hoi =>
                  simp only [List.getElem?_toArray, List.getElem?_cons_succ, List.getElem?_cons_zero, Option.some.injEq] at hoi
                  subst hoi
                  refine Reg.ob_plain rfl ?_
                  have e56 : a.eval (.tmp 56) = .bool true := need 1 _ 56 rfl rfl (by kernel_rfl)
                  refine Reg.wp_val (W' := W) (v := _) (by simp only [execOp, e56, Reg.eval_const]; rfl) ⟨_, rfl, Bel.refl W, rfl⟩
                | 3, hoi =>
                  simp only [List.getElem?_toArray, List.getElem?_cons_succ, List.getElem?_cons_zero, Option.some.injEq] at hoi
                  subst hoi
                  have eg : a.eval (.tmp 57) = .bool true := need 2 _ 57 rfl rfl (by kernel_rfl)
                  refine Reg.ob_yes rfl rfl rfl eg ?_
                  have e8 : a.eval (.tmp 8) = .pointer (some ⟨gy, 0, none⟩) := old 8 (by kernel_rfl)
                  have hx0 := pw_cell_below hW y0
                  have hx1 := pw_cell_below hW y1
                  have hx2 := pw_cell_below hW y2
                  refine Reg.wp_val (W' := W) (v := .agg #[.bool leaf, .int .i64 right, .slice A8 l.length c8]) (by simp only [execOp, e8, Reg.eval_const, resolve, invoke, builtin, List.map_toArray, List.map_cons, List.map_nil, Option.map_some, Option.map_none]; (first | rfl | go_simp | (go_simp; rfl))) ⟨_, rfl, Bel.refl W, rfl⟩
                | 4, hoi =>
                  simp only [List.getElem?_toArray, List.getElem?_cons_succ, List.getElem?_cons_zero, Option.some.injEq] at hoi
                  subst hoi
                  have eg : a.eval (.tmp 57) = .bool true := need 2 _ 57 rfl rfl (by kernel_rfl)
                  refine Reg.ob_yes rfl rfl rfl eg ?_
                  have e58 : a.eval (.tmp 58) = .agg #[.bool leaf, .int .i64 right, .slice A8 l.length c8] := need 3 _ 58 rfl rfl (by kernel_rfl)
                  refine Reg.wp_call (f := 35) (args := #[.agg #[.bool leaf, .int .i64 right, .slice A8 l.length c8]]) (by simp only [execOp, e58, Reg.eval_const, resolve, invoke, List.map_toArray, List.map_cons, List.map_nil]; go_simp) ?_
                  refine (HPLX.out W hW).mono ?_
                  rintro e W' ⟨A', c', rfl, h1, h2, hb⟩; exact ⟨_, rfl, _, rfl, hb, A', c', rfl, h1, h2⟩
                | 5, hoi =>
                  simp only [List.getElem?_toArray, List.getElem?_cons_succ, List.getElem?_cons_zero, Option.some.injEq] at hoi
                  subst hoi
                  have eg : a.eval (.tmp 57) = .bool true := need 2 _ 57 rfl rfl (by kernel_rfl)
                  refine Reg.ob_yes rfl rfl rfl eg ?_
                  have e2 : a.eval (.tmp 2) = .pointer (some ⟨w.heap.size, 0, none⟩) := old 2 (by kernel_rfl)
                  have hx0 := pw_cell_below hW a0
                  have hx1 := pw_cell_below hW a1
                  have hx2 := pw_cell_below hW a2
                  refine Reg.wp_val (W' := W) (v := .agg #[.bool leaf, .int .i64 right, .slice A l.length cap]) (by simp only [execOp, e2, Reg.eval_const, resolve, invoke, builtin, List.map_toArray, List.map_cons, List.map_nil, Option.map_some, Option.map_none]; (first | rfl | go_simp | (go_simp; rfl))) ⟨_, rfl, Bel.refl W, rfl⟩
                | 6, hoi =>
                  simp only [List.getElem?_toArray, List.getElem?_cons_succ, List.getElem?_cons_zero, Option.some.injEq] at hoi
                  subst hoi
                  have eg : a.eval (.tmp 57) = .bool true := need 2 _ 57 rfl rfl (by kernel_rfl)
                  refine Reg.ob_yes rfl rfl rfl eg ?_
                  have e60 : a.eval (.tmp 60) = .agg #[.bool leaf, .int .i64 right, .slice A l.length cap] := need 5 _ 60 rfl rfl (by kernel_rfl)
                  refine Reg.wp_call (f := 35) (args := #[.agg #[.bool leaf, .int .i64 right, .slice A l.length cap]]) (by simp only [execOp, e60, Reg.eval_const, resolve, invoke, List.map_toArray, List.map_cons, List.map_nil]; go_simp) ?_
                  refine (HPLN.out W hW).mono ?_
                  rintro e W' ⟨A', c', rfl, h1, h2, hb⟩; exact ⟨_, rfl, _, rfl, hb, A', c', rfl, h1, h2⟩
                | 7, hoi =>
                  simp only [List.getElem?_toArray, List.getElem?_cons_succ, List.getElem?_cons_zero, Option.some.injEq] at hoi
                  subst hoi
                  have eg : a.eval (.tmp 57) = .bool true := need 2 _ 57 rfl rfl (by kernel_rfl)
                  refine Reg.ob_yes rfl rfl rfl eg ?_
                  have r59 := need 4 _ 59 rfl rfl (by kernel_rfl)
                  simp only at r59
                  obtain ⟨x59, e59⟩ : ∃ x, a.eval (.tmp 59) = x := ⟨_, rfl⟩
                  rw [← Reg.eval_tmp, e59] at r59
                  have r61 := need 6 _ 61 rfl rfl (by kernel_rfl)
                  simp only at r61
                  obtain ⟨x61, e61⟩ : ∃ x, a.eval (.tmp 61) = x := ⟨_, rfl⟩
                  rw [← Reg.eval_tmp, e61] at r61
                  obtain ⟨A1', c1', rfl, h11, h12⟩ := r59
                  obtain ⟨A2', c2', rfl, h21, h22⟩ := r61
                  refine Reg.wp_call (f := 53) (args := #[.agg #[.bool leaf, .int .i64 right, .slice A1' l.length c1'], .agg #[.bool leaf, .int .i64 right, .slice A2' l.length c2']]) (by simp only [execOp, e59, e61, Reg.eval_const, resolve, invoke, List.map_toArray, List.map_cons, List.map_nil]; go_simp) ?_
                  refine (same_eq leaf right l A1' A2' c1' c2' W h12 h22 h11 h21 (by omega)).mono ?_
                  rintro e W' ⟨rfl, hb⟩; exact ⟨_, rfl, _, rfl, hb, rfl⟩
                | 8, hoi =>
                  simp only [List.getElem?_toArray, List.getElem?_cons_succ, List.getElem?_cons_zero, Option.some.injEq] at hoi
                  subst hoi
                  refine Reg.ob_plain rfl ?_
                  have e57 : a.eval (.tmp 57) = .bool true := need 2 _ 57 rfl rfl (by kernel_rfl)
                  have e62 : a.eval (.tmp 62) = .bool true := need 7 _ 62 rfl rfl (by kernel_rfl)
                  refine Reg.wp_val (W' := W) (v := .bool true) (by simp only [execOp, e57, e62, Reg.eval_const, resolve, invoke, builtin, List.map_toArray, List.map_cons, List.map_nil, Option.map_some, Option.map_none]; (first | rfl | go_simp | (go_simp; rfl))) ⟨_, rfl, Bel.refl W, rfl⟩
                | 9, hoi =>
                  simp only [List.getElem?_toArray, List.getElem?_cons_succ, List.getElem?_cons_zero, Option.some.injEq] at hoi
                  subst hoi
                  refine Reg.ob_plain rfl ?_
                  have e63 : a.eval (.tmp 63) = .bool true := need 8 _ 63 rfl rfl (by kernel_rfl)
                  refine Reg.wp_val (W' := W) (v := _) (by simp only [execOp, e63, Reg.eval_const]; rfl) ⟨_, rfl, Bel.refl W, rfl⟩
                | 10, hoi =>
                  simp only [List.getElem?_toArray, List.getElem?_cons_succ, List.getElem?_cons_zero, Option.some.injEq] at hoi
                  subst hoi
                  have eg : a.eval (.tmp 64) = .bool true := need 9 _ 64 rfl rfl (by kernel_rfl)
                  refine Reg.ob_yes rfl rfl rfl eg ?_
                  have e7 : a.eval (.tmp 7) = .slice A7 512 c7 := old 7 (by kernel_rfl)
                  refine Reg.wp_val (W' := W) (v := _) (by simp only [execOp, e7, Reg.eval_const]; rfl) ⟨_, rfl, Bel.refl W, rfl⟩
                | 11, hoi =>
                  simp only [List.getElem?_toArray, List.getElem?_cons_succ, List.getElem?_cons_zero, Option.some.injEq] at hoi
                  subst hoi
                  have eg : a.eval (.tmp 64) = .bool true := need 9 _ 64 rfl rfl (by kernel_rfl)
                  refine Reg.ob_yes rfl rfl rfl eg ?_
                  have e65 : a.eval (.tmp 65) = .slice A7 512 c7 := need 10 _ 65 rfl rfl (by kernel_rfl)
                  refine Reg.wp_val (W' := W) (v := .int .i64 512) (by simp only [execOp, e65, Reg.eval_const, resolve, invoke, builtin, List.map_toArray, List.map_cons, List.map_nil, Option.map_some, Option.map_none]; (first | rfl | go_simp | (go_simp; rfl))) ⟨_, rfl, Bel.refl W, rfl⟩
                | 12, hoi =>
                  simp only [List.getElem?_toArray, List.getElem?_cons_succ, List.getElem?_cons_zero, Option.some.injEq] at hoi
                  subst hoi
                  have eg : a.eval (.tmp 64) = .bool true := need 9 _ 64 rfl rfl (by kernel_rfl)
                  refine Reg.ob_yes rfl rfl rfl eg ?_
                  have e66 : a.eval (.tmp 66) = .int .i64 512 := need 11 _ 66 rfl rfl (by kernel_rfl)
                  refine Reg.wp_val (W' := W) (v := .bool true) (by simp only [execOp, e66, Reg.eval_const, resolve, invoke, builtin, List.map_toArray, List.map_cons, List.map_nil, Option.map_some, Option.map_none]; (first | rfl | go_simp | (go_simp; rfl))) ⟨_, rfl, Bel.refl W, rfl⟩
                | 13, hoi =>
                  simp only [List.getElem?_toArray, List.getElem?_cons_succ, List.getElem?_cons_zero, Option.some.injEq] at hoi
                  subst hoi
                  refine Reg.ob_plain rfl ?_
                  have e64 : a.eval (.tmp 64) = .bool true := need 9 _ 64 rfl rfl (by kernel_rfl)
                  have e67 : a.eval (.tmp 67) = .bool true := need 12 _ 67 rfl rfl (by kernel_rfl)
                  refine Reg.wp_val (W' := W) (v := .bool true) (by simp only [execOp, e64, e67, Reg.eval_const, resolve, invoke, builtin, List.map_toArray, List.map_cons, List.map_nil, Option.map_some, Option.map_none]; (first | rfl | go_simp | (go_simp; rfl))) ⟨_, rfl, Bel.refl W, rfl⟩
                | 14, hoi =>
                  simp only [List.getElem?_toArray, List.getElem?_cons_succ, List.getElem?_cons_zero, Option.some.injEq] at hoi
                  subst hoi
                  refine Reg.ob_plain rfl ?_
                  have e68 : a.eval (.tmp 68) = .bool true := need 13 _ 68 rfl rfl (by kernel_rfl)
                  refine Reg.wp_val (W' := W) (v := _) (by simp only [execOp, e68, Reg.eval_const]; rfl) ⟨_, rfl, Bel.refl W, rfl⟩
                | 15, hoi =>
                  simp only [List.getElem?_toArray, List.getElem?_cons_succ, List.getElem?_cons_zero, Option.some.injEq] at hoi
                  subst hoi
                  have eg : a.eval (.tmp 69) = .bool true := need 14 _ 69 rfl rfl (by kernel_rfl)
                  refine Reg.ob_yes rfl rfl rfl eg ?_
                  refine Reg.wp_call (f := 24) (args := #[]) (by simp only [execOp, Reg.eval_const, resolve, invoke, List.map_toArray, List.map_cons, List.map_nil]; go_simp) ?_
                  refine (lives09 W).mono ?_
                  rintro e W' ⟨rfl, hb⟩; exact ⟨_, rfl, _, rfl, hb, rfl⟩
                | 16, hoi =>
                  simp only [List.getElem?_toArray, List.getElem?_cons_succ, List.getElem?_cons_zero, Option.some.injEq] at hoi
                  subst hoi
                  refine Reg.ob_plain rfl ?_
                  have e69 : a.eval (.tmp 69) = .bool true := need 14 _ 69 rfl rfl (by kernel_rfl)
                  have e70 : a.eval (.tmp 70) = .bool true := need 15 _ 70 rfl rfl (by kernel_rfl)
                  refine Reg.wp_val (W' := W) (v := .bool true) (by simp only [execOp, e69, e70, Reg.eval_const, resolve, invoke, builtin, List.map_toArray, List.map_cons, List.map_nil, Option.map_some, Option.map_none]; (first | rfl | go_simp | (go_simp; rfl))) ⟨_, rfl, Bel.refl W, rfl⟩
                | 17, hoi =>
                  simp only [List.getElem?_toArray, List.getElem?_cons_succ, List.getElem?_cons_zero, Option.some.injEq] at hoi
                  subst hoi
                  refine Reg.ob_plain rfl ?_
                  have e71 : a.eval (.tmp 71) = .bool true := need 16 _ 71 rfl rfl (by kernel_rfl)
                  refine Reg.wp_val (W' := W) (v := _) (by simp only [execOp, e71, Reg.eval_const]; rfl) ⟨_, rfl, Bel.refl W, rfl⟩
                | n + 18, hoi => simp at hoi
              · intro a wz hW hsize hdef got same did
                have ha := Reg.act_of [55, 56, 57, 58, 59, 60, 61, 62, 63, 64, 65, 66, 67, 68, 69, 70, 71, 4] hsize hdef same (by kernel_rfl)
                simp only [List.foldl_cons, List.foldl_nil] at ha
                generalize a.tmps.getD 55 undef = y55 at ha
                generalize a.tmps.getD 56 undef = y56 at ha
                generalize a.tmps.getD 57 undef = y57 at ha
                generalize a.tmps.getD 58 undef = y58 at ha
                generalize a.tmps.getD 59 undef = y59 at ha
                generalize a.tmps.getD 60 undef = y60 at ha
                generalize a.tmps.getD 61 undef = y61 at ha
                generalize a.tmps.getD 62 undef = y62 at ha
                generalize a.tmps.getD 63 undef = y63 at ha
                generalize a.tmps.getD 64 undef = y64 at ha
                generalize a.tmps.getD 65 undef = y65 at ha
                generalize a.tmps.getD 66 undef = y66 at ha
                generalize a.tmps.getD 67 undef = y67 at ha
                generalize a.tmps.getD 68 undef = y68 at ha
                generalize a.tmps.getD 69 undef = y69 at ha
                generalize a.tmps.getD 70 undef = y70 at ha
                generalize a.tmps.getD 71 undef = y71 at ha
                have k4 := got 17 _ 4 rfl rfl
                simp only at k4
                rw [k4] at ha
                clear k4
                clear got same hsize hdef did
                subst ha
                simp only [List.setIfInBounds_toArray, List.set_cons_zero, List.set_cons_succ]
                go_wp2
                go_ret
                exact ⟨rfl, bthen HX9.out.1 hW⟩
            · have hd : decide (nsize leaf l ≤ 512) = false := by simpa using hfit
              rw [hd] at HS50
              have hnil : nbytes leaf right l = [] := by unfold MOct.nbytes; rw [if_neg (fun h => hfit h.2)]
              have HNIL := Lib.hid hnil
              clear hgv hnk hfit hd hnil
              go_wp2_with (first
                | (go_at_call 24; refine (lives09 _).mono ?_; rintro e w1 ⟨rfl, hb⟩; have hx := HX.out.below hb; have a0 := hx.cell (i := 0) rfl; have a1 := hx.cell (i := 1) rfl; have a2 := hx.cell (i := 2) rfl; have HX := Lib.hid hx; clear hx hb)
                | (go_at_call 50; refine (HS50.out _ HX.out.1).mono ?_; rintro e w1 ⟨rfl, hb⟩; have hx := HX.out.below hb; have a0 := hx.cell (i := 0) rfl; have a1 := hx.cell (i := 1) rfl; have a2 := hx.cell (i := 2) rfl; have HX := Lib.hid hx; clear hx hb)
                | (go_at_call 47; refine (HS47.out _ HX.out.1).mono ?_; rintro e w1 ⟨rfl, hb⟩; have hx := HX.out.below hb; have a0 := hx.cell (i := 0) rfl; have a1 := hx.cell (i := 1) rfl; have a2 := hx.cell (i := 2) rfl; have HX := Lib.hid hx; clear hx hb)
                | (go_at_call 51; refine (HS51.out _ HX.out.1).mono ?_; rintro e w1 ⟨v1, rfl, hr1, hn1, hb⟩; obtain rfl := hn1 HNIL.out; clear hr1 hn1; have hx := HX.out.below hb; have a0 := hx.cell (i := 0) rfl; have a1 := hx.cell (i := 1) rfl; have a2 := hx.cell (i := 2) rfl; have HX := Lib.hid hx; clear hx hb))
              go_ret
              exact ⟨rfl, HX.out.1⟩
end Go.Proofs.Ytlfcgicobhalmaa.K
