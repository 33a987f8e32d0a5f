/- Layer 9's law: plain; the reference's Zig, Zag, Local and right, walked. -/
import Derived.Test.YtlfcgicobhalmaaBase2
import Derived.Test.YtlfcgicobhalmaaWSrc2
import Derived.Test.YtlfcgicobhalmaaWZig
import Derived.Test.YtlfcgicobhalmaaWLaw02
import Derived.Test.YtlfcgicobhalmaaMNode
import Derived.Test.YtlfcgicobhalmaaOps
import Derived.Test.YtlfcgicobhalmaaRegGen
import Derived.Test.YtlfcgicobhalmaaWZeros
import Derived.Test.YtlfcgicobhalmaaWRow
import Derived.Test.YtlfcgicobhalmaaWCell
import Derived.Test.YtlfcgicobhalmaaWCellG
namespace Go.Proofs.Ytlfcgicobhalmaa.K
open Go Go.RowKit Go.Proofs.YtlfcgicobhalmaaW.PrintWords Go.Proofs.YtlfcgicobhalmaaW.PrintLast Go.Proofs.YtlfcgicobhalmaaW.PrintMore
set_option linter.unusedVariables false
set_option linter.unusedSimpArgs false
open Go.Proofs.Ytlfcgicobhalmaa.MOct (W V tk sz vr num head getV le be many putL)
open Go.Proofs.Ytlfcgicobhalmaa.MOct (Cel isPageV localV spillsV insideV leafyV mayV goodFrom goodV u64 csize cbytes nsize nbody nbytes findV)

theorem infoC92 : (Try.prog.info? 92).map (fun i => (i.zero, i.size, i.bytes)) = some (some (.agg #[.int .i64 0, .int .i64 0, .int .i64 0, .slice none 0 0, .int .i64 0]), 5, 56) := by kernel_rfl
theorem cel_K {w : World} {key child len next : Int} {loc : List Int} {AB : Option Addr} {cB : Nat} (h : CB w AB loc) (hc : loc.length ≤ cB) : KC9.K w (key, child, len, loc, next) [.int .i64 key, .int .i64 child, .int .i64 len, .slice AB loc.length cB, .int .i64 next] :=
  ⟨_, _, rfl, rfl, _, _, rfl, rfl, _, _, rfl, rfl, _, _, rfl, ⟨_, _, rfl, hc, h⟩, rfl⟩
section
variable {ops : Array Oper} {rest : List Oper} {o : Oper} {a : Act} {Q : Exit → Act → World → Prop}
theorem appCel {w0 W : World} (s x : Operand) (hgd : o.guard = none) (ho : o.op = .call { callee := .builtin .append, args := #[s, x], argTypes := #[58, 58] })
    (v : Value) (xs : List Cel) (key child len next : Int) (loc : List Int) (AB : Option Addr) (cB : Nat) (hs : a.eval s = v) (hx : a.eval x = .slice (some ⟨W.heap.size, 0, none⟩) 1 1) (hK : KC9.K w0 (key, child, len, loc, next) [.int .i64 key, .int .i64 child, .int .i64 len, .slice AB loc.length cB, .int .i64 next])
    (HO : RP KC9 92 w0 W v xs) (HB : Below w0.heap.size w0 W) (hl : (xs.length + 1) * 56 ≤ 140737488355328)
    (h : ∀ v1 w1, Hid (RP KC9 92 w0 w1 v1 (xs ++ [(key, child, len, loc, next)])) → Hid (Below w0.heap.size w0 w1 ∧ W.grownBy w1 v.ownBlock) → wpList Try.prog ops Q rest (a.put o.dst v1) w1) :
    wpList Try.prog ops Q (o :: rest) a (W.alloc (.cells #[.int .i64 key, .int .i64 child, .int .i64 len, .slice AB loc.length cB, .int .i64 next] 92)) :=
  appP KC9 (w0 := w0) s x 58 92 (.agg #[.int .i64 0, .int .i64 0, .int .i64 0, .slice none 0 0, .int .i64 0]) 56 hgd ho Try.underlying58 infoC92 rfl (by decide) (by decide) v xs (key, child, len, loc, next) _ hs hx hK HO HB hl h
end
set_option maxHeartbeats 1000000 in
set_option maxRecDepth 100000 in
theorem plain_calls (leaf : Bool) (right : Int) (l : List Cel) (A : Option Addr) (cap : Nat) (w : World) (hC : KC9.C w A l.length l) (hc : l.length ≤ cap) (hl : l.length ≤ 100000) :
    Calls Try.prog 35 #[.agg #[.bool leaf, .int .i64 right, .slice A l.length cap]] w fun e w' => ∃ A' c', e = .returned (.agg #[.bool leaf, .int .i64 right, .slice A' l.length c']) ∧ l.length ≤ c' ∧ KC9.C w' A' l.length l ∧ Below w.heap.size w w' := by
  have HC := Lib.hid hC
  clear hC
  go_enter Try.func35, Try.ntmps35
  go_upto_region 3 with (fail)
  generalize hW0 : ((w.alloc (Obj.cells #[Value.bool leaf, Value.int IntKind.i64 right, Value.slice A l.length cap] 55)).alloc (Obj.cells #[Value.bool false, Value.int IntKind.i64 0, Value.slice none 0 0] 60)).alloc (Obj.cells #[Value.bool leaf, Value.int IntKind.i64 right, Value.slice none 0 0] 60) = W0
  obtain ⟨q1, q2, q3⟩ := three w (Obj.cells #[Value.bool leaf, Value.int IntKind.i64 right, Value.slice A l.length cap] 55) (Obj.cells #[Value.bool false, Value.int IntKind.i64 0, Value.slice none 0 0] 60) (Obj.cells #[Value.bool leaf, Value.int IntKind.i64 right, Value.slice none 0 0] 60)
  have hb0 : Below w.heap.size w W0 := by subst hW0; exact (((Below.refl _ _).alloc (Nat.le_refl _) _).alloc (by simp) _).alloc (by simp; omega) _
  rw [hW0] at q1 q2 q3
  obtain ⟨g2, hg2⟩ : ∃ g2, w.heap.size + 1 = g2 := ⟨_, rfl⟩
  obtain ⟨g3, hg3⟩ : ∃ g3, g2 + 1 = g3 := ⟨_, rfl⟩
  rw [hg2] at q2 q3 ⊢
  rw [hg3] at q3 ⊢
  have HI0 : Hid (Below w.heap.size w W0 ∧ W0.heap[g3]? = some (.cells #[.bool leaf, .int .i64 right, .slice none 0 0] 60 (0, 0)) ∧ W0.heap[g2]? = some (.cells #[.bool false, .int .i64 0, .slice none 0 0] 60 (0, 0)) ∧ RP KC9 92 w W0 (.slice none 0 0) (l.take 0)) := Lib.hid ⟨hb0, q3, q2, RP.nil _ _ _ _⟩
  have HGG : Hid (w.heap.size ≤ g2 ∧ g2 ≠ g3 ∧ w.heap.size ≤ g3) := Lib.hid (by omega)
  clear hW0 q1 q2 q3 hb0 hg2 hg3
  go_loopw [14] (fun i wr => ∃ (k : Nat) (v : Value), i = .int .i64 k ∧ k ≤ l.length ∧ Hid (Below w.heap.size w wr ∧ wr.heap[g3]? = some (.cells #[.bool leaf, .int .i64 right, v] 60 (0, 0)) ∧ wr.heap[g2]? = some (.cells #[.bool false, .int .i64 0, .slice none 0 0] 60 (0, 0)) ∧ RP KC9 92 w wr v (l.take k))) (fun i _ => l.length - (intOf i).toNat)
  case atStart => exact ⟨0, _, rfl, by omega, HI0⟩
  case round =>
    obtain ⟨k, v, rfl, hk, HI⟩ := hrel
    by_cases hlt : k < l.length
    · obtain ⟨ad, rfl, key, child, len, loc, next, AB, cB, hget, x0, x1, x2, x3, x4, hcB, hCB⟩ := cel_at HC.out k hlt
      have HGT := Lib.hid hget
      have HK := Lib.hid (cel_K (key := key) (child := child) (len := len) (next := next) hCB hcB)
      have y0 := pw_cell_below HI.out.1 x0
      have y1 := pw_cell_below HI.out.1 x1
      have y2 := pw_cell_below HI.out.1 x2
      have y3 := pw_cell_below HI.out.1 x3
      have y4 := pw_cell_below HI.out.1 x4
      clear hget hCB hcB x0 x1 x2 x3 x4
      go_upto_region 5 with (fail)
      generalize hW5 : wr.alloc (Obj.cells #[Value.int IntKind.i64 key, Value.int IntKind.i64 child, Value.int IntKind.i64 len, Value.slice AB loc.length cB, Value.int IntKind.i64 next] 87) = W5
      have hb5 : Below wr.heap.size wr W5 := by subst hW5; exact (Below.refl _ _).alloc (Nat.le_refl _) _
      have hbx : W5.heap[wr.heap.size]? = some (.cells #[Value.int IntKind.i64 key, Value.int IntKind.i64 child, Value.int IntKind.i64 len, Value.slice AB loc.length cB, Value.int IntKind.i64 next] 87 (0, 0)) := by subst hW5; exact heap_alloc_new wr _
      obtain ⟨g5, hg5⟩ : ∃ g5, wr.heap.size = g5 := ⟨_, rfl⟩
      rw [hg5] at hbx ⊢
      have z0 : W5.cell? ⟨g5, 0, none⟩ = some (.int .i64 key) := cell_of_row W5 g5 0 _ 87 (0, 0) hbx
      have z1 : W5.cell? ⟨g5, 1, none⟩ = some (.int .i64 child) := cell_of_row W5 g5 1 _ 87 (0, 0) hbx
      have z2 : W5.cell? ⟨g5, 2, none⟩ = some (.int .i64 len) := cell_of_row W5 g5 2 _ 87 (0, 0) hbx
      have z3 : W5.cell? ⟨g5, 3, none⟩ = some (.slice AB loc.length cB) := cell_of_row W5 g5 3 _ 87 (0, 0) hbx
      have z4 : W5.cell? ⟨g5, 4, none⟩ = some (.int .i64 next) := cell_of_row W5 g5 4 _ 87 (0, 0) hbx
      obtain ⟨i1, i2, i3, i4⟩ := HI.out
      have j2 : W5.heap[g3]? = _ := (hb5.block _ (blk_lt i2)).trans i2
      have j3 : W5.heap[g2]? = _ := (hb5.block _ (blk_lt i3)).trans i3
      have n2 : W5.cell? ⟨g3, 2, none⟩ = some v := cell_of_row W5 g3 2 _ 60 (0, 0) j2
      have HJ2 := Lib.hid j2
      have HJ3 := Lib.hid j3
      have HR5 := Lib.hid (i4.below hb5)
      have HB5 := Lib.hid (bthen i1 hb5)
      have HLT : Hid (((l.take k).length + 1) * 56 ≤ 140737488355328) := Lib.hid (by rw [List.length_take]; omega)
      clear hW5 hb5 hg5 hbx i1 i2 i3 i4 j2 j3 y0 y1 y2 y3 y4 HI
      go_wp2_with (at_builtin; refine appCel (w0 := w) _ _ rfl rfl v (l.take k) key child len next loc AB cB rfl rfl HK.out HR5.out HB5.out HLT.out ?_; intro v7 w7 HO7 HB7; obtain ⟨A7, c7, e7, _, _⟩ := HO7.out.reads HB7.out.1; obtain ⟨m7, hm7⟩ : ∃ m, (l.take k ++ [(key, child, len, loc, next)]).length = m := ⟨_, rfl⟩; rw [hm7] at e7; subst e7; clear hm7; have p2 : w7.heap[g3]? = _ := (HB7.out.2.block _ (blk_lt HJ2.out) (HR5.out.ne HJ2.out (by decide))).trans HJ2.out; have p3 : w7.heap[g2]? = _ := (HB7.out.2.block _ (blk_lt HJ3.out) (HR5.out.ne HJ3.out (by decide))).trans HJ3.out; have f2 : w7.frozen? ⟨g3, 2, none⟩ = false := blk_frozen p2 2; have n7 : w7.cell? ⟨g3, 2, none⟩ = some v := cell_of_row w7 g3 2 _ 60 (0, 0) p2; have HP2 := Lib.hid p2; have HP3 := Lib.hid p3; clear p2 p3)
      go_roundw
      case rel =>
        refine ⟨k + 1, .slice A7 m7 c7, by go_num, by omega, Lib.hid ⟨below_set HB7.out.1 HGG.out.2.2, ?_, ?_, ?_⟩⟩
        · have := heap_set w7 g3 2 60 _ (.slice A7 m7 c7) HP2.out
          simpa using this
        · exact blk_far HP3.out (fun e => HGG.out.2.1 e) _
        · have h1 := HO7.out.setCell (p := ⟨g3, 2, none⟩) (HO7.out.ne HP2.out (by decide)) (.slice A7 m7 c7)
          rw [List.take_add_one, HGT.out]
          exact h1
      case measure => (simp [intOf] <;> omega)
    · have hkl : k = l.length := by omega
      obtain ⟨i1, i2, i3, i4⟩ := HI.out
      rw [hkl, List.take_length] at i4
      obtain ⟨A7, c7, rfl, h7, hC7⟩ := i4.reads i1
      have n0 : wr.cell? ⟨g3, 0, none⟩ = some (.bool leaf) := cell_of_row wr g3 0 _ 60 (0, 0) i2
      have n1 : wr.cell? ⟨g3, 1, none⟩ = some (.int .i64 right) := cell_of_row wr g3 1 _ 60 (0, 0) i2
      have n2 : wr.cell? ⟨g3, 2, none⟩ = some (.slice A7 l.length c7) := cell_of_row wr g3 2 _ 60 (0, 0) i2
      have m0 : wr.cell? ⟨g2, 0, none⟩ = some (.bool false) := cell_of_row wr g2 0 _ 60 (0, 0) i3
      have m1 : wr.cell? ⟨g2, 1, none⟩ = some (.int .i64 0) := cell_of_row wr g2 1 _ 60 (0, 0) i3
      have m2 : wr.cell? ⟨g2, 2, none⟩ = some (.slice none 0 0) := cell_of_row wr g2 2 _ 60 (0, 0) i3
      have f0 := blk_frozen i3 0
      have f1 := blk_frozen i3 1
      have f2 := blk_frozen i3 2
      have HI3 := Lib.hid i3
      have HI4 := Lib.hid i4
      have HI1 := Lib.hid i1
      clear i1 i2 i3 i4 HI hkl hC7
      go_wp2
      generalize hWF : ((wr.setCell ⟨g2, 0, none⟩ (Value.bool leaf)).setCell ⟨g2, 1, none⟩ (Value.int IntKind.i64 right)).setCell ⟨g2, 2, none⟩ (Value.slice A7 l.length c7) = WF
      have hF : WF.heap[g2]? = some (.cells #[.bool leaf, .int .i64 right, .slice A7 l.length c7] 60 (0, 0)) := by
        have e1 := heap_set wr g2 0 60 _ (.bool leaf) HI3.out
        have e2 := heap_set _ g2 1 60 _ (.int .i64 right) e1
        have e3 := heap_set _ g2 2 60 _ (.slice A7 l.length c7) e2
        rw [hWF] at e3
        simpa using e3
      have hR : RP KC9 92 w WF (.slice A7 l.length c7) l := by
        rw [← hWF]
        have hne := HI4.out.ne HI3.out (by decide)
        exact ((HI4.out.setCell (p := ⟨g2, 0, none⟩) hne _).setCell (p := ⟨g2, 1, none⟩) hne _).setCell (p := ⟨g2, 2, none⟩) hne _
      have hB : Below w.heap.size w WF := by
        rw [← hWF]
        exact below_set (below_set (below_set HI1.out HGG.out.1) HGG.out.1) HGG.out.1
      obtain ⟨A8, c8, e8, h8, hC8⟩ := hR.reads hB
      injection e8 with e81 e82 e83
      subst e81
      refine bodyPost_ret (results_cell_row rfl _ _ g2 60 #[.bool leaf, .int .i64 right, .slice A7 l.length c7] (0, 0) _ rfl hF Try.underlying60 rfl (by kernel_rfl)) rfl ?_
      exact ⟨A7, c7, rfl, h7, hC8, hB⟩
theorem page_calls (n : Int) (w : World) : Calls Try.prog 62 #[.int .i64 n] w fun e w' => e = .returned (.bool (isPageV n)) ∧ w = w' := by
  unfold isPageV
  by_cases h1 : 1 ≤ n
  · have e1 : decide (1 ≤ n) = true := by simpa using h1
    rw [e1]
    go_enter Try.func62, Try.ntmps62
    go_wp2
    go_ret
    exact ⟨rfl, rfl⟩
  · have e1 : decide (1 ≤ n) = false := by simpa using h1
    rw [e1]
    go_enter Try.func62, Try.ntmps62
    go_wp2
    go_ret
    exact ⟨rfl, rfl⟩
theorem Local43_calls (n : Int) (w : World) : Calls Try.prog 43 #[.int .i64 n] w fun e w' => e = .returned (.int .i64 (localV n)) ∧ w = w' := by
  unfold localV
  by_cases h1 : n < 0
  · rw [if_pos (.inl h1)]
    go_enter Try.func43, Try.ntmps43
    go_wp2
    go_ret
    exact ⟨rfl, rfl⟩
  · by_cases h2 : n > 20000
    · rw [if_pos (.inr h2)]
      go_enter Try.func43, Try.ntmps43
      go_wp2
      go_ret
      exact ⟨rfl, rfl⟩
    · rw [if_neg (by omega)]
      by_cases h3 : n > 96
      · rw [if_pos h3]
        go_enter Try.func43, Try.ntmps43
        go_wp2
        go_ret
        exact ⟨rfl, rfl⟩
      · rw [if_neg h3]
        go_enter Try.func43, Try.ntmps43
        go_wp2
        go_ret
        exact ⟨rfl, rfl⟩

set_option maxRecDepth 100000 in
theorem Zig40_calls (n : Int) (w : World) (h0 : -9223372036854775808 ≤ n) (h1 : n < 9223372036854775808) : Calls Try.prog 40 #[.int .i64 n] w fun e w' => e = .returned (.int .u64 (MOct.zig n)) ∧ w = w' := by
  by_cases hn : n < 0
  · have e : MOct.zig n = -2 * n - 1 := by unfold MOct.zig; rw [if_neg (by omega)]
    rw [e]
    go_enter Try.func40, Try.ntmps40
    go_wp2
    go_ret
    refine ⟨?_, rfl⟩
    show Ending.returned (Value.int .u64 (2 * -(n + 1) + 1)) = _
    congr 2
    omega
  · have e : MOct.zig n = 2 * n := by unfold MOct.zig; rw [if_pos (by omega)]
    rw [e]
    go_enter Try.func40, Try.ntmps40
    go_wp2
    go_ret
    exact ⟨rfl, rfl⟩
set_option maxRecDepth 100000 in
theorem Zag41_calls (z : Int) (w : World) (h0 : 0 ≤ z) (h1 : z < 18446744073709551616) : Calls Try.prog 41 #[.int .u64 z] w fun e w' => e = .returned (.int .i64 (MOct.zag z)) ∧ w = w' := by
  by_cases hz : z % 2 = 1
  · have e : MOct.zag z = -(z / 2) - 1 := by unfold MOct.zag; rw [if_neg (by omega)]
    rw [e]
    have b1 : (z % 2 == 1) = true := by simpa using hz
    go_enter Try.func41, Try.ntmps41
    go_wp2
    go_ret
    exact ⟨rfl, rfl⟩
  · have e : MOct.zag z = z / 2 := by unfold MOct.zag; rw [if_pos (by omega)]
    rw [e]
    have b1 : (z % 2 == 1) = false := by simpa using hz
    go_enter Try.func41, Try.ntmps41
    go_wp2
    go_ret
    exact ⟨rfl, rfl⟩

set_option maxHeartbeats 1000000 in
theorem right_inside (c : Cel) (A : Option Addr) (cap : Nat) (w : World) : Calls Try.prog 63 #[.agg (CelC c A cap), .bool false] w fun e w' => e = .returned (.bool (insideV c)) ∧ Below w.heap.size w w' := by
  obtain ⟨key, child, len, loc, next⟩ := c
  unfold insideV CelC
  simp only
  cases h1 : isPageV child
  all_goals
    have hp := page_calls child
    rw [h1] at hp
    have HP := Lib.hid hp
    clear hp h1
  · go_enter Try.func63, Try.ntmps63
    go_wp2_with (go_at_call 62; refine (HP.out _).mono ?_; rintro e w0 ⟨rfl, rfl⟩)
    go_ret
    exact ⟨rfl, (Below.refl _ _).alloc (Nat.le_refl _) _⟩
  · by_cases h2 : len = 0
    · subst h2
      by_cases h3 : next = 0
      · subst h3
        go_enter Try.func63, Try.ntmps63
        go_wp2_with (go_at_call 62; refine (HP.out _).mono ?_; rintro e w0 ⟨rfl, rfl⟩)
        go_ret
        exact ⟨by simp, (Below.refl _ _).alloc (Nat.le_refl _) _⟩
      · go_enter Try.func63, Try.ntmps63
        go_wp2_with (go_at_call 62; refine (HP.out _).mono ?_; rintro e w0 ⟨rfl, rfl⟩)
        go_ret
        exact ⟨by simp [h3], (Below.refl _ _).alloc (Nat.le_refl _) _⟩
    · go_enter Try.func63, Try.ntmps63
      go_wp2_with (go_at_call 62; refine (HP.out _).mono ?_; rintro e w0 ⟨rfl, rfl⟩)
      go_ret
      exact ⟨by simp [h2], (Below.refl _ _).alloc (Nat.le_refl _) _⟩

set_option maxHeartbeats 1000000 in
theorem right_leafy (c : Cel) (A : Option Addr) (cap : Nat) (w : World) : Calls Try.prog 63 #[.agg (CelC c A cap), .bool true] w fun e w' => e = .returned (.bool (leafyV c)) ∧ Below w.heap.size w w' := by
  obtain ⟨key, child, len, loc, next⟩ := c
  have HL := Lib.hid (Local43_calls len)
  have HP := Lib.hid (page_calls next)
  unfold leafyV spillsV
  unfold CelC
  obtain ⟨lv, hlv⟩ : ∃ lv, localV len = lv := ⟨_, rfl⟩
  obtain ⟨pv, hpv⟩ : ∃ pv, isPageV next = pv := ⟨_, rfl⟩
  rw [hlv] at HL
  rw [hpv] at HP
  simp only [hlv, hpv] at *
  clear hlv hpv
  by_cases h1 : child = 0
  · subst h1
    by_cases h2 : len < 0
    · have e : decide (0 ≤ len) = false := by simp; omega
      rw [e]
      go_enter Try.func63, Try.ntmps63
      go_upto_region 3 with (fail)
      go_quiet ((go_at_call 43; exact (HL.out _).mono fun e w0 h => ⟨h.1, _, h.2.symm⟩))
      go_wp2
      all_goals
        go_ret
        exact ⟨by simp [], (by first | exact (Below.refl _ _).alloc (Nat.le_refl _) _ | exact pw_below_drewN ((Below.refl _ _).alloc (Nat.le_refl _) _) _)⟩
    · by_cases h3 : len > 20000
      · have e : decide (len ≤ 20000) = false := by simp; omega
        rw [e]
        go_enter Try.func63, Try.ntmps63
        go_upto_region 3 with (fail)
        go_quiet ((go_at_call 43; exact (HL.out _).mono fun e w0 h => ⟨h.1, _, h.2.symm⟩))
        go_wp2
        all_goals
          go_ret
          exact ⟨by simp [], (by first | exact (Below.refl _ _).alloc (Nat.le_refl _) _ | exact pw_below_drewN ((Below.refl _ _).alloc (Nat.le_refl _) _) _)⟩
      · have e : decide (0 ≤ len) = true := by simp; omega
        have e2 : decide (len ≤ 20000) = true := by simp; omega
        rw [e, e2]
        by_cases h4 : (loc.length : Int) = lv
        · have b4 : ((loc.length : Int) != lv) = false := by simpa using h4
          have e3 : decide ((loc.length : Int) = lv) = true := by simpa using h4
          rw [e3]
          clear h4 e3
          by_cases h6 : (loc.length : Int) < len
          · have e6 : decide ((loc.length : Int) < len) = true := by simpa using h6
            rw [e6]
            clear e6
            go_enter Try.func63, Try.ntmps63
            go_upto_region 3 with (fail)
            go_quiet ((go_at_call 43; exact (HL.out _).mono fun e w0 h => ⟨h.1, _, h.2.symm⟩))
            go_wp2_with (go_at_call 62; refine (HP.out _).mono ?_; rintro e w1 ⟨rfl, rfl⟩)
            all_goals (go_ret; exact ⟨by simp, (by first | exact (Below.refl _ _).alloc (Nat.le_refl _) _ | exact pw_below_drewN ((Below.refl _ _).alloc (Nat.le_refl _) _) _)⟩)
          · have e6 : decide ((loc.length : Int) < len) = false := by simpa using h6
            rw [e6]
            clear e6
            by_cases h5 : next = 0
            · subst h5
              go_enter Try.func63, Try.ntmps63
              go_upto_region 3 with (fail)
              go_quiet ((go_at_call 43; exact (HL.out _).mono fun e w0 h => ⟨h.1, _, h.2.symm⟩))
              go_wp2_with (go_at_call 62; refine (HP.out _).mono ?_; rintro e w1 ⟨rfl, rfl⟩)
              all_goals (go_ret; exact ⟨by simp, (by first | exact (Below.refl _ _).alloc (Nat.le_refl _) _ | exact pw_below_drewN ((Below.refl _ _).alloc (Nat.le_refl _) _) _)⟩)
            · have b5 : (next == 0) = false := by simpa using h5
              have HN := Lib.hid h5
              clear h5
              go_enter Try.func63, Try.ntmps63
              go_upto_region 3 with (fail)
              go_quiet ((go_at_call 43; exact (HL.out _).mono fun e w0 h => ⟨h.1, _, h.2.symm⟩))
              go_wp2_with (go_at_call 62; refine (HP.out _).mono ?_; rintro e w1 ⟨rfl, rfl⟩)
              all_goals (go_ret; exact ⟨by simp [HN.out], (by first | exact (Below.refl _ _).alloc (Nat.le_refl _) _ | exact pw_below_drewN ((Below.refl _ _).alloc (Nat.le_refl _) _) _)⟩)
        · have b4 : ((loc.length : Int) != lv) = true := by simpa using h4
          have e3 : decide ((loc.length : Int) = lv) = false := by simpa using h4
          rw [e3]
          clear h4 e3
          go_enter Try.func63, Try.ntmps63
          go_upto_region 3 with (fail)
          go_quiet ((go_at_call 43; exact (HL.out _).mono fun e w0 h => ⟨h.1, _, h.2.symm⟩))
          go_wp2
          all_goals
            go_ret
            exact ⟨by simp [], (by first | exact (Below.refl _ _).alloc (Nat.le_refl _) _ | exact pw_below_drewN ((Below.refl _ _).alloc (Nat.le_refl _) _) _)⟩
  · skip
    go_enter Try.func63, Try.ntmps63
    go_upto_region 3 with (fail)
    go_quiet ((go_at_call 43; exact (HL.out _).mono fun e w0 h => ⟨h.1, _, h.2.symm⟩))
    go_wp2
    all_goals
      go_ret
      exact ⟨by simp [h1], (by first | exact (Below.refl _ _).alloc (Nat.le_refl _) _ | exact pw_below_drewN ((Below.refl _ _).alloc (Nat.le_refl _) _) _)⟩
theorem right_calls (leaf : Bool) (c : Cel) (A : Option Addr) (cap : Nat) (w : World) : Calls Try.prog 63 #[.agg (CelC c A cap), .bool leaf] w fun e w' => e = .returned (.bool (mayV leaf c)) ∧ Below w.heap.size w w' := by
  cases leaf
  · exact right_inside c A cap w
  · exact right_leafy c A cap w
end Go.Proofs.Ytlfcgicobhalmaa.K
