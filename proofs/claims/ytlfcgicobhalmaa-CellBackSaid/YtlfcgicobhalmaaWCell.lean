/- Layer 9's cells, walked (this text's numbers are those of the seat that holds layer 9). -/
import Derived.Test.YtlfcgicobhalmaaBase2
import Derived.Test.YtlfcgicobhalmaaWZig
import Derived.Test.YtlfcgicobhalmaaWLaw02
import Derived.Test.YtlfcgicobhalmaaMNode
import Derived.Test.YtlfcgicobhalmaaOps
import Derived.Test.YtlfcgicobhalmaaRegGen
import Derived.Test.YtlfcgicobhalmaaWZeros
namespace Go.Proofs.Ytlfcgicobhalmaa.K
open Go Go.RowKit Go.Proofs.YtlfcgicobhalmaaW.PrintWords Go.Proofs.YtlfcgicobhalmaaW.PrintLast Go.Proofs.YtlfcgicobhalmaaW.PrintMore
set_option linter.unusedVariables false
set_option linter.unusedSimpArgs false
open Go.Proofs.Ytlfcgicobhalmaa.MOct (W V tk sz vr num head getV le be many putL)
open Go.Proofs.Ytlfcgicobhalmaa.MOct (Cel isPageV localV spillsV insideV leafyV mayV goodFrom goodV u64 csize cbytes nsize nbody nbytes findV)

/-- A cell's cells in memory. -/
def CelC (c : Cel) (A : Option Addr) (cap : Nat) : Array Value := #[.int .i64 c.1, .int .i64 c.2.1, .int .i64 c.2.2.1, .slice A c.2.2.2.1.length cap, .int .i64 c.2.2.2.2]
theorem isPage_calls (n : Int) (w : World) : Calls Try.prog 74 #[.int .i64 n] w fun e w' => e = .returned (.bool (isPageV n)) ∧ w = w' := by
  unfold isPageV
  by_cases h1 : 1 ≤ n
  · have e1 : decide (1 ≤ n) = true := by simpa using h1
    rw [e1]
    go_enter Try.func74, Try.ntmps74
    go_wp2
    go_ret
    exact ⟨rfl, rfl⟩
  · have e1 : decide (1 ≤ n) = false := by simpa using h1
    rw [e1]
    go_enter Try.func74, Try.ntmps74
    go_wp2
    go_ret
    exact ⟨rfl, rfl⟩
theorem Local_calls (n : Int) (w : World) : Calls Try.prog 42 #[.int .i64 n] w fun e w' => e = .returned (.int .i64 (localV n)) ∧ w = w' := by
  unfold localV
  by_cases h1 : n < 0
  · rw [if_pos (.inl h1)]
    go_enter Try.func42, Try.ntmps42
    go_wp2
    go_ret
    exact ⟨rfl, rfl⟩
  · by_cases h2 : n > 20000
    · rw [if_pos (.inr h2)]
      go_enter Try.func42, Try.ntmps42
      go_wp2
      go_ret
      exact ⟨rfl, rfl⟩
    · rw [if_neg (by omega)]
      by_cases h3 : n > 96
      · rw [if_pos h3]
        go_enter Try.func42, Try.ntmps42
        go_wp2
        go_ret
        exact ⟨rfl, rfl⟩
      · rw [if_neg h3]
        go_enter Try.func42, Try.ntmps42
        go_wp2
        go_ret
        exact ⟨rfl, rfl⟩
theorem spills_calls (c : Cel) (A : Option Addr) (cap : Nat) (w : World) : Calls Try.prog 82 #[.agg (CelC c A cap)] w fun e w' => e = .returned (.bool (spillsV c)) ∧ Below w.heap.size w w' := by
  obtain ⟨key, child, len, loc, next⟩ := c
  unfold spillsV CelC
  go_enter Try.func82, Try.ntmps82
  go_wp2
  go_ret
  exact ⟨rfl, (Below.refl _ _).alloc (Nat.le_refl _) _⟩
theorem inside_calls (c : Cel) (A : Option Addr) (cap : Nat) (w : World) : Calls Try.prog 72 #[.agg (CelC c A cap)] w fun e w' => e = .returned (.bool (insideV c)) ∧ Below w.heap.size w w' := by
  obtain ⟨key, child, len, loc, next⟩ := c
  unfold insideV CelC
  simp only
  cases h1 : isPageV child
  all_goals
    have hp := isPage_calls child
    rw [h1] at hp
    have HP := Lib.hid hp
    clear hp h1
  · go_enter Try.func72, Try.ntmps72
    go_wp2_with (go_at_call 74; refine (HP.out _).mono ?_; rintro e w0 ⟨rfl, rfl⟩)
    go_ret
    exact ⟨rfl, (Below.refl _ _).alloc (Nat.le_refl _) _⟩
  · by_cases h2 : len = 0
    · subst h2
      by_cases h3 : next = 0
      · subst h3
        go_enter Try.func72, Try.ntmps72
        go_wp2_with (go_at_call 74; refine (HP.out _).mono ?_; rintro e w0 ⟨rfl, rfl⟩)
        go_ret
        exact ⟨by simp, (Below.refl _ _).alloc (Nat.le_refl _) _⟩
      · go_enter Try.func72, Try.ntmps72
        go_wp2_with (go_at_call 74; refine (HP.out _).mono ?_; rintro e w0 ⟨rfl, rfl⟩)
        go_ret
        exact ⟨by simp [h3], (Below.refl _ _).alloc (Nat.le_refl _) _⟩
    · go_enter Try.func72, Try.ntmps72
      go_wp2_with (go_at_call 74; refine (HP.out _).mono ?_; rintro e w0 ⟨rfl, rfl⟩)
      go_ret
      exact ⟨by simp [h2], (Below.refl _ _).alloc (Nat.le_refl _) _⟩

set_option maxHeartbeats 1000000 in
theorem leafy_calls (c : Cel) (A : Option Addr) (cap : Nat) (w : World) : Calls Try.prog 73 #[.agg (CelC c A cap)] w fun e w' => e = .returned (.bool (leafyV c)) ∧ Below w.heap.size w w' := by
  have HS := Lib.hid (spills_calls c A cap)
  obtain ⟨key, child, len, loc, next⟩ := c
  have HL := Lib.hid (Local_calls len)
  have HP := Lib.hid (isPage_calls next)
  unfold leafyV
  unfold CelC at HS ⊢
  obtain ⟨lv, hlv⟩ : ∃ lv, localV len = lv := ⟨_, rfl⟩
  obtain ⟨sv, hsv⟩ : ∃ sv, spillsV (key, child, len, loc, next) = sv := ⟨_, rfl⟩
  obtain ⟨pv, hpv⟩ : ∃ pv, isPageV next = pv := ⟨_, rfl⟩
  rw [hlv] at HL
  rw [hsv] at HS
  rw [hpv] at HP
  simp only [hlv, hsv, hpv] at *
  clear hlv hsv hpv
  by_cases h1 : child = 0
  · subst h1
    by_cases h2 : len < 0
    · have e : decide (0 ≤ len) = false := by simp; omega
      rw [e]
      go_enter Try.func73, Try.ntmps73
      go_upto_region 1 with (fail)
      go_quiet ((go_at_call 42; exact (HL.out _).mono fun e w0 h => ⟨h.1, _, h.2.symm⟩))
      go_wp2
      all_goals
        go_ret
        exact ⟨by simp [], (by first | exact (Below.refl _ _).alloc (Nat.le_refl _) _ | exact pw_below_drewN ((Below.refl _ _).alloc (Nat.le_refl _) _) _)⟩
    · by_cases h3 : len > 20000
      · have e : decide (len ≤ 20000) = false := by simp; omega
        rw [e]
        go_enter Try.func73, Try.ntmps73
        go_upto_region 1 with (fail)
        go_quiet ((go_at_call 42; exact (HL.out _).mono fun e w0 h => ⟨h.1, _, h.2.symm⟩))
        go_wp2
        all_goals
          go_ret
          exact ⟨by simp [], (by first | exact (Below.refl _ _).alloc (Nat.le_refl _) _ | exact pw_below_drewN ((Below.refl _ _).alloc (Nat.le_refl _) _) _)⟩
      · have e : decide (0 ≤ len) = true := by simp; omega
        have e2 : decide (len ≤ 20000) = true := by simp; omega
        have d1 : decide (len < 0) = false := by simp; omega
        have d2 : decide (20000 < len) = false := by simp; omega
        have d3 : decide (len > 20000) = false := by simp; omega
        have n2 : 0 ≤ len := by omega
        have n3 : len ≤ 20000 := by omega
        rw [e, e2]
        by_cases h4 : (loc.length : Int) = lv
        · have b4 : ((loc.length : Int) != lv) = false := by simpa using h4
          have e3 : decide ((loc.length : Int) = lv) = true := by simpa using h4
          rw [e3]
          clear h4 e3
          cases sv
          · by_cases h5 : next = 0
            · subst h5
              go_enter Try.func73, Try.ntmps73
              go_upto_region 1 with (fail)
              go_quiet ((go_at_call 42; exact (HL.out _).mono fun e w0 h => ⟨h.1, _, h.2.symm⟩))
              go_wp2_with (first
                  | (go_at_call 82; refine (HS.out _).mono ?_; rintro e w1 ⟨rfl, hb1⟩; have HB1 := Lib.hid hb1; have x4 : w1.cell? ⟨w.heap.size, 4, none⟩ = some (.int .i64 0) := pw_cell_below hb1 (cell_of_row _ w.heap.size 4 _ 87 (0, 0) (heap_alloc_new w _)); clear hb1)
                  | (go_at_call 74; refine (HP.out _).mono ?_; rintro e w1 ⟨rfl, rfl⟩))
              all_goals (first | (go_ret; exact ⟨by simp, bthen (by first | exact (Below.refl _ _).alloc (Nat.le_refl _) _ | exact pw_below_drewN ((Below.refl _ _).alloc (Nat.le_refl _) _) _) HB1.out⟩) | (go_wp2_with (first | (go_at_call 82; refine (HS.out _).mono ?_; rintro e w1 ⟨rfl, hb1⟩; have HB1 := Lib.hid hb1; have x4 : w1.cell? ⟨w.heap.size, 4, none⟩ = some (.int .i64 0) := pw_cell_below hb1 (cell_of_row _ w.heap.size 4 _ 87 (0, 0) (heap_alloc_new w _)); clear hb1) | (go_at_call 74; refine (HP.out _).mono ?_; rintro e w1 ⟨rfl, rfl⟩)); all_goals (go_ret; exact ⟨by simp, bthen (by first | exact (Below.refl _ _).alloc (Nat.le_refl _) _ | exact pw_below_drewN ((Below.refl _ _).alloc (Nat.le_refl _) _) _) HB1.out⟩)))
            · have b5 : (next == 0) = false := by simpa using h5
              have HN := Lib.hid h5
              clear h5
              go_enter Try.func73, Try.ntmps73
              go_upto_region 1 with (fail)
              go_quiet ((go_at_call 42; exact (HL.out _).mono fun e w0 h => ⟨h.1, _, h.2.symm⟩))
              go_wp2_with (first
                  | (go_at_call 82; refine (HS.out _).mono ?_; rintro e w1 ⟨rfl, hb1⟩; have HB1 := Lib.hid hb1; have x4 : w1.cell? ⟨w.heap.size, 4, none⟩ = some (.int .i64 next) := pw_cell_below hb1 (cell_of_row _ w.heap.size 4 _ 87 (0, 0) (heap_alloc_new w _)); clear hb1)
                  | (go_at_call 74; refine (HP.out _).mono ?_; rintro e w1 ⟨rfl, rfl⟩))
              all_goals (first | (go_ret; exact ⟨by simp [HN.out], bthen (by first | exact (Below.refl _ _).alloc (Nat.le_refl _) _ | exact pw_below_drewN ((Below.refl _ _).alloc (Nat.le_refl _) _) _) HB1.out⟩) | (go_wp2_with (first | (go_at_call 82; refine (HS.out _).mono ?_; rintro e w1 ⟨rfl, hb1⟩; have HB1 := Lib.hid hb1; have x4 : w1.cell? ⟨w.heap.size, 4, none⟩ = some (.int .i64 next) := pw_cell_below hb1 (cell_of_row _ w.heap.size 4 _ 87 (0, 0) (heap_alloc_new w _)); clear hb1) | (go_at_call 74; refine (HP.out _).mono ?_; rintro e w1 ⟨rfl, rfl⟩)); all_goals (go_ret; exact ⟨by simp [HN.out], bthen (by first | exact (Below.refl _ _).alloc (Nat.le_refl _) _ | exact pw_below_drewN ((Below.refl _ _).alloc (Nat.le_refl _) _) _) HB1.out⟩)))
          · skip
            go_enter Try.func73, Try.ntmps73
            go_upto_region 1 with (fail)
            go_quiet ((go_at_call 42; exact (HL.out _).mono fun e w0 h => ⟨h.1, _, h.2.symm⟩))
            go_wp2_with (first
                | (go_at_call 82; refine (HS.out _).mono ?_; rintro e w1 ⟨rfl, hb1⟩; have HB1 := Lib.hid hb1; have x4 : w1.cell? ⟨w.heap.size, 4, none⟩ = some (.int .i64 next) := pw_cell_below hb1 (cell_of_row _ w.heap.size 4 _ 87 (0, 0) (heap_alloc_new w _)); clear hb1)
                | (go_at_call 74; refine (HP.out _).mono ?_; rintro e w1 ⟨rfl, rfl⟩))
            all_goals (first | (go_ret; exact ⟨by simp, bthen (by first | exact (Below.refl _ _).alloc (Nat.le_refl _) _ | exact pw_below_drewN ((Below.refl _ _).alloc (Nat.le_refl _) _) _) HB1.out⟩) | (go_wp2_with (first | (go_at_call 82; refine (HS.out _).mono ?_; rintro e w1 ⟨rfl, hb1⟩; have HB1 := Lib.hid hb1; have x4 : w1.cell? ⟨w.heap.size, 4, none⟩ = some (.int .i64 next) := pw_cell_below hb1 (cell_of_row _ w.heap.size 4 _ 87 (0, 0) (heap_alloc_new w _)); clear hb1) | (go_at_call 74; refine (HP.out _).mono ?_; rintro e w1 ⟨rfl, rfl⟩)); all_goals (go_ret; exact ⟨by simp, bthen (by first | exact (Below.refl _ _).alloc (Nat.le_refl _) _ | exact pw_below_drewN ((Below.refl _ _).alloc (Nat.le_refl _) _) _) HB1.out⟩)))
        · have b4 : ((loc.length : Int) != lv) = true := by simpa using h4
          have e3 : decide ((loc.length : Int) = lv) = false := by simpa using h4
          rw [e3]
          clear h4 e3
          go_enter Try.func73, Try.ntmps73
          go_upto_region 1 with (fail)
          go_quiet ((go_at_call 42; exact (HL.out _).mono fun e w0 h => ⟨h.1, _, h.2.symm⟩))
          go_wp2
          all_goals
            go_ret
            exact ⟨by simp [], (by first | exact (Below.refl _ _).alloc (Nat.le_refl _) _ | exact pw_below_drewN ((Below.refl _ _).alloc (Nat.le_refl _) _) _)⟩
  · skip
    go_enter Try.func73, Try.ntmps73
    go_upto_region 1 with (fail)
    go_quiet ((go_at_call 42; exact (HL.out _).mono fun e w0 h => ⟨h.1, _, h.2.symm⟩))
    go_wp2
    all_goals
      go_ret
      exact ⟨by simp [h1], (by first | exact (Below.refl _ _).alloc (Nat.le_refl _) _ | exact pw_below_drewN ((Below.refl _ _).alloc (Nat.le_refl _) _) _)⟩

set_option maxHeartbeats 1000000 in
set_option maxRecDepth 100000 in
theorem csize_calls (c : Cel) (leaf : Bool) (A : Option Addr) (cap : Nat) (w : World) (h0 : -9223372036854775808 ≤ c.1) (h1 : c.1 < 9223372036854775808) (hl : c.2.2.2.1.length < 140737488355328) :
    Calls Try.prog 75 #[.agg (CelC c A cap), .bool leaf] w fun e w' => e = .returned (.int .i64 (csize leaf c)) ∧ Below w.heap.size w w' := by
  have HS := Lib.hid (spills_calls c A cap)
  obtain ⟨key, child, len, loc, next⟩ := c
  have hz := MOct.zig_range key h0 h1
  have hu := MOct.u64_range len
  have HZ := Lib.hid (fun w => Zig_calls key w h0 h1)
  unfold csize
  unfold CelC at HS ⊢
  simp only at hl h0 h1 ⊢
  obtain ⟨zk, hzk⟩ : ∃ zk, MOct.zig key = zk := ⟨_, rfl⟩
  obtain ⟨ul, hul⟩ : ∃ ul, u64 len = ul := ⟨_, rfl⟩
  obtain ⟨sv, hsv⟩ : ∃ sv, spillsV (key, child, len, loc, next) = sv := ⟨_, rfl⟩
  have hwr := wrap_u64m len
  rw [hul] at hwr
  rw [hzk] at HZ hz
  rw [hul] at hu
  rw [hsv] at HS
  simp only [hzk, hul, hsv]
  have s1 := MOct.sz_range zk
  have s2 := MOct.sz_range ul
  have HSZ := Lib.hid (fun n (h : n = zk ∨ n = ul) w => octet_Size_calls n w (by rcases h with rfl | rfl; exact hz.1; exact hu.1) (by rcases h with rfl | rfl; exact hz.2; exact hu.2))
  clear hz hu hzk hul hsv
  cases leaf with
  | false =>
    go_enter Try.func75, Try.ntmps75
    go_wp2_with (first
      | (go_at_call 22; refine (HZ.out _).mono ?_; rintro e w1 ⟨rfl, rfl⟩)
      | (go_at_call 20; refine (HSZ.out _ (.inl rfl) _).mono ?_; rintro e w1 ⟨rfl, rfl⟩))
    go_ret
    exact ⟨by simp, (by first | exact (Below.refl _ _).alloc (Nat.le_refl _) _ | exact pw_below_drewN ((Below.refl _ _).alloc (Nat.le_refl _) _) _)⟩
  | true =>
    cases sv
    all_goals
      go_enter Try.func75, Try.ntmps75
      go_upto_region 3 with (fail)
      go_quiet (first
        | (go_at_call 22; exact (HZ.out _).mono fun e w0 h => ⟨h.1, _, h.2.symm⟩)
        | (go_at_call 20; exact (HSZ.out _ (by first | exact .inl rfl | exact .inr rfl) _).mono fun e w0 h => ⟨h.1, _, h.2.symm⟩))
      go_wp2_with (go_at_call 82; refine (HS.out _).mono ?_; rintro e w1 ⟨rfl, hb1⟩; have HB1 := Lib.hid hb1; clear hb1)
      go_ret
      refine ⟨?_, bthen (pw_below_drewN ((Below.refl _ _).alloc (Nat.le_refl _) _) _) HB1.out⟩
      simp

set_option maxHeartbeats 1000000 in
set_option maxRecDepth 100000 in
theorem cbytes_calls (c : Cel) (leaf : Bool) (A : Option Addr) (cap : Nat) (w : World) (h0 : -9223372036854775808 ≤ c.1) (h1 : c.1 < 9223372036854775808) (hl : c.2.2.2.1.length < 100000000) (hcap : c.2.2.2.1.length ≤ cap) (hC : CB w A c.2.2.2.1) :
    Calls Try.prog 77 #[.agg (CelC c A cap), .bool leaf] w fun e w' => ∃ v, e = .returned v ∧ RB w w' v (cbytes leaf c) ∧ Below w.heap.size w w' := by
  have HS := Lib.hid (spills_calls c A cap)
  obtain ⟨key, child, len, loc, next⟩ := c
  have HZR := Lib.hid (MOct.zig_range key h0 h1)
  have HZ := Lib.hid (fun w => Zig_calls key w h0 h1)
  have HU := Lib.hid (MOct.u64_range child)
  have HUL := Lib.hid (MOct.u64_range len)
  have HUN := Lib.hid (MOct.u64_range next)
  unfold cbytes
  unfold CelC at HS ⊢
  simp only at hl h0 h1 hcap hC ⊢
  have HC := Lib.hid hC
  obtain ⟨zk, hzk⟩ : ∃ zk, MOct.zig key = zk := ⟨_, rfl⟩
  obtain ⟨sv, hsv⟩ : ∃ sv, spillsV (key, child, len, loc, next) = sv := ⟨_, rfl⟩
  rw [hzk] at HZ HZR
  rw [hsv] at HS
  simp only [hzk, hsv]
  have HL1 : Hid ((vr zk).length + 9 < 140737488355328) := Lib.hid (by have := MOct.vr_length zk; have := MOct.sz_range zk; omega)
  have HL2 : Hid ((vr zk ++ vr (u64 len)).length + loc.length < 140737488355328) := Lib.hid (by have := MOct.vr_length zk; have := MOct.sz_range zk; have := MOct.vr_length (u64 len); have := MOct.sz_range (u64 len); rw [List.length_append]; omega)
  have HL3 : Hid ((vr zk ++ vr (u64 len) ++ loc).length + 9 < 140737488355328) := Lib.hid (by have := MOct.vr_length zk; have := MOct.sz_range zk; have := MOct.vr_length (u64 len); have := MOct.sz_range (u64 len); rw [List.length_append, List.length_append]; omega)
  clear hzk hsv h0 h1 hl hC
  cases leaf with
  | false =>
    go_enter Try.func77, Try.ntmps77
    go_upto_region 2 with (fail)
    refine Reg.region_mono (P := Try.prog) (Ext := Bel) (R := fun i v W => match i with
        | 0 => v = .pointer (some ⟨w.heap.size, 1, none⟩)
        | 1 => v = .int .i64 child
        | 2 => v = .int .u64 (u64 child)
        | 3 => RB w W v (putL (u64 child) 4 false)
        | 4 => v = .pointer (some ⟨w.heap.size, 0, none⟩)
        | 5 => v = .int .i64 key
        | 6 => v = .int .u64 zk
        | 7 => RB w W v (putL (u64 child) 4 false ++ vr zk)
        | 8 => RB w W v (putL (u64 child) 4 false ++ vr zk)
        | _ => True) (fun W => Bx w #[.int .i64 key, .int .i64 child, .int .i64 len, .slice A loc.length cap, .int .i64 next] 87 W) rfl (by kernel_rfl) (by kernel_rfl) ((Bx.new w _ 87).drew) (fun W W' h h' => h.below h') Bel.refl (by intro j v W W' hx h; split at h <;> first | exact h | exact RB.below h hx) ?_ ?_
    · intro i oi hoi a W hW need old
      match i, hoi with
      | 0, hoi =>
        simp only [List.getElem?_toArray, List.getElem?_cons_succ, List.getElem?_cons_zero, Option.some.injEq] at hoi
        subst hoi
        refine Reg.ob_plain rfl ?_
        have e2 : a.eval (.tmp 2) = .pointer (some ⟨w.heap.size, 0, none⟩) := old 2 (by kernel_rfl)
        refine Reg.wp_val (W' := W) (v := .pointer (some ⟨w.heap.size, 1, none⟩)) (by simp only [execOp, e2, Reg.eval_const, resolve, invoke, builtin, List.map_toArray, List.map_cons, List.map_nil, Option.map_some, Option.map_none]; (first | rfl | go_simp | (go_simp; rfl))) ⟨_, rfl, Bel.refl W, rfl⟩
      | 1, hoi =>
        simp only [List.getElem?_toArray, List.getElem?_cons_succ, List.getElem?_cons_zero, Option.some.injEq] at hoi
        subst hoi
        refine Reg.ob_plain rfl ?_
        have e8 : a.eval (.tmp 8) = .pointer (some ⟨w.heap.size, 1, none⟩) := need 0 _ 8 rfl rfl (by kernel_rfl)
        have hx := hW.cell (i := 1) rfl
        refine Reg.wp_val (W' := W) (v := .int .i64 child) (by simp only [execOp, e8, Reg.eval_const, resolve, invoke, builtin, List.map_toArray, List.map_cons, List.map_nil, Option.map_some, Option.map_none]; (first | rfl | go_simp | (go_simp; rfl))) ⟨_, rfl, Bel.refl W, rfl⟩
      | 2, hoi =>
        simp only [List.getElem?_toArray, List.getElem?_cons_succ, List.getElem?_cons_zero, Option.some.injEq] at hoi
        subst hoi
        refine Reg.ob_plain rfl ?_
        have e9 : a.eval (.tmp 9) = .int .i64 child := need 1 _ 9 rfl rfl (by kernel_rfl)
        have hx := wrap_u64m child
        refine Reg.wp_val (W' := W) (v := .int .u64 (u64 child)) (by simp only [execOp, e9, Reg.eval_const, resolve, invoke, builtin, List.map_toArray, List.map_cons, List.map_nil, Option.map_some, Option.map_none]; (first | rfl | go_simp | (go_simp; rfl))) ⟨_, rfl, Bel.refl W, rfl⟩
      | 3, hoi =>
        simp only [List.getElem?_toArray, List.getElem?_cons_succ, List.getElem?_cons_zero, Option.some.injEq] at hoi
        subst hoi
        refine Reg.ob_plain rfl ?_
        have e10 : a.eval (.tmp 10) = .int .u64 (u64 child) := need 2 _ 10 rfl rfl (by kernel_rfl)
        refine Reg.wp_call (f := 17) (args := #[.slice none 0 0, .int .u64 (u64 child), .int .i64 4, .bool false]) (by simp only [execOp, e10, Reg.eval_const, resolve, invoke, List.map_toArray, List.map_cons, List.map_nil]; go_simp) ?_
        refine (octet_Put_calls none 0 [] (u64 child) 4 false W (CB.nil W) (Nat.le_refl _) (by decide) HU.out.1 HU.out.2).mono ?_
        rintro e W' ⟨v, rfl, ho, hb⟩; exact ⟨v, rfl, v, rfl, hb, ho.lower hW.1.size⟩
      | 4, hoi =>
        simp only [List.getElem?_toArray, List.getElem?_cons_succ, List.getElem?_cons_zero, Option.some.injEq] at hoi
        subst hoi
        refine Reg.ob_plain rfl ?_
        have e2 : a.eval (.tmp 2) = .pointer (some ⟨w.heap.size, 0, none⟩) := old 2 (by kernel_rfl)
        refine Reg.wp_val (W' := W) (v := .pointer (some ⟨w.heap.size, 0, none⟩)) (by simp only [execOp, e2, Reg.eval_const, resolve, invoke, builtin, List.map_toArray, List.map_cons, List.map_nil, Option.map_some, Option.map_none]; (first | rfl | go_simp | (go_simp; rfl))) ⟨_, rfl, Bel.refl W, rfl⟩
      | 5, hoi =>
        simp only [List.getElem?_toArray, List.getElem?_cons_succ, List.getElem?_cons_zero, Option.some.injEq] at hoi
        subst hoi
        refine Reg.ob_plain rfl ?_
        have e12 : a.eval (.tmp 12) = .pointer (some ⟨w.heap.size, 0, none⟩) := need 4 _ 12 rfl rfl (by kernel_rfl)
        have hx := hW.cell (i := 0) rfl
        refine Reg.wp_val (W' := W) (v := .int .i64 key) (by simp only [execOp, e12, Reg.eval_const, resolve, invoke, builtin, List.map_toArray, List.map_cons, List.map_nil, Option.map_some, Option.map_none]; (first | rfl | go_simp | (go_simp; rfl))) ⟨_, rfl, Bel.refl W, rfl⟩
      | 6, hoi =>
        simp only [List.getElem?_toArray, List.getElem?_cons_succ, List.getElem?_cons_zero, Option.some.injEq] at hoi
        subst hoi
        refine Reg.ob_plain rfl ?_
        have e13 : a.eval (.tmp 13) = .int .i64 key := need 5 _ 13 rfl rfl (by kernel_rfl)
        refine Reg.wp_call (f := 22) (args := #[.int .i64 key]) (by simp only [execOp, e13, Reg.eval_const, resolve, invoke, List.map_toArray, List.map_cons, List.map_nil]; go_simp) ?_
        refine (HZ.out W).mono ?_
        rintro e W' ⟨rfl, rfl⟩; exact ⟨_, rfl, _, rfl, Bel.refl _, rfl⟩
      | 7, hoi =>
        simp only [List.getElem?_toArray, List.getElem?_cons_succ, List.getElem?_cons_zero, Option.some.injEq] at hoi
        subst hoi
        refine Reg.ob_plain rfl ?_
        have r11 := need 3 _ 11 rfl rfl (by kernel_rfl)
        simp only at r11
        obtain ⟨x11, e11⟩ : ∃ x, a.eval (.tmp 11) = x := ⟨_, rfl⟩
        rw [← Reg.eval_tmp, e11] at r11
        have e14 : a.eval (.tmp 14) = .int .u64 zk := need 6 _ 14 rfl rfl (by kernel_rfl)
        obtain ⟨A1, c1, rfl, hc1, hC1⟩ := r11.reads
        refine Reg.wp_call (f := 11) (args := #[.slice A1 (putL (u64 child) 4 false).length c1, .int .u64 zk]) (by simp only [execOp, e11, e14, Reg.eval_const, resolve, invoke, List.map_toArray, List.map_cons, List.map_nil]; go_simp) ?_
        refine (octet_Var_calls A1 c1 _ zk W hC1 hc1 (by rw [MOct.putL_length]; decide) HZR.out.1 HZR.out.2).mono ?_
        rintro e W' ⟨v, rfl, ho, hb⟩; exact ⟨v, rfl, v, rfl, hb, ho.lower hW.1.size⟩
      | 8, hoi =>
        simp only [List.getElem?_toArray, List.getElem?_cons_succ, List.getElem?_cons_zero, Option.some.injEq] at hoi
        subst hoi
        refine Reg.ob_plain rfl ?_
        have r15 := need 7 _ 15 rfl rfl (by kernel_rfl)
        simp only at r15
        obtain ⟨x15, e15⟩ : ∃ x, a.eval (.tmp 15) = x := ⟨_, rfl⟩
        rw [← Reg.eval_tmp, e15] at r15
        refine Reg.wp_val (W' := W) (v := _) (by simp only [execOp, e15, Reg.eval_const]; rfl) ⟨_, rfl, Bel.refl W, r15⟩
      | n + 9, hoi => simp at hoi
    · intro a w1 hW hsize hdef got same did
      have ha := Reg.act_of [8, 9, 10, 11, 12, 13, 14, 15, 4] hsize hdef same (by kernel_rfl)
      simp only [List.foldl_cons, List.foldl_nil] at ha
      generalize a.tmps.getD 8 undef = y8 at ha
      generalize a.tmps.getD 9 undef = y9 at ha
      generalize a.tmps.getD 10 undef = y10 at ha
      generalize a.tmps.getD 11 undef = y11 at ha
      generalize a.tmps.getD 12 undef = y12 at ha
      generalize a.tmps.getD 13 undef = y13 at ha
      generalize a.tmps.getD 14 undef = y14 at ha
      generalize a.tmps.getD 15 undef = y15 at ha
      have k4 := got 8 _ 4 rfl rfl
      simp only at k4
      generalize a.tmps.getD 4 undef = y4 at ha k4
      clear got same hsize hdef did
      subst ha
      simp only [List.setIfInBounds_toArray, List.set_cons_zero, List.set_cons_succ]

      go_wp2
      go_ret
      exact ⟨_, rfl, k4, hW.1⟩
  | true =>
    obtain ⟨L1, hL1⟩ : ∃ L, vr zk ++ vr (u64 len) = L := ⟨_, rfl⟩
    obtain ⟨L2, hL2⟩ : ∃ L, L1 ++ loc = L := ⟨_, rfl⟩
    have hl2 := HL2.out
    have hl3 := HL3.out
    rw [hL1] at hl2 hl3
    rw [hL2] at hl3
    rw [if_pos rfl, hL1, hL2]
    have HLB := Lib.hid hl2
    have HLC := Lib.hid hl3
    have HQ1 := Lib.hid hL1
    have HQ2 := Lib.hid hL2
    clear hl2 hl3 hL1 hL2 HL2 HL3
    go_enter Try.func77, Try.ntmps77
    go_upto_region 3 with (fail)
    refine Reg.region_mono (P := Try.prog) (Ext := Bel) (R := fun i v W => match i with
        | 0 => v = .pointer (some ⟨w.heap.size, 0, none⟩)
        | 1 => v = .int .i64 key
        | 2 => v = .int .u64 zk
        | 3 => RB w W v (vr zk)
        | 4 => v = .pointer (some ⟨w.heap.size, 2, none⟩)
        | 5 => v = .int .i64 len
        | 6 => v = .int .u64 (u64 len)
        | 7 => RB w W v (vr zk ++ vr (u64 len))
        | 8 => RB w W v (vr zk ++ vr (u64 len))
        | _ => True) (fun W => Bx w #[.int .i64 key, .int .i64 child, .int .i64 len, .slice A loc.length cap, .int .i64 next] 87 W) rfl (by kernel_rfl) (by kernel_rfl) ((Bx.new w _ 87).drew) (fun W W' h h' => h.below h') Bel.refl (by intro j v W W' hx h; split at h <;> first | exact h | exact RB.below h hx) ?_ ?_
    · intro i oi hoi a W hW need old
      match i, hoi with
      | 0, hoi =>
        simp only [List.getElem?_toArray, List.getElem?_cons_succ, List.getElem?_cons_zero, Option.some.injEq] at hoi
        subst hoi
        refine Reg.ob_plain rfl ?_
        have e2 : a.eval (.tmp 2) = .pointer (some ⟨w.heap.size, 0, none⟩) := old 2 (by kernel_rfl)
        refine Reg.wp_val (W' := W) (v := .pointer (some ⟨w.heap.size, 0, none⟩)) (by simp only [execOp, e2, Reg.eval_const, resolve, invoke, builtin, List.map_toArray, List.map_cons, List.map_nil, Option.map_some, Option.map_none]; (first | rfl | go_simp | (go_simp; rfl))) ⟨_, rfl, Bel.refl W, rfl⟩
      | 1, hoi =>
        simp only [List.getElem?_toArray, List.getElem?_cons_succ, List.getElem?_cons_zero, Option.some.injEq] at hoi
        subst hoi
        refine Reg.ob_plain rfl ?_
        have e16 : a.eval (.tmp 16) = .pointer (some ⟨w.heap.size, 0, none⟩) := need 0 _ 16 rfl rfl (by kernel_rfl)
        have hx := hW.cell (i := 0) rfl
        refine Reg.wp_val (W' := W) (v := .int .i64 key) (by simp only [execOp, e16, Reg.eval_const, resolve, invoke, builtin, List.map_toArray, List.map_cons, List.map_nil, Option.map_some, Option.map_none]; (first | rfl | go_simp | (go_simp; rfl))) ⟨_, rfl, Bel.refl W, rfl⟩
      | 2, hoi =>
        simp only [List.getElem?_toArray, List.getElem?_cons_succ, List.getElem?_cons_zero, Option.some.injEq] at hoi
        subst hoi
        refine Reg.ob_plain rfl ?_
        have e17 : a.eval (.tmp 17) = .int .i64 key := need 1 _ 17 rfl rfl (by kernel_rfl)
        refine Reg.wp_call (f := 22) (args := #[.int .i64 key]) (by simp only [execOp, e17, Reg.eval_const, resolve, invoke, List.map_toArray, List.map_cons, List.map_nil]; go_simp) ?_
        refine (HZ.out W).mono ?_
        rintro e W' ⟨rfl, rfl⟩; exact ⟨_, rfl, _, rfl, Bel.refl _, rfl⟩
      | 3, hoi =>
        simp only [List.getElem?_toArray, List.getElem?_cons_succ, List.getElem?_cons_zero, Option.some.injEq] at hoi
        subst hoi
        refine Reg.ob_plain rfl ?_
        have e18 : a.eval (.tmp 18) = .int .u64 zk := need 2 _ 18 rfl rfl (by kernel_rfl)
        refine Reg.wp_call (f := 11) (args := #[.slice none 0 0, .int .u64 zk]) (by simp only [execOp, e18, Reg.eval_const, resolve, invoke, List.map_toArray, List.map_cons, List.map_nil]; go_simp) ?_
        refine (octet_Var_calls none 0 [] zk W (CB.nil W) (Nat.le_refl _) (by decide) HZR.out.1 HZR.out.2).mono ?_
        rintro e W' ⟨v, rfl, ho, hb⟩; exact ⟨v, rfl, v, rfl, hb, ho.lower hW.1.size⟩
      | 4, hoi =>
        simp only [List.getElem?_toArray, List.getElem?_cons_succ, List.getElem?_cons_zero, Option.some.injEq] at hoi
        subst hoi
        refine Reg.ob_plain rfl ?_
        have e2 : a.eval (.tmp 2) = .pointer (some ⟨w.heap.size, 0, none⟩) := old 2 (by kernel_rfl)
        refine Reg.wp_val (W' := W) (v := .pointer (some ⟨w.heap.size, 2, none⟩)) (by simp only [execOp, e2, Reg.eval_const, resolve, invoke, builtin, List.map_toArray, List.map_cons, List.map_nil, Option.map_some, Option.map_none]; (first | rfl | go_simp | (go_simp; rfl))) ⟨_, rfl, Bel.refl W, rfl⟩
      | 5, hoi =>
        simp only [List.getElem?_toArray, List.getElem?_cons_succ, List.getElem?_cons_zero, Option.some.injEq] at hoi
        subst hoi
        refine Reg.ob_plain rfl ?_
        have e20 : a.eval (.tmp 20) = .pointer (some ⟨w.heap.size, 2, none⟩) := need 4 _ 20 rfl rfl (by kernel_rfl)
        have hx := hW.cell (i := 2) rfl
        refine Reg.wp_val (W' := W) (v := .int .i64 len) (by simp only [execOp, e20, Reg.eval_const, resolve, invoke, builtin, List.map_toArray, List.map_cons, List.map_nil, Option.map_some, Option.map_none]; (first | rfl | go_simp | (go_simp; rfl))) ⟨_, rfl, Bel.refl W, rfl⟩
      | 6, hoi =>
        simp only [List.getElem?_toArray, List.getElem?_cons_succ, List.getElem?_cons_zero, Option.some.injEq] at hoi
        subst hoi
        refine Reg.ob_plain rfl ?_
        have e21 : a.eval (.tmp 21) = .int .i64 len := need 5 _ 21 rfl rfl (by kernel_rfl)
        have hx := wrap_u64m len
        refine Reg.wp_val (W' := W) (v := .int .u64 (u64 len)) (by simp only [execOp, e21, Reg.eval_const, resolve, invoke, builtin, List.map_toArray, List.map_cons, List.map_nil, Option.map_some, Option.map_none]; (first | rfl | go_simp | (go_simp; rfl))) ⟨_, rfl, Bel.refl W, rfl⟩
      | 7, hoi =>
        simp only [List.getElem?_toArray, List.getElem?_cons_succ, List.getElem?_cons_zero, Option.some.injEq] at hoi
        subst hoi
        refine Reg.ob_plain rfl ?_
        have r19 := need 3 _ 19 rfl rfl (by kernel_rfl)
        simp only at r19
        obtain ⟨x19, e19⟩ : ∃ x, a.eval (.tmp 19) = x := ⟨_, rfl⟩
        rw [← Reg.eval_tmp, e19] at r19
        have e22 : a.eval (.tmp 22) = .int .u64 (u64 len) := need 6 _ 22 rfl rfl (by kernel_rfl)
        obtain ⟨A1, c1, rfl, hc1, hC1⟩ := r19.reads
        refine Reg.wp_call (f := 11) (args := #[.slice A1 (vr zk).length c1, .int .u64 (u64 len)]) (by simp only [execOp, e19, e22, Reg.eval_const, resolve, invoke, List.map_toArray, List.map_cons, List.map_nil]; go_simp) ?_
        refine (octet_Var_calls A1 c1 _ (u64 len) W hC1 hc1 (HL1.out) HUL.out.1 HUL.out.2).mono ?_
        rintro e W' ⟨v, rfl, ho, hb⟩; exact ⟨v, rfl, v, rfl, hb, ho.lower hW.1.size⟩
      | 8, hoi =>
        simp only [List.getElem?_toArray, List.getElem?_cons_succ, List.getElem?_cons_zero, Option.some.injEq] at hoi
        subst hoi
        refine Reg.ob_plain rfl ?_
        have r23 := need 7 _ 23 rfl rfl (by kernel_rfl)
        simp only at r23
        obtain ⟨x23, e23⟩ : ∃ x, a.eval (.tmp 23) = x := ⟨_, rfl⟩
        rw [← Reg.eval_tmp, e23] at r23
        refine Reg.wp_val (W' := W) (v := _) (by simp only [execOp, e23, Reg.eval_const]; rfl) ⟨_, rfl, Bel.refl W, r23⟩
      | n + 9, hoi => simp at hoi
    · intro a w1 hW hsize hdef got same did
      have ha := Reg.act_of [16, 17, 18, 19, 20, 21, 22, 23, 5] hsize hdef same (by kernel_rfl)
      simp only [List.foldl_cons, List.foldl_nil] at ha
      generalize a.tmps.getD 16 undef = y16 at ha
      generalize a.tmps.getD 17 undef = y17 at ha
      generalize a.tmps.getD 18 undef = y18 at ha
      generalize a.tmps.getD 19 undef = y19 at ha
      generalize a.tmps.getD 20 undef = y20 at ha
      generalize a.tmps.getD 21 undef = y21 at ha
      generalize a.tmps.getD 22 undef = y22 at ha
      generalize a.tmps.getD 23 undef = y23 at ha
      have k5 := got 8 _ 5 rfl rfl
      simp only at k5
      generalize a.tmps.getD 5 undef = y5 at ha k5
      clear got same hsize hdef did
      subst ha
      simp only [List.setIfInBounds_toArray, List.set_cons_zero, List.set_cons_succ]

      have HB := Lib.hid hW
      have c2 := hW.cell (i := 2) rfl
      have c3 := hW.cell (i := 3) rfl
      have c4 := hW.cell (i := 4) rfl
      have c0 := hW.cell (i := 0) rfl
      have c1 := hW.cell (i := 1) rfl
      have HC1 := Lib.hid (HC.out.below hW.1)
      rw [HQ1.out] at k5
      have HK := Lib.hid k5
      clear hW k5
      cases sv
      all_goals
          go_wp2_with (first
          | (at_builtin; refine appN2 (w0 := w) _ _ rfl rfl y5 L1 loc A cap rfl rfl HK.out HC1.out HB.out.1 HLB.out ?_; intro v2 w2 HO2 HB2; have ho2 := HO2.out; rw [HQ2.out] at ho2; obtain ⟨A2, cp2, rfl, hc2, hC2⟩ := ho2.reads; have HK2 := Lib.hid ho2; have HC2 := Lib.hid hC2; clear HO2 ho2 hC2; have hX2 := HB.out.app HK.out HB2.out.1 HB2.out.2 (by decide); have HX2 := Lib.hid hX2; have d0 := hX2.cell (i := 0) rfl; have d1 := hX2.cell (i := 1) rfl; have d2 := hX2.cell (i := 2) rfl; have d3 := hX2.cell (i := 3) rfl; have d4 := hX2.cell (i := 4) rfl; clear hX2)
          | (go_at_call 82; refine (HS.out _).mono ?_; rintro e w3 ⟨rfl, hb3⟩; have hX3 := HX2.out.below hb3; have d4 := hX3.cell (i := 4) rfl; have HX3 := Lib.hid hX3; have HO3 := Lib.hid (HK2.out.below hb3); have HC3 := Lib.hid (HC2.out.below hb3); clear hb3 hX3)
          | (go_at_call 17; refine (octet_Put_calls A2 cp2 L2 _ 4 false _ HC3.out hc2 HLC.out HUN.out.1 HUN.out.2).mono ?_; rintro e w4 ⟨v4, rfl, ho4, hb4⟩; have HO4 := Lib.hid (ho4.lower HX3.out.1.size); have HX4 := Lib.hid (HX3.out.below hb4); clear ho4 hb4))
      · go_ret
        exact ⟨_, rfl, HO3.out, HX3.out.1⟩
      · go_ret
        exact ⟨_, rfl, HO4.out, HX4.out.1⟩
end Go.Proofs.Ytlfcgicobhalmaa.K
