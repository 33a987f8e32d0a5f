/- cell.Size, Fits, Bytes, walked. -/
import Derived.Test.YtlfcgicobhalmaaBase2
import Derived.Test.YtlfcgicobhalmaaWZig
import Derived.Test.YtlfcgicobhalmaaWLaw02
import Derived.Test.YtlfcgicobhalmaaMNode
import Derived.Test.YtlfcgicobhalmaaOps
import Derived.Test.YtlfcgicobhalmaaRegGen
import Derived.Test.YtlfcgicobhalmaaWZeros
import Derived.Test.YtlfcgicobhalmaaWCell
import Derived.Test.YtlfcgicobhalmaaWCellG
namespace Go.Proofs.Ytlfcgicobhalmaa.K
open Go Go.RowKit Go.Proofs.YtlfcgicobhalmaaW.PrintWords Go.Proofs.YtlfcgicobhalmaaW.PrintLast Go.Proofs.YtlfcgicobhalmaaW.PrintMore
set_option linter.unusedVariables false
set_option linter.unusedSimpArgs false
open Go.Proofs.Ytlfcgicobhalmaa.MOct (W V tk sz vr num head getV le be many putL)
open Go.Proofs.Ytlfcgicobhalmaa.MOct (Cel isPageV localV spillsV insideV leafyV mayV goodFrom goodV u64 csize cbytes nsize nbody nbytes findV)

/-- What is asked of a node's cells: keys are Go's ints, the bytes aren't many. -/
def NodeOk (l : List Cel) : Prop := l.length ≤ 100000 ∧ ∀ c ∈ l, ((-9223372036854775808 ≤ c.1 ∧ c.1 < 9223372036854775808) ∧ c.2.2.2.1.length ≤ 20000)
theorem csize_range (leaf : Bool) (c : Cel) (h : c.2.2.2.1.length ≤ 20000) : 0 ≤ csize leaf c ∧ csize leaf c ≤ 20022 := by
  have h1 := MOct.sz_range (MOct.zig c.1)
  have h2 := MOct.sz_range (u64 c.2.2.1)
  unfold csize
  split
  · split <;> omega
  · omega
theorem csum_step {leaf : Bool} {l : List Cel} {k : Nat} {c : Cel} (h : l[k]? = some c) : ((l.take (k + 1)).map (csize leaf)).sum = ((l.take k).map (csize leaf)).sum + csize leaf c := by
  rw [List.take_add_one, h]; simp
theorem csum_range (leaf : Bool) (l : List Cel) (h : ∀ c ∈ l, c.2.2.2.1.length ≤ 20000) : 0 ≤ (l.map (csize leaf)).sum ∧ (l.map (csize leaf)).sum ≤ 20022 * l.length := by
  induction l with
  | nil => simp
  | cons c t ih =>
    have h1 := csize_range leaf c (h c (by simp))
    have h2 := ih (fun x hx => h x (by simp [hx]))
    simp only [List.map_cons, List.sum_cons, List.length_cons]
    omega
set_option maxHeartbeats 1000000 in
set_option maxRecDepth 100000 in
theorem nsize_calls (leaf : Bool) (right : Int) (l : List Cel) (A : Option Addr) (cap : Nat) (w : World) (hC : KC9.C w A l.length l) (hc : l.length ≤ cap) (hl : NodeOk l) :
    Calls Try.prog 48 #[.agg #[.bool leaf, .int .i64 right, .slice A l.length cap]] w fun e w' => e = .returned (.int .i64 (nsize leaf l)) ∧ Below w.heap.size w w' := by
  have HC := Lib.hid hC
  have HL := Lib.hid hl
  have hl1 := hl.1
  clear hC hl
  go_enter Try.func48, Try.ntmps48
  go_wp2
  have HX0 : Hid (Bx w #[.bool leaf, .int .i64 right, .slice A l.length cap] 55 (w.alloc (.cells #[.bool leaf, .int .i64 right, .slice A l.length cap] 55))) := Lib.hid (Bx.new _ _ _)
  go_loopw [3, 9] (fun s i wr => ∃ (k : Nat) (S : Int), s = .int .i64 S ∧ i = .int .i64 k ∧ k ≤ l.length ∧ 0 ≤ S ∧ S ≤ 7 + 20022 * (k : Int) ∧ Hid (S = 7 + ((l.take k).map (csize leaf)).sum) ∧ Hid (Bx w #[.bool leaf, .int .i64 right, .slice A l.length cap] 55 wr)) (fun _ i _ => l.length - (intOf i).toNat)
  case atStart => exact ⟨0, 7, rfl, rfl, by omega, by omega, by omega, Lib.hid (by simp), HX0⟩
  case round =>
    obtain ⟨k, S, rfl, rfl, hk, hs0, hs1, HS, HX⟩ := hrel
    by_cases hlt : k < l.length
    · obtain ⟨ad, rfl, key, child, len, loc, next, AB, cB, hget, x0, x1, x2, x3, x4, hcB, hCB⟩ := cel_at (Kd.C_below HC.out HX.out.1) k hlt
      have HGT := Lib.hid hget
      have hq := HL.out.2 _ (List.mem_of_getElem? hget)
      have hcr := csize_range leaf _ hq.2
      have HCS := Lib.hid (fun W => csize_calls (key, child, len, loc, next) leaf AB cB W hq.1.1 hq.1.2 (Nat.lt_of_le_of_lt hq.2 (by decide)))
      have HST := Lib.hid (csum_step (leaf := leaf) hget)
      obtain ⟨cz, hcz⟩ : ∃ cz, csize leaf (key, child, len, loc, next) = cz := ⟨_, rfl⟩
      rw [hcz] at HCS HST hcr
      clear hget hq hcz hCB hcB
      have n0 := HX.out.cell (i := 0) rfl
      go_upto_region 5 with (fail)
      generalize hW5 : wr.alloc (Obj.cells #[Value.int IntKind.i64 key, Value.int IntKind.i64 child, Value.int IntKind.i64 len, Value.slice AB loc.length cB, Value.int IntKind.i64 next] 87) = W5
      have hb5 : Below wr.heap.size wr W5 := by subst hW5; exact (Below.refl _ _).alloc (Nat.le_refl _) _
      have hbx : W5.heap[wr.heap.size]? = some (.cells #[Value.int IntKind.i64 key, Value.int IntKind.i64 child, Value.int IntKind.i64 len, Value.slice AB loc.length cB, Value.int IntKind.i64 next] 87 (0, 0)) := by subst hW5; exact heap_alloc_new wr _
      obtain ⟨g5, hg5⟩ : ∃ g5, wr.heap.size = g5 := ⟨_, rfl⟩
      rw [hg5] at hbx ⊢
      have z0 : W5.cell? ⟨g5, 0, none⟩ = some (.int .i64 key) := cell_of_row W5 g5 0 _ 87 (0, 0) hbx
      have z1 : W5.cell? ⟨g5, 1, none⟩ = some (.int .i64 child) := cell_of_row W5 g5 1 _ 87 (0, 0) hbx
      have z2 : W5.cell? ⟨g5, 2, none⟩ = some (.int .i64 len) := cell_of_row W5 g5 2 _ 87 (0, 0) hbx
      have z3 : W5.cell? ⟨g5, 3, none⟩ = some (.slice AB loc.length cB) := cell_of_row W5 g5 3 _ 87 (0, 0) hbx
      have z4 : W5.cell? ⟨g5, 4, none⟩ = some (.int .i64 next) := cell_of_row W5 g5 4 _ 87 (0, 0) hbx
      have hX5 := HX.out.below hb5
      have n5 := hX5.cell (i := 0) rfl
      have HX5 := Lib.hid hX5
      clear hW5 hb5 hg5 hbx x0 x1 x2 x3 x4 hX5 n0
      have hS2 : S + cz ≤ 7 + 20022 * ((k : Int) + 1) := by omega
      go_wp2_with (go_at_call 75; refine (HCS.out _).mono ?_; rintro e w6 ⟨rfl, hb6⟩; have HB6 := Lib.hid hb6; clear hb6)
      go_roundw
      case rel =>
        refine ⟨k + 1, S + cz, by go_num, by go_num, by omega, by omega, by omega, Lib.hid ?_, Lib.hid (HX5.out.below HB6.out)⟩
        rw [HST.out, HS.out]; omega
      case measure => (simp [intOf] <;> omega)
    · have hkl : k = l.length := by omega
      have HF : Hid (nsize leaf l = S) := Lib.hid (by unfold nsize; rw [HS.out, hkl, List.take_length])
      clear hkl
      go_wp2
      go_ret
      exact ⟨by rw [HF.out]; rfl, HX.out.1⟩
theorem fits_calls (leaf : Bool) (right : Int) (l : List Cel) (A : Option Addr) (cap : Nat) (w : World) (hC : KC9.C w A l.length l) (hc : l.length ≤ cap) (hl : NodeOk l) :
    Calls Try.prog 50 #[.agg #[.bool leaf, .int .i64 right, .slice A l.length cap]] w fun e w' => e = .returned (.bool (decide (nsize leaf l ≤ 512))) ∧ Below w.heap.size w w' := by
  have HS := Lib.hid (fun W (h : Below w.heap.size w W) => nsize_calls leaf right l A cap W (Kd.C_below hC h) hc hl)
  clear hC
  obtain ⟨n, hn⟩ : ∃ n, nsize leaf l = n := ⟨_, rfl⟩
  rw [hn] at HS ⊢
  clear hn hl
  go_enter Try.func50, Try.ntmps50
  go_wp2_with (go_at_call 48; refine (HS.out _ ((Below.refl _ _).alloc (Nat.le_refl _) _)).mono ?_; rintro e w6 ⟨rfl, hb6⟩; have HB6 := Lib.hid hb6; clear hb6)
  go_ret
  exact ⟨rfl, bthen ((Below.refl _ _).alloc (Nat.le_refl _) _) HB6.out⟩

theorem flat_step {leaf : Bool} {l : List Cel} {k : Nat} {c : Cel} (h : l[k]? = some c) : (l.take (k + 1)).flatMap (cbytes leaf) = (l.take k).flatMap (cbytes leaf) ++ cbytes leaf c := by
  rw [List.take_add_one, h]; simp
theorem flat_len (leaf : Bool) (l : List Cel) (k : Nat) : ((l.take k).flatMap (cbytes leaf)).length ≤ (l.flatMap (cbytes leaf)).length := by
  have : l.flatMap (cbytes leaf) = (l.take k).flatMap (cbytes leaf) ++ (l.drop k).flatMap (cbytes leaf) := by rw [← List.flatMap_append, List.take_append_drop]
  rw [this, List.length_append]; omega
set_option maxHeartbeats 400000 in
set_option maxRecDepth 100000 in
theorem nbytes_calls (leaf : Bool) (right : Int) (l : List Cel) (A : Option Addr) (cap : Nat) (w : World) (hC : KC9.C w A l.length l) (hc : l.length ≤ cap) (hl : NodeOk l) :
    Calls Try.prog 51 #[.agg #[.bool leaf, .int .i64 right, .slice A l.length cap]] w fun e w' => ∃ v, e = .returned v ∧ RB w w' v (nbytes leaf right l) ∧ (nbytes leaf right l = [] → v = .slice none 0 0) ∧ Below w.heap.size w w' := by
  have HG := Lib.hid (fun W (h : Below w.heap.size w W) => good_calls leaf right l A cap W (Kd.C_below hC h) hc (Nat.lt_of_le_of_lt hl.1 (by decide)))
  have HS := Lib.hid (fun W (h : Below w.heap.size w W) => fits_calls leaf right l A cap W (Kd.C_below hC h) hc hl)
  have HC := Lib.hid hC
  have HL := Lib.hid hl
  have hl1 := hl.1
  have HBL := Lib.hid (MOct.nbody_length leaf right l)
  clear hC hl
  obtain ⟨gv, hgv⟩ : ∃ gv, goodV leaf right l = gv := ⟨_, rfl⟩
  by_cases hok : gv = true ∧ nsize leaf l ≤ 512
  · obtain ⟨rfl, hfit⟩ := hok
    have hne : nbytes leaf right l ≠ [] := fun e => by have := MOct.nbytes_length leaf right l ⟨hgv, hfit⟩; rw [e] at this; simp at this
    have HNE := Lib.hid hne
    have HNB : Hid (nbytes leaf right l = nbody leaf right l ++ List.replicate (512 - (nbody leaf right l).length) 0) := Lib.hid (by unfold nbytes; rw [if_pos ⟨hgv, hfit⟩])
    have hbl : (nbody leaf right l).length ≤ 512 := by have := HBL.out; omega
    have hd : decide (nsize leaf l ≤ 512) = true := by simpa using hfit
    rw [hgv] at HG
    rw [hd] at HS
    clear hgv hfit hd hne
    obtain ⟨kd, hkd⟩ : ∃ kd : Int, kd = if leaf then 1 else 2 := ⟨_, rfl⟩
    obtain ⟨H1, hH1⟩ : ∃ H1, [kd] ++ putL l.length 2 false = H1 := ⟨_, rfl⟩
    obtain ⟨H2, hH2⟩ : ∃ H2, H1 ++ putL (u64 right) 4 false = H2 := ⟨_, rfl⟩
    have hb2 : nbody leaf right l = H2 ++ l.flatMap (cbytes leaf) := by unfold nbody; rw [← hH2, ← hH1, hkd]
    have hh1 : H1.length = 3 := by rw [← hH1, List.length_append, MOct.putL_length]; rfl
    have hh2 : H2.length = 7 := by rw [← hH2, List.length_append, hh1, MOct.putL_length]; rfl
    have HU := Lib.hid (MOct.u64_range right)
    have hur := wrap_u64m right
    have hul : IntKind.u64.wrap (l.length : Int) = l.length := by rw [IntKind.wrap_u64]; omega
    have HB2 := Lib.hid hb2
    have HH1 := Lib.hid hH1
    have HH2 := Lib.hid hH2
    have HLL : Hid (0 ≤ (l.length : Int) ∧ (l.length : Int) < 18446744073709551616) := Lib.hid (by omega)
    have HN1 := Lib.hid hh1
    have HN2 := Lib.hid hh2
    clear hH1 hH2 hb2 hh1 hh2
    have HX0 : Hid (Bx w #[.bool leaf, .int .i64 right, .slice A l.length cap] 55 (w.alloc (.cells #[.bool leaf, .int .i64 right, .slice A l.length cap] 55))) := Lib.hid (Bx.new _ _ _)
    go_enter Try.func51, Try.ntmps51
    go_upto_region 3 with (first
      | (go_at_call 47; refine (HG.out _ HX0.out.1).mono ?_; rintro e w1 ⟨rfl, hb1⟩; have hx1 := HX0.out.below hb1; have a0 := hx1.cell (i := 0) rfl; have a1 := hx1.cell (i := 1) rfl; have a2 := hx1.cell (i := 2) rfl; have HX1 := Lib.hid hx1; clear hb1 hx1)
      | (go_at_call 50; refine (HS.out _ HX1.out.1).mono ?_; rintro e w2 ⟨rfl, hb2⟩; have hx2 := HX1.out.below hb2; have b0 := hx2.cell (i := 0) rfl; have b1 := hx2.cell (i := 1) rfl; have b2 := hx2.cell (i := 2) rfl; have HX2 := Lib.hid hx2; clear hb2 hx2))

    cases leaf with
    | false =>
      obtain rfl : kd = 2 := by simpa using hkd
      clear hkd
      have HP1 : Hid (Calls Try.prog 17 #[.slice (some ⟨w2.heap.size, 0, none⟩) 1 1, .int .u64 (l.length : Int), .int .i64 2, .bool false] (w2.alloc (.cells #[.int .u8 2] 5)) fun e w' => ∃ v, e = .returned v ∧ RB (w2.alloc (.cells #[.int .u8 2] 5)) w' v H1 ∧ Below (w2.alloc (.cells #[.int .u8 2] 5)).heap.size (w2.alloc (.cells #[.int .u8 2] 5)) w') := by
        obtain ⟨A, c, e, _, hc⟩ := (RB.lit (w0 := w2) (W := w2) [2] (Nat.le_refl _) (by decide)).reads
        injection e with e1 e2 e3
        rw [← e1] at hc
        have := octet_Put_calls (some ⟨w2.heap.size, 0, none⟩) 1 [2] (l.length : Int) 2 false _ hc (by decide) (by decide) HLL.out.1 HLL.out.2
        rw [HH1.out] at this
        exact Lib.hid this
      have q2 := (HX2.out.below ((Below.refl _ _).alloc (Nat.le_refl _) (Obj.cells #[Value.int .u8 2] 5))).cell (i := 2) rfl
      go_upto_region 7 with (go_at_call 17; refine (HP1.out).mono ?_; rintro e w3 ⟨v3, rfl, ho3, hb3⟩; have hx3 := (HX2.out.below ((Below.refl _ _).alloc (Nat.le_refl _) _)).below hb3; have HO3 := Lib.hid (ho3.lower (Nat.le_trans HX2.out.1.size (by simp))); obtain ⟨A3, c3, rfl, hc3, hC3⟩ := ho3.reads; have HC3 := Lib.hid hC3; have d1 := hx3.cell (i := 1) rfl; have HX3 := Lib.hid hx3; clear hb3 hx3 ho3 hC3)
      go_upto_region 9 with (go_at_call 17; refine (octet_Put_calls A3 c3 H1 (u64 right) 4 false _ HC3.out hc3 (by rw [HN1.out]; decide) HU.out.1 HU.out.2).mono ?_; rintro e w4 ⟨v4, rfl, ho4, hb4⟩; rw [HH2.out] at ho4; have hx4 := HX3.out.below hb4; have HO4 := Lib.hid (ho4.lower HX3.out.1.size); have e2 := hx4.cell (i := 2) rfl; have HX4 := Lib.hid hx4; clear hb4 hx4 ho4)
      go_loopw [4, 32] (fun b i wr => ∃ (k : Nat), i = .int .i64 k ∧ k ≤ l.length ∧ Hid (Bx w #[.bool false, .int .i64 right, .slice A l.length cap] 55 wr) ∧ Hid (RB w wr b (H2 ++ (l.take k).flatMap (cbytes false)))) (fun _ i _ => l.length - (intOf i).toNat)
      case atStart => exact ⟨0, rfl, by omega, HX4, Lib.hid (by simpa using HO4.out)⟩
      case round =>
        obtain ⟨k, rfl, hk, HX, HR⟩ := hrel
        by_cases hlt : k < l.length
        · obtain ⟨ad, rfl, key, child, len, loc, next, AB, cB, hget, x0, x1, x2, x3, x4, hcB, hCB⟩ := cel_at (Kd.C_below HC.out HX.out.1) k hlt
          have hq := HL.out.2 _ (List.mem_of_getElem? hget)
          have hcr : ((cbytes false (key, child, len, loc, next)).length : Int) ≤ 20022 := by
            rw [MOct.cbytes_length]; exact (csize_range false _ hq.2).2
          have HCB := Lib.hid hCB
          have HST := Lib.hid (flat_step (leaf := false) hget)
          obtain ⟨L, hL⟩ : ∃ L, H2 ++ (l.take k).flatMap (cbytes false) = L := ⟨_, rfl⟩
          have hLl : L.length ≤ 512 := by
            have h1 := flat_len false l k
            have h2 := HB2.out
            rw [h2, List.length_append] at hbl
            rw [← hL, List.length_append]; omega
          have hr := HR.out
          rw [hL] at hr
          have HR2 := Lib.hid hr
          have hst2 : H2 ++ (l.take (k + 1)).flatMap (cbytes false) = L ++ cbytes false (key, child, len, loc, next) := by rw [HST.out, ← List.append_assoc, hL]
          have HST2 := Lib.hid hst2
          have HCS := Lib.hid (fun W (h : CB W AB loc) => cbytes_calls (key, child, len, loc, next) false AB cB W hq.1.1 hq.1.2 (Nat.lt_of_le_of_lt hq.2 (by decide)) hcB h)
          obtain ⟨C1, hC1⟩ : ∃ C1, cbytes false (key, child, len, loc, next) = C1 := ⟨_, rfl⟩
          rw [hC1] at HCS HST2 hcr
          have HLB : Hid (L.length + C1.length < 140737488355328) := Lib.hid (by omega)
          clear hget hq hCB hr hst2 hL HR hLl hC1 HST hcr hbl
          have n0 := HX.out.cell (i := 0) rfl
          go_upto_region 11 with (fail)
          generalize hW5 : wr.alloc (Obj.cells #[Value.int IntKind.i64 key, Value.int IntKind.i64 child, Value.int IntKind.i64 len, Value.slice AB loc.length cB, Value.int IntKind.i64 next] 87) = W5
          have hb5 : Below wr.heap.size wr W5 := by subst hW5; exact (Below.refl _ _).alloc (Nat.le_refl _) _
          have hbx : W5.heap[wr.heap.size]? = some (.cells #[Value.int IntKind.i64 key, Value.int IntKind.i64 child, Value.int IntKind.i64 len, Value.slice AB loc.length cB, Value.int IntKind.i64 next] 87 (0, 0)) := by subst hW5; exact heap_alloc_new wr _
          obtain ⟨g5, hg5⟩ : ∃ g5, wr.heap.size = g5 := ⟨_, rfl⟩
          rw [hg5] at hbx ⊢
          have z0 : W5.cell? ⟨g5, 0, none⟩ = some (.int .i64 key) := cell_of_row W5 g5 0 _ 87 (0, 0) hbx
          have z1 : W5.cell? ⟨g5, 1, none⟩ = some (.int .i64 child) := cell_of_row W5 g5 1 _ 87 (0, 0) hbx
          have z2 : W5.cell? ⟨g5, 2, none⟩ = some (.int .i64 len) := cell_of_row W5 g5 2 _ 87 (0, 0) hbx
          have z3 : W5.cell? ⟨g5, 3, none⟩ = some (.slice AB loc.length cB) := cell_of_row W5 g5 3 _ 87 (0, 0) hbx
          have z4 : W5.cell? ⟨g5, 4, none⟩ = some (.int .i64 next) := cell_of_row W5 g5 4 _ 87 (0, 0) hbx
          have hX5 := HX.out.below hb5
          have n5 := hX5.cell (i := 0) rfl
          have HX5 := Lib.hid hX5
          have HR5 := Lib.hid (HR2.out.below hb5)
          have HC5 := Lib.hid (HCB.out.below hb5)
          clear hW5 hb5 hg5 hbx x0 x1 x2 x3 x4 hX5 n0
          go_wp2_with (first
            | (at_builtin; refine appN2 (w0 := w) _ _ rfl rfl u4 L C1 A6 c6 rfl rfl HR6.out HC6.out HX6.out.1 HLB.out ?_; intro v7 w7 HO7 HB7; have HX7 := Lib.hid (HX6.out.app HR6.out HB7.out.1 HB7.out.2 (by decide)))
            | (go_at_call 77; refine (HCS.out _ HC5.out).mono ?_; rintro e w6 ⟨v6, rfl, ho6, hb6⟩; obtain ⟨A6, c6, rfl, hc6, hC6⟩ := ho6.reads; have HC6 := Lib.hid hC6; have HX6 := Lib.hid (HX5.out.below hb6); have HR6 := Lib.hid (HR5.out.below hb6); clear hb6 ho6 hC6))
          go_roundw
          case rel => exact ⟨k + 1, by go_num, by omega, HX7, Lib.hid (by rw [HST2.out]; exact HO7.out)⟩
          case measure => (simp [intOf] <;> omega)
        · have hkl : k = l.length := by omega
          have hr := HR.out
          rw [hkl, List.take_length, ← HB2.out] at hr
          have hnb := HNB.out
          obtain ⟨NB, hNB⟩ : ∃ NB, nbody false right l = NB := ⟨_, rfl⟩
          rw [hNB] at hr hnb hbl
          obtain ⟨A6, c6, rfl, hc6, hC6⟩ := hr.reads
          have hz : (512 - NB.length : Int).toNat = 512 - NB.length := by omega
          have HZ := Lib.hid hz
          have HNB2 := Lib.hid hnb
          have HR2 := Lib.hid hr
          have hz0 : 0 ≤ 512 - (NB.length : Int) := by omega
          have HLZ : Hid (NB.length + (512 - NB.length : Int).toNat < 140737488355328) := Lib.hid (by omega)
          clear hr hnb hNB hkl hC6 HR hz
          go_wp2_with (at_builtin; refine appZ (w0 := w) _ _ rfl rfl _ NB (512 - NB.length) rfl rfl hz0 HR2.out HX.out.1 HLZ.out ?_; intro v7 w7 HO7 HB7)
          go_ret
          refine ⟨_, rfl, ?_, fun e => absurd e HNE.out, HB7.out.1⟩
          have := HO7.out
          rw [HZ.out] at this
          rw [HNB2.out]
          exact this
    | true =>
      obtain rfl : kd = 1 := by simpa using hkd
      clear hkd
      have HP1 : Hid (Calls Try.prog 17 #[.slice (some ⟨w2.heap.size, 0, none⟩) 1 1, .int .u64 (l.length : Int), .int .i64 2, .bool false] (w2.alloc (.cells #[.int .u8 1] 5)) fun e w' => ∃ v, e = .returned v ∧ RB (w2.alloc (.cells #[.int .u8 1] 5)) w' v H1 ∧ Below (w2.alloc (.cells #[.int .u8 1] 5)).heap.size (w2.alloc (.cells #[.int .u8 1] 5)) w') := by
        obtain ⟨A, c, e, _, hc⟩ := (RB.lit (w0 := w2) (W := w2) [1] (Nat.le_refl _) (by decide)).reads
        injection e with e1 e2 e3
        rw [← e1] at hc
        have := octet_Put_calls (some ⟨w2.heap.size, 0, none⟩) 1 [1] (l.length : Int) 2 false _ hc (by decide) (by decide) HLL.out.1 HLL.out.2
        rw [HH1.out] at this
        exact Lib.hid this
      have q2 := (HX2.out.below ((Below.refl _ _).alloc (Nat.le_refl _) (Obj.cells #[Value.int .u8 1] 5))).cell (i := 2) rfl
      go_upto_region 7 with (go_at_call 17; refine (HP1.out).mono ?_; rintro e w3 ⟨v3, rfl, ho3, hb3⟩; have hx3 := (HX2.out.below ((Below.refl _ _).alloc (Nat.le_refl _) _)).below hb3; have HO3 := Lib.hid (ho3.lower (Nat.le_trans HX2.out.1.size (by simp))); obtain ⟨A3, c3, rfl, hc3, hC3⟩ := ho3.reads; have HC3 := Lib.hid hC3; have d1 := hx3.cell (i := 1) rfl; have HX3 := Lib.hid hx3; clear hb3 hx3 ho3 hC3)
      go_upto_region 9 with (go_at_call 17; refine (octet_Put_calls A3 c3 H1 (u64 right) 4 false _ HC3.out hc3 (by rw [HN1.out]; decide) HU.out.1 HU.out.2).mono ?_; rintro e w4 ⟨v4, rfl, ho4, hb4⟩; rw [HH2.out] at ho4; have hx4 := HX3.out.below hb4; have HO4 := Lib.hid (ho4.lower HX3.out.1.size); have e2 := hx4.cell (i := 2) rfl; have HX4 := Lib.hid hx4; clear hb4 hx4 ho4)
      go_loopw [4, 32] (fun b i wr => ∃ (k : Nat), i = .int .i64 k ∧ k ≤ l.length ∧ Hid (Bx w #[.bool true, .int .i64 right, .slice A l.length cap] 55 wr) ∧ Hid (RB w wr b (H2 ++ (l.take k).flatMap (cbytes true)))) (fun _ i _ => l.length - (intOf i).toNat)
      case atStart => exact ⟨0, rfl, by omega, HX4, Lib.hid (by simpa using HO4.out)⟩
      case round =>
        obtain ⟨k, rfl, hk, HX, HR⟩ := hrel
        by_cases hlt : k < l.length
        · obtain ⟨ad, rfl, key, child, len, loc, next, AB, cB, hget, x0, x1, x2, x3, x4, hcB, hCB⟩ := cel_at (Kd.C_below HC.out HX.out.1) k hlt
          have hq := HL.out.2 _ (List.mem_of_getElem? hget)
          have hcr : ((cbytes true (key, child, len, loc, next)).length : Int) ≤ 20022 := by
            rw [MOct.cbytes_length]; exact (csize_range true _ hq.2).2
          have HCB := Lib.hid hCB
          have HST := Lib.hid (flat_step (leaf := true) hget)
          obtain ⟨L, hL⟩ : ∃ L, H2 ++ (l.take k).flatMap (cbytes true) = L := ⟨_, rfl⟩
          have hLl : L.length ≤ 512 := by
            have h1 := flat_len true l k
            have h2 := HB2.out
            rw [h2, List.length_append] at hbl
            rw [← hL, List.length_append]; omega
          have hr := HR.out
          rw [hL] at hr
          have HR2 := Lib.hid hr
          have hst2 : H2 ++ (l.take (k + 1)).flatMap (cbytes true) = L ++ cbytes true (key, child, len, loc, next) := by rw [HST.out, ← List.append_assoc, hL]
          have HST2 := Lib.hid hst2
          have HCS := Lib.hid (fun W (h : CB W AB loc) => cbytes_calls (key, child, len, loc, next) true AB cB W hq.1.1 hq.1.2 (Nat.lt_of_le_of_lt hq.2 (by decide)) hcB h)
          obtain ⟨C1, hC1⟩ : ∃ C1, cbytes true (key, child, len, loc, next) = C1 := ⟨_, rfl⟩
          rw [hC1] at HCS HST2 hcr
          have HLB : Hid (L.length + C1.length < 140737488355328) := Lib.hid (by omega)
          clear hget hq hCB hr hst2 hL HR hLl hC1 HST hcr hbl
          have n0 := HX.out.cell (i := 0) rfl
          go_upto_region 11 with (fail)
          generalize hW5 : wr.alloc (Obj.cells #[Value.int IntKind.i64 key, Value.int IntKind.i64 child, Value.int IntKind.i64 len, Value.slice AB loc.length cB, Value.int IntKind.i64 next] 87) = W5
          have hb5 : Below wr.heap.size wr W5 := by subst hW5; exact (Below.refl _ _).alloc (Nat.le_refl _) _
          have hbx : W5.heap[wr.heap.size]? = some (.cells #[Value.int IntKind.i64 key, Value.int IntKind.i64 child, Value.int IntKind.i64 len, Value.slice AB loc.length cB, Value.int IntKind.i64 next] 87 (0, 0)) := by subst hW5; exact heap_alloc_new wr _
          obtain ⟨g5, hg5⟩ : ∃ g5, wr.heap.size = g5 := ⟨_, rfl⟩
          rw [hg5] at hbx ⊢
          have z0 : W5.cell? ⟨g5, 0, none⟩ = some (.int .i64 key) := cell_of_row W5 g5 0 _ 87 (0, 0) hbx
          have z1 : W5.cell? ⟨g5, 1, none⟩ = some (.int .i64 child) := cell_of_row W5 g5 1 _ 87 (0, 0) hbx
          have z2 : W5.cell? ⟨g5, 2, none⟩ = some (.int .i64 len) := cell_of_row W5 g5 2 _ 87 (0, 0) hbx
          have z3 : W5.cell? ⟨g5, 3, none⟩ = some (.slice AB loc.length cB) := cell_of_row W5 g5 3 _ 87 (0, 0) hbx
          have z4 : W5.cell? ⟨g5, 4, none⟩ = some (.int .i64 next) := cell_of_row W5 g5 4 _ 87 (0, 0) hbx
          have hX5 := HX.out.below hb5
          have n5 := hX5.cell (i := 0) rfl
          have HX5 := Lib.hid hX5
          have HR5 := Lib.hid (HR2.out.below hb5)
          have HC5 := Lib.hid (HCB.out.below hb5)
          clear hW5 hb5 hg5 hbx x0 x1 x2 x3 x4 hX5 n0
          go_wp2_with (first
            | (at_builtin; refine appN2 (w0 := w) _ _ rfl rfl u4 L C1 A6 c6 rfl rfl HR6.out HC6.out HX6.out.1 HLB.out ?_; intro v7 w7 HO7 HB7; have HX7 := Lib.hid (HX6.out.app HR6.out HB7.out.1 HB7.out.2 (by decide)))
            | (go_at_call 77; refine (HCS.out _ HC5.out).mono ?_; rintro e w6 ⟨v6, rfl, ho6, hb6⟩; obtain ⟨A6, c6, rfl, hc6, hC6⟩ := ho6.reads; have HC6 := Lib.hid hC6; have HX6 := Lib.hid (HX5.out.below hb6); have HR6 := Lib.hid (HR5.out.below hb6); clear hb6 ho6 hC6))
          go_roundw
          case rel => exact ⟨k + 1, by go_num, by omega, HX7, Lib.hid (by rw [HST2.out]; exact HO7.out)⟩
          case measure => (simp [intOf] <;> omega)
        · have hkl : k = l.length := by omega
          have hr := HR.out
          rw [hkl, List.take_length, ← HB2.out] at hr
          have hnb := HNB.out
          obtain ⟨NB, hNB⟩ : ∃ NB, nbody true right l = NB := ⟨_, rfl⟩
          rw [hNB] at hr hnb hbl
          obtain ⟨A6, c6, rfl, hc6, hC6⟩ := hr.reads
          have hz : (512 - NB.length : Int).toNat = 512 - NB.length := by omega
          have HZ := Lib.hid hz
          have HNB2 := Lib.hid hnb
          have HR2 := Lib.hid hr
          have hz0 : 0 ≤ 512 - (NB.length : Int) := by omega
          have HLZ : Hid (NB.length + (512 - NB.length : Int).toNat < 140737488355328) := Lib.hid (by omega)
          clear hr hnb hNB hkl hC6 HR hz
          go_wp2_with (at_builtin; refine appZ (w0 := w) _ _ rfl rfl _ NB (512 - NB.length) rfl rfl hz0 HR2.out HX.out.1 HLZ.out ?_; intro v7 w7 HO7 HB7)
          go_ret
          refine ⟨_, rfl, ?_, fun e => absurd e HNE.out, HB7.out.1⟩
          have := HO7.out
          rw [HZ.out] at this
          rw [HNB2.out]
          exact this
  · have HF : Hid (nbytes leaf right l = []) := Lib.hid (by unfold nbytes; rw [if_neg (by rw [hgv]; exact hok)])
    rw [HF.out]
    have HX0 : Hid (Bx w #[.bool leaf, .int .i64 right, .slice A l.length cap] 55 (w.alloc (.cells #[.bool leaf, .int .i64 right, .slice A l.length cap] 55))) := Lib.hid (Bx.new _ _ _)
    rw [hgv] at HG
    cases gv with
    | false =>
      clear hok hgv
      go_enter Try.func51, Try.ntmps51
      go_wp2_with (go_at_call 47; refine (HG.out _ HX0.out.1).mono ?_; rintro e w1 ⟨rfl, hb1⟩; have HX1 := Lib.hid (HX0.out.below hb1); clear hb1)
      go_ret
      exact ⟨_, rfl, RB.nil _ _, fun _ => rfl, HX1.out.1⟩
    | true =>
      have hd : decide (nsize leaf l ≤ 512) = false := by simpa using hok
      rw [hd] at HS
      clear hok hgv hd
      go_enter Try.func51, Try.ntmps51
      go_wp2_with (first
        | (go_at_call 47; refine (HG.out _ HX0.out.1).mono ?_; rintro e w1 ⟨rfl, hb1⟩; have hx1 := HX0.out.below hb1; have a0 := hx1.cell (i := 0) rfl; have a1 := hx1.cell (i := 1) rfl; have a2 := hx1.cell (i := 2) rfl; have HX1 := Lib.hid hx1; clear hb1 hx1)
        | (go_at_call 50; refine (HS.out _ HX1.out.1).mono ?_; rintro e w2 ⟨rfl, hb2⟩; have HX2 := Lib.hid (HX1.out.below hb2); clear hb2))
      go_ret
      exact ⟨_, rfl, RB.nil _ _, fun _ => rfl, HX2.out.1⟩
end Go.Proofs.Ytlfcgicobhalmaa.K
