/- Texts laid as one: box.Bytes and the reference's. · box.Parse and the reference's. -/
import Derived.Test.YtljcingmjemohaaKB
import Derived.Handy
import Derived.Test.YtljcingmjemohaaWBox3
import Derived.Test.YtljcingmjemohaaKS
namespace Go.Proofs.Ytljcingmjemohaa.K
open Go Go.RowKit Go.Proofs.YtljcingmjemohaaW.PrintWords Go.Proofs.YtljcingmjemohaaW.PrintLast Go.Proofs.YtljcingmjemohaaW.PrintMore
set_option linter.unusedVariables false
set_option linter.unusedSimpArgs false
open Go.Proofs.Ytljcingmjemohaa.MOct (putL)
open Go.Proofs.Ytljcingmjemohaa.MBox (I64)
attribute [local go_sem] undef
set_option maxRecDepth 100000 in
theorem side8x (p q r s : Int) (w : World) : (Instr.index 135 (.agg #[.int .i64 p, .int .i64 q, .int .i64 r, .int .i64 s]) (.int .i64 0)).run Try.prog w = .ok (.agg #[.int .i64 p, .int .i64 q]) w := by
  simp [Instr.index, go_sem, run_underlying Try.underlying135, Try.underlying135]
set_option maxRecDepth 100000 in
theorem side8y (p q r s : Int) (w : World) : (Instr.index 135 (.agg #[.int .i64 p, .int .i64 q, .int .i64 r, .int .i64 s]) (.int .i64 1)).run Try.prog w = .ok (.agg #[.int .i64 r, .int .i64 s]) w := by
  simp [Instr.index, go_sem, run_underlying Try.underlying135, Try.underlying135]
/-- A number's eight bytes, the highest first. -/
def put8 (n : Int) : List Int := putL (MOct.u64 n) 8 false
def bytesV (b : MBox.Bx) : List Int := if MBox.has b = true then ((put8 b.lx ++ put8 b.hx) ++ put8 b.ly) ++ put8 b.hy else []
def PutOut (w w' : World) (l : List Int) (n : Int) (A' : Option Addr) (c' : Nat) (l' : List Int) : Prop := l' = l ++ put8 n ∧ l'.length ≤ c' ∧ CB w' A' l' ∧ RB w w' (.slice A' l'.length c') l'
theorem u64_lt (n : Int) : 0 ≤ MOct.u64 n ∧ MOct.u64 n < 18446744073709551616 := by
  unfold MOct.u64; constructor
  · exact Int.emod_nonneg _ (by decide)
  · exact Int.emod_lt_of_pos _ (by decide)
theorem put8_len (n : Int) : (put8 n).length = 8 := by unfold put8; rw [MOct.putL_length]; rfl
theorem put8_calls (A : Option Addr) (c : Nat) (l : List Int) (n : Int) (w : World) (h : CB w A l) (hc : l.length ≤ c) (hl : l.length < 100000) :
    Calls Try.prog 44 #[.slice A l.length c, .int .u64 (IntKind.u64.wrap n), .int .i64 8, .bool false] w fun e w' => ∃ A' c' l', e = .returned (.slice A' l'.length c') ∧ PutOut w w' l n A' c' l' ∧ Bel w w' := by
  rw [wrap_u64m]
  refine (octet_Put_calls A c l (MOct.u64 n) 8 false w h hc (by omega) (u64_lt n).1 (u64_lt n).2).mono ?_
  rintro e w' ⟨v, rfl, hr, hb⟩
  obtain ⟨A', c', rfl, hc', hC⟩ := hr.reads
  exact ⟨A', c', _, rfl, ⟨rfl, hc', hC, hr⟩, hb⟩
theorem rput8_calls (A : Option Addr) (c : Nat) (l : List Int) (n : Int) (w : World) (h : CB w A l) (hc : l.length ≤ c) (hl : l.length < 100000) :
    Calls Try.prog 46 #[.slice A l.length c, .int .u64 (IntKind.u64.wrap n), .int .i64 8, .bool false] w fun e w' => ∃ A' c' l', e = .returned (.slice A' l'.length c') ∧ PutOut w w' l n A' c' l' ∧ Bel w w' := by
  rw [wrap_u64m]
  refine (ref02_Put_calls A c l (MOct.u64 n) 8 false w h hc (by omega) (u64_lt n).1 (u64_lt n).2).mono ?_
  rintro e w' ⟨v, rfl, hr, hb⟩
  obtain ⟨A', c', rfl, hc', hC⟩ := hr.reads
  exact ⟨A', c', _, rfl, ⟨rfl, hc', hC, hr⟩, hb⟩
theorem kc2 {wr w w' : World} {g : Nat} {x y : Value} (hb : Bel w w') (hh : w.cell? ⟨g, 0, none⟩ = some x ∧ w.cell? ⟨g, 1, none⟩ = some y ∧ Bel wr w) : w'.cell? ⟨g, 0, none⟩ = some x ∧ w'.cell? ⟨g, 1, none⟩ = some y ∧ Bel wr w' :=
  ⟨kc hb hh.1, kc hb hh.2.1, bthen hh.2.2 hb⟩
set_option maxHeartbeats 4000000 in
set_option maxRecDepth 100000 in
theorem boxBytes_calls (b : MBox.Bx) (w : World) : Calls Try.prog 45 #[.agg #[.bool b.no, .int .i64 b.lx, .int .i64 b.ly, .int .i64 b.hx, .int .i64 b.hy]] w fun e w' => ∃ v, e = .returned v ∧ RB w w' v (bytesV b) ∧ Bel w w' := by
  have HH := Lib.hid has_is
  have HS := Lib.hid sides_calls
  have HP := Lib.hid put8_calls
  cases hA : MBox.has b with
  | false =>
    have hm : bytesV b = [] := by unfold bytesV; rw [hA]; rfl
    rw [hm]
    clear hm
    have A := Blk.new w #[.bool b.no, .int .i64 b.lx, .int .i64 b.ly, .int .i64 b.hx, .int .i64 b.hy] 38
    have HB : Hid (Below w.heap.size w (w.alloc (.cells #[.bool b.no, .int .i64 b.lx, .int .i64 b.ly, .int .i64 b.hx, .int .i64 b.hy] 38))) := Lib.hid (by repeat (first | exact Below.refl _ _ | refine Below.drew ?_ | refine Below.alloc ?_ (by simp <;> omega) _))
    go_enter Try.func45, Try.ntmps45
    go_upto_region 1 with (fail)
    obtain ⟨W, hW⟩ : ∃ W, (w.alloc (.cells #[.bool b.no, .int .i64 b.lx, .int .i64 b.ly, .int .i64 b.hx, .int .i64 b.hy] 38)) = W := ⟨_, rfl⟩
    rw [hW] at A HB ⊢
    clear hW
    obtain ⟨a0, a1, a2, a3, a4⟩ := Blk.cells5 A
    go_wp2_with (go_at_call 91; refine (HH.out _ _ _ (by assumption)).mono ?_; rintro e w' ⟨rfl, hb⟩; clear a0 a1 a2 a3 a4; have A := Blk.bel A hb; have HB := Lib.hid (bthen HB.out hb); clear hb; obtain ⟨a0, a1, a2, a3, a4⟩ := Blk.cells5 A)
    go_ret
    exact ⟨_, rfl, RB.nil _ _, HB.out⟩
  | true =>
    have hm : bytesV b = ((put8 b.lx ++ put8 b.hx) ++ put8 b.ly) ++ put8 b.hy := by unfold bytesV; rw [hA]; rfl
    rw [hm]
    have hm := Lib.hid hm
    have A := Blk.new w #[.bool b.no, .int .i64 b.lx, .int .i64 b.ly, .int .i64 b.hx, .int .i64 b.hy] 38
    have HB : Hid (Below w.heap.size w (w.alloc (.cells #[.bool b.no, .int .i64 b.lx, .int .i64 b.ly, .int .i64 b.hx, .int .i64 b.hy] 38))) := Lib.hid (by repeat (first | exact Below.refl _ _ | refine Below.drew ?_ | refine Below.alloc ?_ (by simp <;> omega) _))
    go_enter Try.func45, Try.ntmps45
    go_upto_region 1 with (fail)
    obtain ⟨W, hW⟩ : ∃ W, (w.alloc (.cells #[.bool b.no, .int .i64 b.lx, .int .i64 b.ly, .int .i64 b.hx, .int .i64 b.hy] 38)) = W := ⟨_, rfl⟩
    rw [hW] at A HB ⊢
    clear hW
    obtain ⟨a0, a1, a2, a3, a4⟩ := Blk.cells5 A
    go_upto_region 4 with (go_at_call 91; refine (HH.out _ _ _ (by assumption)).mono ?_; rintro e w' ⟨rfl, hb⟩; clear a0 a1 a2 a3 a4; have A := Blk.bel A hb; have HB := Lib.hid (bthen HB.out hb); clear hb; obtain ⟨a0, a1, a2, a3, a4⟩ := Blk.cells5 A)
    go_wp2_with fail
    refine (HS.out _ _).mono ?_
    rintro e w1 ⟨rfl, hb1⟩
    have HB := Lib.hid (bthen HB.out hb1)
    clear hb1 A a0 a1 a2 a3 a4
    have i0 := side8x b.lx b.hx b.ly b.hy
    have i1 := side8y b.lx b.hx b.ly b.hy
    go_wp2_with fail
    refine wp_loop_rounds 3 ?_
    rw [rounds_succ]
    go_wp2_with fail
    have X := Blk.new w1 #[.int .i64 b.lx, .int .i64 b.hx] 134
    have HB := Lib.hid (HB.out.alloc HB.out.size (.cells #[.int .i64 b.lx, .int .i64 b.hx] 134))
    skip
    obtain ⟨u0, hW⟩ : ∃ W, w1.alloc (.cells #[.int .i64 b.lx, .int .i64 b.hx] 134) = W := ⟨_, rfl⟩
    rw [hW] at X HB  ⊢
    have HBu0 := HB
    obtain ⟨k0, hk⟩ : ∃ g, w1.heap.size = g := ⟨_, rfl⟩
    rw [hk] at X ⊢
    clear hW hk
    have x0 : u0.cell? ⟨k0, 0, none⟩ = some (.int .i64 b.lx) := Blk.cell X 0 rfl
    have x1 : u0.cell? ⟨k0, 1, none⟩ = some (.int .i64 b.hx) := Blk.cell X 1 rfl
    have hS0 := And.intro x0 (And.intro x1 (Bel.refl u0))
    first | go_region_held3 (fun w' => w'.cell? ⟨k0, 0, none⟩ = some (.int .i64 b.lx) ∧ w'.cell? ⟨k0, 1, none⟩ = some (.int .i64 b.hx) ∧ Bel u0 w') (first | with_reducible assumption | with_reducible exact kc2 hb (by assumption) | with_reducible exact kc2 (Bel.drew _) hS0)
      (first
      | (go_at_call 44; refine (HP.out Ap0 cp0 lp0 b.hx _ hp0.out.2.2.1 hp0.out.2.1 (by have := hlp0.out; omega)).mono ?_; rintro e w' ⟨Aq0, cq0, lq0, rfl, hq', hb⟩; have hlq0 : Hid (lq0.length < 150) := Lib.hid (by rw [hq'.1, List.length_append, put8_len]; have := hlp0.out; omega); have hq0 := Lib.hid hq'; clear hq')
      | (go_at_call 44; refine (HP.out none 0 [] b.lx _ (CB.nil _) (by simp) (by simp)).mono ?_; rintro e w' ⟨Ap0, cp0, lp0, rfl, hq', hb⟩; have hs0 := Lib.hid hb.size; have hlp0 : Hid (lp0.length < 100) := Lib.hid (by rw [hq'.1, List.length_append, put8_len]; simp); have hp0 := Lib.hid hq'; clear hq')) | fail
    rename_i hheld
    have HB := Lib.hid (bthen HB.out hheld.2.2)
    clear hheld hS0 x0 x1 X
    obtain ⟨v0, hv⟩ : ∃ W, w' = W := ⟨_, rfl⟩
    rw [hv] at HB hq0 ⊢
    clear hv
    go_wp2_with fail
    rw [rounds_succ]
    go_wp2_with fail
    have X := Blk.new v0 #[.int .i64 b.ly, .int .i64 b.hy] 134
    have HB := Lib.hid (HB.out.alloc HB.out.size (.cells #[.int .i64 b.ly, .int .i64 b.hy] 134))
    have Cq := Lib.hid ((hq0.out.2.2.1).alloc (.cells #[.int .i64 b.ly, .int .i64 b.hy] 134))
    obtain ⟨u1, hW⟩ : ∃ W, v0.alloc (.cells #[.int .i64 b.ly, .int .i64 b.hy] 134) = W := ⟨_, rfl⟩
    rw [hW] at X HB Cq ⊢
    have HBu1 := HB
    obtain ⟨k1, hk⟩ : ∃ g, v0.heap.size = g := ⟨_, rfl⟩
    rw [hk] at X ⊢
    clear hW hk
    have x0 : u1.cell? ⟨k1, 0, none⟩ = some (.int .i64 b.ly) := Blk.cell X 0 rfl
    have x1 : u1.cell? ⟨k1, 1, none⟩ = some (.int .i64 b.hy) := Blk.cell X 1 rfl
    have hS0 := And.intro x0 (And.intro x1 (Bel.refl u1))
    first | go_region_held3 (fun w' => w'.cell? ⟨k1, 0, none⟩ = some (.int .i64 b.ly) ∧ w'.cell? ⟨k1, 1, none⟩ = some (.int .i64 b.hy) ∧ Bel u1 w') (first | with_reducible assumption | with_reducible exact kc2 hb (by assumption) | with_reducible exact kc2 (Bel.drew _) hS0)
      (first
      | (go_at_call 44; refine (HP.out Ap1 cp1 lp1 b.hy _ hp1.out.2.2.1 hp1.out.2.1 (by have := hlp1.out; omega)).mono ?_; rintro e w' ⟨Aq1, cq1, lq1, rfl, hq', hb⟩; have hlq1 : Hid (lq1.length < 250) := Lib.hid (by rw [hq'.1, List.length_append, put8_len]; have := hlp1.out; omega); have hq1 := Lib.hid hq'; clear hq')
      | (go_at_call 44; refine (HP.out Aq0 cq0 lq0 b.ly _ (Cq.out.drew) hq0.out.2.1 (by have := hlq0.out; omega)).mono ?_; rintro e w' ⟨Ap1, cp1, lp1, rfl, hq', hb⟩; have hs1 := Lib.hid hb.size; have hlp1 : Hid (lp1.length < 200) := Lib.hid (by rw [hq'.1, List.length_append, put8_len]; have := hlq0.out; omega); have hp1 := Lib.hid hq'; clear hq')) | fail
    rename_i hheld
    have HB := Lib.hid (bthen HB.out hheld.2.2)
    clear hheld hS0 x0 x1 X
    obtain ⟨v1, hv⟩ : ∃ W, w' = W := ⟨_, rfl⟩
    rw [hv] at HB hq1 ⊢
    clear hv
    go_wp2_with fail
    rw [rounds_succ]
    go_wp2_with fail
    go_ret
    refine ⟨_, rfl, ?_, HB.out⟩
    have e1 := hq1.out.1
    rw [hp1.out.1, hq0.out.1, hp0.out.1, List.nil_append] at e1
    have hr := hq1.out.2.2.2
    rw [← e1]
    exact hr.lower (by have := hs1.out; have := HBu1.out.size; simp at *; omega)
set_option maxRecDepth 100000 in
theorem four0 (p q r s : Int) (w : World) : (Instr.index 137 (.agg #[.int .i64 p, .int .i64 q, .int .i64 r, .int .i64 s]) (.int .i64 0)).run Try.prog w = .ok (.int .i64 p) w := by
  simp [Instr.index, go_sem, run_underlying Try.underlying137, Try.underlying137]
set_option maxRecDepth 100000 in
theorem four1 (p q r s : Int) (w : World) : (Instr.index 137 (.agg #[.int .i64 p, .int .i64 q, .int .i64 r, .int .i64 s]) (.int .i64 1)).run Try.prog w = .ok (.int .i64 q) w := by
  simp [Instr.index, go_sem, run_underlying Try.underlying137, Try.underlying137]
set_option maxRecDepth 100000 in
theorem four2 (p q r s : Int) (w : World) : (Instr.index 137 (.agg #[.int .i64 p, .int .i64 q, .int .i64 r, .int .i64 s]) (.int .i64 2)).run Try.prog w = .ok (.int .i64 r) w := by
  simp [Instr.index, go_sem, run_underlying Try.underlying137, Try.underlying137]
set_option maxRecDepth 100000 in
theorem four3 (p q r s : Int) (w : World) : (Instr.index 137 (.agg #[.int .i64 p, .int .i64 q, .int .i64 r, .int .i64 s]) (.int .i64 3)).run Try.prog w = .ok (.int .i64 s) w := by
  simp [Instr.index, go_sem, run_underlying Try.underlying137, Try.underlying137]
set_option maxHeartbeats 4000000 in
set_option maxRecDepth 100000 in
theorem refBytes_calls (b : MBox.Bx) (w : World) : Calls Try.prog 47 #[.agg #[.bool b.no, .int .i64 b.lx, .int .i64 b.ly, .int .i64 b.hx, .int .i64 b.hy]] w fun e w' => ∃ v, e = .returned v ∧ RB w w' v (bytesV b) ∧ Bel w w' := by
  have HH := Lib.hid refHas_is
  have HP := Lib.hid rput8_calls
  cases hA : MBox.has b with
  | false =>
    have hm : bytesV b = [] := by unfold bytesV; rw [hA]; rfl
    rw [hm]
    clear hm
    have A := Blk.new w #[.bool b.no, .int .i64 b.lx, .int .i64 b.ly, .int .i64 b.hx, .int .i64 b.hy] 38
    have HB : Hid (Below w.heap.size w (w.alloc (.cells #[.bool b.no, .int .i64 b.lx, .int .i64 b.ly, .int .i64 b.hx, .int .i64 b.hy] 38))) := Lib.hid (by repeat (first | exact Below.refl _ _ | refine Below.drew ?_ | refine Below.alloc ?_ (by simp <;> omega) _))
    go_enter Try.func47, Try.ntmps47
    go_upto_region 1 with (fail)
    obtain ⟨W, hW⟩ : ∃ W, (w.alloc (.cells #[.bool b.no, .int .i64 b.lx, .int .i64 b.ly, .int .i64 b.hx, .int .i64 b.hy] 38)) = W := ⟨_, rfl⟩
    rw [hW] at A HB ⊢
    clear hW
    obtain ⟨a0, a1, a2, a3, a4⟩ := Blk.cells5 A
    go_wp2_with (go_at_call 26; refine (HH.out _ _ _ (by assumption)).mono ?_; rintro e w' ⟨rfl, hb⟩; clear a0 a1 a2 a3 a4; have A := Blk.bel A hb; have HB := Lib.hid (bthen HB.out hb); clear hb; obtain ⟨a0, a1, a2, a3, a4⟩ := Blk.cells5 A)
    go_ret
    exact ⟨_, rfl, RB.nil _ _, HB.out⟩
  | true =>
    have hm : bytesV b = ((put8 b.lx ++ put8 b.hx) ++ put8 b.ly) ++ put8 b.hy := by unfold bytesV; rw [hA]; rfl
    rw [hm]
    have hm := Lib.hid hm
    have A := Blk.new w #[.bool b.no, .int .i64 b.lx, .int .i64 b.ly, .int .i64 b.hx, .int .i64 b.hy] 38
    have HB : Hid (Below w.heap.size w (w.alloc (.cells #[.bool b.no, .int .i64 b.lx, .int .i64 b.ly, .int .i64 b.hx, .int .i64 b.hy] 38))) := Lib.hid (by repeat (first | exact Below.refl _ _ | refine Below.drew ?_ | refine Below.alloc ?_ (by simp <;> omega) _))
    go_enter Try.func47, Try.ntmps47
    go_upto_region 1 with (fail)
    obtain ⟨W, hW⟩ : ∃ W, (w.alloc (.cells #[.bool b.no, .int .i64 b.lx, .int .i64 b.ly, .int .i64 b.hx, .int .i64 b.hy] 38)) = W := ⟨_, rfl⟩
    rw [hW] at A HB ⊢
    clear hW
    obtain ⟨a0, a1, a2, a3, a4⟩ := Blk.cells5 A
    go_upto_region 4 with (go_at_call 26; refine (HH.out _ _ _ (by assumption)).mono ?_; rintro e w' ⟨rfl, hb⟩; clear a0 a1 a2 a3 a4; have A := Blk.bel A hb; have HB := Lib.hid (bthen HB.out hb); clear hb; obtain ⟨a0, a1, a2, a3, a4⟩ := Blk.cells5 A)
    have i0 := four0 b.lx b.hx b.ly b.hy
    have i1 := four1 b.lx b.hx b.ly b.hy
    have i2 := four2 b.lx b.hx b.ly b.hy
    have i3 := four3 b.lx b.hx b.ly b.hy
    go_wp2_with fail
    refine wp_loop_rounds 5 ?_
    rw [rounds_succ]
    go_wp2_with (go_at_call 46; refine (HP.out none 0 [] b.lx _ (CB.nil _) (by simp) (by simp)).mono ?_; rintro e v0 ⟨Ap0, cp0, lp0, rfl, hq', hb⟩; have hlp0 : Hid (lp0.length < 100) := Lib.hid (by rw [hq'.1, List.length_append, put8_len]; simp); have hp0 := Lib.hid hq'; have HBo0 := HB; have HB := Lib.hid (bthen HB.out hb); clear hq' hb)
    rw [rounds_succ]
    go_wp2_with (go_at_call 46; refine (HP.out Ap0 cp0 lp0 b.hx _ hp0.out.2.2.1 hp0.out.2.1 (by have := hlp0.out; omega)).mono ?_; rintro e v1 ⟨Ap1, cp1, lp1, rfl, hq', hb⟩; have hlp1 : Hid (lp1.length < 200) := Lib.hid (by rw [hq'.1, List.length_append, put8_len]; have := hlp0.out; omega); have hp1 := Lib.hid hq'; have HBo1 := HB; have HB := Lib.hid (bthen HB.out hb); clear hq' hb)
    rw [rounds_succ]
    go_wp2_with (go_at_call 46; refine (HP.out Ap1 cp1 lp1 b.ly _ hp1.out.2.2.1 hp1.out.2.1 (by have := hlp1.out; omega)).mono ?_; rintro e v2 ⟨Ap2, cp2, lp2, rfl, hq', hb⟩; have hlp2 : Hid (lp2.length < 300) := Lib.hid (by rw [hq'.1, List.length_append, put8_len]; have := hlp1.out; omega); have hp2 := Lib.hid hq'; have HBo2 := HB; have HB := Lib.hid (bthen HB.out hb); clear hq' hb)
    rw [rounds_succ]
    go_wp2_with (go_at_call 46; refine (HP.out Ap2 cp2 lp2 b.hy _ hp2.out.2.2.1 hp2.out.2.1 (by have := hlp2.out; omega)).mono ?_; rintro e v3 ⟨Ap3, cp3, lp3, rfl, hq', hb⟩; have hlp3 : Hid (lp3.length < 400) := Lib.hid (by rw [hq'.1, List.length_append, put8_len]; have := hlp2.out; omega); have hp3 := Lib.hid hq'; have HBo3 := HB; have HB := Lib.hid (bthen HB.out hb); clear hq' hb)
    rw [rounds_succ]
    go_wp2_with fail
    go_ret
    refine ⟨_, rfl, ?_, HB.out⟩
    have e1 := hp3.out.1
    rw [hp2.out.1, hp1.out.1, hp0.out.1, List.nil_append] at e1
    have hr := hp3.out.2.2.2
    rw [← e1]
    exact hr.lower HBo3.out.size

end Go.Proofs.Ytljcingmjemohaa.K
namespace Go.Proofs.Ytljcingmjemohaa.K
open Go Go.RowKit Go.Proofs.YtljcingmjemohaaW.PrintWords Go.Proofs.YtljcingmjemohaaW.PrintLast Go.Proofs.YtljcingmjemohaaW.PrintMore
set_option linter.unusedVariables false
set_option linter.unusedSimpArgs false
open Go.Proofs.Ytljcingmjemohaa.MOct (putL getV)
open Go.Proofs.Ytljcingmjemohaa.MBox (I64)
attribute [local go_sem] undef
theorem CB.up {w w' : World} {A : Option Addr} {l : List Int} {row : Option Nat} (h : CB w A l) (hg : w.grownBy w' row) (hr : 0 < l.length → ∀ ad, A = some ad → some ad.block ≠ row) : CB w' A l := by
  refine ⟨h.1, h.2.1, fun h0 => ?_⟩
  obtain ⟨ad, e, hc⟩ := h.2.2 h0
  refine ⟨ad, e, fun j p hj => ?_⟩
  obtain ⟨c, h1, h2, h3⟩ := hc j p hj
  refine ⟨c, h1, h2, fun i u hu => ?_⟩
  have hcell := h3 i u hu
  have hlt := World.block_lt_of_cell? w _ hcell
  exact (World.cell?_of_block (hg.block _ hlt (by rw [add_block]; exact hr h0 ad e))).trans hcell
theorem Src.up {W W' : World} {g : Nat} {made : Bool} {l : List Int} {e : Int} (h : Src W g made l e) {row : Option Nat} (hg : W.grownBy W' row) (hr : ∀ k, row = some k → g < k) : Src W' g made l e := by
  have hlt := h.lt
  obtain ⟨A, c, h1, h2, h3⟩ := h
  exact ⟨A, c, (hg.block g hlt (fun e => by have := hr g e.symm; omega)).trans h1, h2, ⟨h3.cb.up hg (fun h0 ad e e2 => by have h4 := h3.old h0 ad e; have := hr _ e2.symm; omega), h3.old⟩⟩
theorem RSrc.up {W W' : World} {g : Nat} {l : List Int} {e : Int} (h : RSrc W g l e) {row : Option Nat} (hg : W.grownBy W' row) (hr : ∀ k, row = some k → g < k) : RSrc W' g l e := by
  have hlt := h.lt
  obtain ⟨A, c, h1, h2, h3⟩ := h
  exact ⟨A, c, (hg.block g hlt (fun e => by have := hr g e.symm; omega)).trans h1, h2, ⟨h3.cb.up hg (fun h0 ad e e2 => by have h4 := h3.old h0 ad e; have := hr _ e2.symm; omega), h3.old⟩⟩
theorem Blk.grown {W W' : World} {g k t : Nat} {cs : Array Value} (h : Blk W g cs t) (hg : W.grownBy W' (some k)) (hne : g ≠ k) : Blk W' g cs t := (hg.block g h.lt (fun e => hne (Option.some.inj e))).trans h
theorem set_grown (W : World) (k i : Nat) (u : Value) : W.grownBy (W.setCell ⟨k, i, none⟩ u) (some k) := only_setCell (World.grownBy.refl _ _) (.inl rfl) u
theorem bgrown {a w w' : World} {k : Nat} (h : Below a.heap.size a w) (hg : w.grownBy w' (some k)) (hk : a.heap.size ≤ k) : Below a.heap.size a w' := Below.grown h hg h.size (fun j e => by cases e; exact hk)
/-- The k-th number of eight bytes. -/
def nthI (l : List Int) (k : Nat) : Int := wrap64 (getV (l.drop (8 * k)) 8 false).1
def boxAt (l : List Int) : MBox.Bx := ⟨false, nthI l 0, nthI l 2, nthI l 1, nthI l 3⟩
def parseV (l : List Int) : MBox.Bx × Int := if l.length < 32 then (MBox.zeroB, 8) else if 32 < l.length then (MBox.zeroB, 9) else if MBox.good (boxAt l) = true then (boxAt l, 0) else (MBox.zeroB, 9)
theorem numS_full (l : List Int) (k : Nat) (hl : 8 * (k + 1) ≤ l.length) : numS true (l.drop (8 * k)) 0 8 false = ((getV (l.drop (8 * k)) 8 false).1, l.drop (8 * (k + 1)), 0) := by
  have h : (getV (l.drop (8 * k)) 8 false).2 = true := by unfold getV; rw [if_neg (by rw [List.length_drop]; omega)]
  unfold numS
  rw [if_neg (by simp), if_neg (by omega), if_pos h, List.drop_drop]
  rfl
theorem bytesOk_drop {l : List Int} (h : bytesOk l) (k : Nat) : bytesOk (l.drop k) := fun x hx => h x (List.mem_of_mem_drop hx)
theorem int8_calls (l : List Int) (hb : bytesOk l) (k : Nat) (r : Int) (hr : nthI l k = r) (w : World) (g : Nat) (h : Src w g true (l.drop (8 * k)) 0) (hl : 8 * (k + 1) ≤ l.length) :
    Calls Try.prog 56 #[.pointer (some ⟨g, 0, none⟩), .bool false] w fun e' w' => e' = .returned (.int .i64 r) ∧ w.grownBy w' (some g) ∧ Src w' g true (l.drop (8 * (k + 1))) 0 := by
  have := Int_calls w g true (l.drop (8 * k)) 0 false h (bytesOk_drop hb _)
  rw [numS_full l k hl] at this
  rw [← hr]
  exact this
theorem rInt_calls (w : World) (g : Nat) (l : List Int) (e : Int) (little : Bool) (h : RSrc w g l e) (hb : bytesOk l) (hl : l.length < 140737488355328) :
    Calls Try.prog 101 #[.pointer (some ⟨g, 0, none⟩), .bool little] w fun e' w' => e' = .returned (.int .i64 (wrap64 (numS true l e 8 little).1)) ∧ w.grownBy w' (some g) ∧ RSrc w' g (numS true l e 8 little).2.1 (numS true l e 8 little).2.2 := by
  have HS := Lib.hid h
  have HB := Lib.hid hb
  have HL := Lib.hid hl
  clear h hb hl
  go_enter Try.func101, Try.ntmps101
  go_wp2_with (go_at_call 115; refine (rNum_calls _ _ _ _ _ _ HS.out HB.out HL.out).mono ?_; rintro e w1 ⟨rfl, hb1, hs1⟩; have HB1 := Lib.hid hb1; have HS1 := Lib.hid hs1; clear hb1 hs1)
  go_ret
  exact ⟨rfl, HB1.out, HS1.out⟩
theorem rint8_calls (l : List Int) (hb : bytesOk l) (hl3 : l.length < 140737488355328) (k : Nat) (r : Int) (hr : nthI l k = r) (w : World) (g : Nat) (h : RSrc w g (l.drop (8 * k)) 0) (hl : 8 * (k + 1) ≤ l.length) :
    Calls Try.prog 101 #[.pointer (some ⟨g, 0, none⟩), .bool false] w fun e' w' => e' = .returned (.int .i64 r) ∧ w.grownBy w' (some g) ∧ RSrc w' g (l.drop (8 * (k + 1))) 0 := by
  have := rInt_calls w g (l.drop (8 * k)) 0 false h (bytesOk_drop hb _) (by rw [List.length_drop]; omega)
  rw [numS_full l k hl] at this
  rw [← hr]
  exact this
theorem good_is (b : MBox.Bx) (r : Bool) (w : World) (h : MBox.good b = r) : Calls Try.prog 88 #[.agg #[.bool b.no, .int .i64 b.lx, .int .i64 b.ly, .int .i64 b.hx, .int .i64 b.hy]] w fun e w' => e = .returned (.bool r) ∧ Bel w w' := h ▸ good_calls b w
theorem refGood_is (b : MBox.Bx) (r : Bool) (w : World) (h : MBox.good b = r) : Calls Try.prog 61 #[.agg #[.bool b.no, .int .i64 b.lx, .int .i64 b.ly, .int .i64 b.hx, .int .i64 b.hy]] w fun e w' => e = .returned (.bool r) ∧ Bel w w' := h ▸ refGood_calls b w
theorem left_is (w : World) (g : Nat) (l : List Int) (r : Int) (h : Src w g true l 0) (hr : (l.length : Int) = r) : Calls Try.prog 98 #[.pointer (some ⟨g, 0, none⟩)] w fun e' w' => e' = .returned (.int .i64 r) ∧ w = w' := by
  have := Left_calls w g true l 0 h
  simp only [if_true, hr] at this
  exact this
set_option maxHeartbeats 4000000 in
set_option maxRecDepth 100000 in
theorem boxParse_calls (A : Option Addr) (c : Nat) (l : List Int) (w : World) (h : CB w A l) (hc : l.length ≤ c) (hl : l.length < 100000) (hby : bytesOk l) :
    Calls Try.prog 57 #[.slice A l.length c] w fun e w' => e = .returned (.tuple #[.agg #[.bool ((parseV l).1).no, .int .i64 ((parseV l).1).lx, .int .i64 ((parseV l).1).ly, .int .i64 ((parseV l).1).hx, .int .i64 ((parseV l).1).hy], .int .i64 (parseV l).2]) ∧ Bel w w' := by
  have HI := Lib.hid (int8_calls l hby)
  have HC := Lib.hid h
  have HG := Lib.hid good_is
  have HL := Lib.hid left_is
  clear h hby
  by_cases hs : l.length < 32
  · have hm : parseV l = (MBox.zeroB, 8) := by unfold parseV; rw [if_pos hs]
    rw [hm]
    clear hm
    have R := Blk.new w #[.bool false, .int .i64 0, .int .i64 0, .int .i64 0, .int .i64 0] 38
    have HB : Hid (Below w.heap.size w (w.alloc (.cells #[.bool false, .int .i64 0, .int .i64 0, .int .i64 0, .int .i64 0] 38))) := Lib.hid (by repeat (first | exact Below.refl _ _ | refine Below.drew ?_ | refine Below.alloc ?_ (by simp <;> omega) _))
    go_enter Try.func57, Try.ntmps57
    go_upto_region 1 with (fail)
    obtain ⟨W, hW⟩ : ∃ W, (w.alloc (.cells #[.bool false, .int .i64 0, .int .i64 0, .int .i64 0, .int .i64 0] 38)) = W := ⟨_, rfl⟩
    rw [hW] at R HB ⊢
    clear hW
    obtain ⟨r0, r1, r2, r3, r4⟩ := Blk.cells5 R
    have rf0 := R.froz 0
    have rf1 := R.froz 1
    have rf2 := R.froz 2
    have rf3 := R.froz 3
    have rf4 := R.froz 4
    go_wp2_with fail
    refine bodyPost_ret (v := .tuple #[.agg #[.bool MBox.zeroB.no, .int .i64 MBox.zeroB.lx, .int .i64 MBox.zeroB.ly, .int .i64 MBox.zeroB.hx, .int .i64 MBox.zeroB.hy], .int .i64 8]) ?_ rfl ⟨rfl, below_set5 HB.out (Nat.le_refl _) _ _ _ _ _⟩
    obtain ⟨q0, q1, q2, q3, q4⟩ := Blk.cells5 (Blk.set5 R (x' := .bool false) (y' := .int .i64 0) (z' := .int .i64 0) (p' := .int .i64 0) (q' := .int .i64 0))
    simp [results, Try.results57, go_sem, q0, q1, q2, q3, q4, MBox.zeroB]
  · have hm : parseV l = (if 32 < l.length then (MBox.zeroB, 9) else if MBox.good (boxAt l) = true then (boxAt l, 0) else (MBox.zeroB, 9)) := by unfold parseV; rw [if_neg hs]
    rw [hm]
    clear hm
    have hs' : ¬ (l.length : Int) < 32 := by omega
    unfold boxAt
    obtain ⟨n0, hn0⟩ : ∃ n, nthI l 0 = n := ⟨_, rfl⟩
    obtain ⟨n1, hn1⟩ : ∃ n, nthI l 1 = n := ⟨_, rfl⟩
    obtain ⟨n2, hn2⟩ : ∃ n, nthI l 2 = n := ⟨_, rfl⟩
    obtain ⟨n3, hn3⟩ : ∃ n, nthI l 3 = n := ⟨_, rfl⟩
    rw [hn0, hn1, hn2, hn3]
    have I0 := Lib.hid (HI.out 0 n0 hn0)
    have I1 := Lib.hid (HI.out 1 n1 hn1)
    have I2 := Lib.hid (HI.out 2 n2 hn2)
    have I3 := Lib.hid (HI.out 3 n3 hn3)
    clear HI hn0 hn1 hn2 hn3
    have R := Blk.new w #[.bool false, .int .i64 0, .int .i64 0, .int .i64 0, .int .i64 0] 38
    have HB : Hid (Below w.heap.size w (w.alloc (.cells #[.bool false, .int .i64 0, .int .i64 0, .int .i64 0, .int .i64 0] 38))) := Lib.hid (by repeat (first | exact Below.refl _ _ | refine Below.drew ?_ | refine Below.alloc ?_ (by simp <;> omega) _))
    go_enter Try.func57, Try.ntmps57
    go_upto_region 1 with (fail)
    obtain ⟨W, hW⟩ : ∃ W, (w.alloc (.cells #[.bool false, .int .i64 0, .int .i64 0, .int .i64 0, .int .i64 0] 38)) = W := ⟨_, rfl⟩
    rw [hW] at R HB ⊢
    clear hW
    have CR := Lib.hid (HC.out.below HB.out)
    have hRW := Blk.lt R
    go_upto_region 4 with (go_at_call 54; refine (Read_calls _ A c l CR.out hc (by omega)).mono ?_; rintro e w1 ⟨g, rfl, hg, hb, hs0⟩; have R := Blk.bel R hb; have HB1 := HB; have HB := Lib.hid (bthen HB.out hb); clear hb; have S := Lib.hid hs0; clear hs0)
    have hgw : w.heap.size < g := by omega
    have hg1 : g < w1.heap.size := S.out.lt
    go_wp2_with fail
    have M := Blk.new w1 #[.int .i64 0, .int .i64 0, .int .i64 0, .int .i64 0] 137
    have R := Blk.alloc R (.cells #[.int .i64 0, .int .i64 0, .int .i64 0, .int .i64 0] 137)
    have HB := Lib.hid (HB.out.alloc HB.out.size (.cells #[.int .i64 0, .int .i64 0, .int .i64 0, .int .i64 0] 137))
    have S := Lib.hid (S.out.below ((Bel.refl w1).alloc (Nat.le_refl _) (.cells #[.int .i64 0, .int .i64 0, .int .i64 0, .int .i64 0] 137)))
    obtain ⟨z0, hW⟩ : ∃ W, w1.alloc (.cells #[.int .i64 0, .int .i64 0, .int .i64 0, .int .i64 0] 137) = W := ⟨_, rfl⟩
    rw [hW] at R M HB S ⊢
    obtain ⟨m, hm⟩ : ∃ g, w1.heap.size = g := ⟨_, rfl⟩
    rw [hm] at M hg1 ⊢
    clear hW hm
    have S : Hid (Src z0 g true (l.drop (8 * 0)) 0) := Lib.hid (by have := S.out; simpa using this)
    refine wp_loop_rounds 5 ?_
    rw [rounds_succ]
    go_wp2_with (go_at_call 56; refine (I0.out _ g S.out (by omega)).mono ?_; rintro e y0 ⟨rfl, hg', hs0⟩; have M := Blk.grown M hg' (by omega); have R := Blk.grown R hg' (by omega); have HB := Lib.hid (bgrown HB.out hg' (by omega)); have S := Lib.hid hs0; clear hs0 hg'; have mf := M.froz 0; have mc := M.cell 0 rfl)
    clear mf mc
    have M : Blk (y0.setCell ⟨m, 0, none⟩ (.int .i64 n0)) m #[.int .i64 n0, .int .i64 0, .int .i64 0, .int .i64 0] 137 := M.set 0 (.int .i64 n0)
    have R := R.set_ne (j := m) (i := 0) (by omega) (.int .i64 n0)
    have HB := Lib.hid (below_set HB.out (g := m) (i := 0) (by omega) (.int .i64 n0))
    have S := Lib.hid (S.out.up (set_grown y0 m 0 (.int .i64 n0)) (fun k e => by cases e; omega))
    obtain ⟨z1, hW⟩ : ∃ W, y0.setCell ⟨m, 0, none⟩ (.int .i64 n0) = W := ⟨_, rfl⟩
    rw [hW] at M R HB S ⊢
    clear hW
    rw [rounds_succ]
    go_wp2_with (go_at_call 56; refine (I1.out _ g S.out (by omega)).mono ?_; rintro e y1 ⟨rfl, hg', hs0⟩; have M := Blk.grown M hg' (by omega); have R := Blk.grown R hg' (by omega); have HB := Lib.hid (bgrown HB.out hg' (by omega)); have S := Lib.hid hs0; clear hs0 hg'; have mf := M.froz 1; have mc := M.cell 1 rfl)
    clear mf mc
    have M : Blk (y1.setCell ⟨m, 1, none⟩ (.int .i64 n1)) m #[.int .i64 n0, .int .i64 n1, .int .i64 0, .int .i64 0] 137 := M.set 1 (.int .i64 n1)
    have R := R.set_ne (j := m) (i := 1) (by omega) (.int .i64 n1)
    have HB := Lib.hid (below_set HB.out (g := m) (i := 1) (by omega) (.int .i64 n1))
    have S := Lib.hid (S.out.up (set_grown y1 m 1 (.int .i64 n1)) (fun k e => by cases e; omega))
    obtain ⟨z2, hW⟩ : ∃ W, y1.setCell ⟨m, 1, none⟩ (.int .i64 n1) = W := ⟨_, rfl⟩
    rw [hW] at M R HB S ⊢
    clear hW
    rw [rounds_succ]
    go_wp2_with (go_at_call 56; refine (I2.out _ g S.out (by omega)).mono ?_; rintro e y2 ⟨rfl, hg', hs0⟩; have M := Blk.grown M hg' (by omega); have R := Blk.grown R hg' (by omega); have HB := Lib.hid (bgrown HB.out hg' (by omega)); have S := Lib.hid hs0; clear hs0 hg'; have mf := M.froz 2; have mc := M.cell 2 rfl)
    clear mf mc
    have M : Blk (y2.setCell ⟨m, 2, none⟩ (.int .i64 n2)) m #[.int .i64 n0, .int .i64 n1, .int .i64 n2, .int .i64 0] 137 := M.set 2 (.int .i64 n2)
    have R := R.set_ne (j := m) (i := 2) (by omega) (.int .i64 n2)
    have HB := Lib.hid (below_set HB.out (g := m) (i := 2) (by omega) (.int .i64 n2))
    have S := Lib.hid (S.out.up (set_grown y2 m 2 (.int .i64 n2)) (fun k e => by cases e; omega))
    obtain ⟨z3, hW⟩ : ∃ W, y2.setCell ⟨m, 2, none⟩ (.int .i64 n2) = W := ⟨_, rfl⟩
    rw [hW] at M R HB S ⊢
    clear hW
    rw [rounds_succ]
    go_wp2_with (go_at_call 56; refine (I3.out _ g S.out (by omega)).mono ?_; rintro e y3 ⟨rfl, hg', hs0⟩; have M := Blk.grown M hg' (by omega); have R := Blk.grown R hg' (by omega); have HB := Lib.hid (bgrown HB.out hg' (by omega)); have S := Lib.hid hs0; clear hs0 hg'; have mf := M.froz 3; have mc := M.cell 3 rfl)
    clear mf mc
    have M : Blk (y3.setCell ⟨m, 3, none⟩ (.int .i64 n3)) m #[.int .i64 n0, .int .i64 n1, .int .i64 n2, .int .i64 n3] 137 := M.set 3 (.int .i64 n3)
    have R := R.set_ne (j := m) (i := 3) (by omega) (.int .i64 n3)
    have HB := Lib.hid (below_set HB.out (g := m) (i := 3) (by omega) (.int .i64 n3))
    have S := Lib.hid (S.out.up (set_grown y3 m 3 (.int .i64 n3)) (fun k e => by cases e; omega))
    obtain ⟨z4, hW⟩ : ∃ W, y3.setCell ⟨m, 3, none⟩ (.int .i64 n3) = W := ⟨_, rfl⟩
    rw [hW] at M R HB S ⊢
    clear hW
    obtain ⟨m0, m1, m2, m3⟩ := Blk.cells4 M
    rw [rounds_succ]
    go_upto_region 11 with (fail)
    have X := Blk.new z4 #[.bool false, .int .i64 n0, .int .i64 n2, .int .i64 n1, .int .i64 n3] 38
    have R := Blk.alloc R (.cells #[.bool false, .int .i64 n0, .int .i64 n2, .int .i64 n1, .int .i64 n3] 38)
    have HB := Lib.hid (HB.out.alloc HB.out.size (.cells #[.bool false, .int .i64 n0, .int .i64 n2, .int .i64 n1, .int .i64 n3] 38))
    have S := Lib.hid (S.out.below ((Bel.refl z4).alloc (Nat.le_refl _) (.cells #[.bool false, .int .i64 n0, .int .i64 n2, .int .i64 n1, .int .i64 n3] 38)))
    obtain ⟨z5, hW⟩ : ∃ W, z4.alloc (.cells #[.bool false, .int .i64 n0, .int .i64 n2, .int .i64 n1, .int .i64 n3] 38) = W := ⟨_, rfl⟩
    rw [hW] at R X HB S ⊢
    obtain ⟨k5, hk⟩ : ∃ g, z4.heap.size = g := ⟨_, rfl⟩
    rw [hk] at X ⊢
    clear hW hk M m0 m1 m2 m3
    obtain ⟨x0, x1, x2, x3, x4⟩ := Blk.cells5 X
    obtain ⟨r, hr⟩ : ∃ r : Int, ((l.drop (8 * (3 + 1))).length : Int) = r := ⟨_, rfl⟩
    have hr2 : r = (l.length : Int) - 32 := by rw [← hr, List.length_drop]; omega
    have HR := Lib.hid hr
    clear hr
    by_cases hlt : 32 < l.length
    · have hr3 : decide ((0 : Int) < r) = true := by simp; omega
      have hr2 := Lib.hid hr2
      go_upto_region 12 with (go_at_call 98; refine (HL.out _ g _ r S.out HR.out).mono ?_; rintro e w' ⟨rfl, rfl⟩)
      have R2 := Blk.set5 R (x' := .bool false) (y' := .int .i64 0) (z' := .int .i64 0) (p' := .int .i64 0) (q' := .int .i64 0)
      obtain ⟨r0, r1, r2, r3, r4⟩ := Blk.cells5 R
      have f0 := R.froz 0; have f1 := R.froz 1; have f2 := R.froz 2; have f3 := R.froz 3; have f4 := R.froz 4
      go_wp2_with fail
      refine bodyPost_ret (v := .tuple #[.agg #[.bool false, .int .i64 0, .int .i64 0, .int .i64 0, .int .i64 0], .int .i64 9]) ?_ rfl ⟨rfl, below_set5 HB.out (Nat.le_refl _) _ _ _ _ _⟩
      obtain ⟨q0, q1, q2, q3, q4⟩ := Blk.cells5 R2
      simp [results, Try.results57, go_sem, q0, q1, q2, q3, q4]
    · have hr3 : decide ((0 : Int) < r) = false := by simp; omega
      have hr2 := Lib.hid hr2
      cases hgd : MBox.good ⟨false, n0, n2, n1, n3⟩
      · go_upto_region 12 with (first | (go_at_call 98; refine (HL.out _ g _ r S.out HR.out).mono ?_; rintro e w' ⟨rfl, rfl⟩) | (go_at_call 88; refine (HG.out _ _ _ hgd).mono ?_; rintro e w' ⟨rfl, hb⟩; have R := Blk.bel R hb; have X := Blk.bel X hb; have HB := Lib.hid (bthen HB.out hb); clear hb x0 x1 x2 x3 x4; obtain ⟨x0, x1, x2, x3, x4⟩ := Blk.cells5 X))
        have R2 := Blk.set5 R (x' := .bool false) (y' := .int .i64 0) (z' := .int .i64 0) (p' := .int .i64 0) (q' := .int .i64 0)
        obtain ⟨r0, r1, r2, r3, r4⟩ := Blk.cells5 R
        have f0 := R.froz 0; have f1 := R.froz 1; have f2 := R.froz 2; have f3 := R.froz 3; have f4 := R.froz 4
        go_wp2_with fail
        refine bodyPost_ret (v := .tuple #[.agg #[.bool false, .int .i64 0, .int .i64 0, .int .i64 0, .int .i64 0], .int .i64 9]) ?_ rfl ⟨rfl, below_set5 HB.out (Nat.le_refl _) _ _ _ _ _⟩
        obtain ⟨q0, q1, q2, q3, q4⟩ := Blk.cells5 R2
        simp [results, Try.results57, go_sem, q0, q1, q2, q3, q4]
      · go_upto_region 13 with (first | (go_at_call 98; refine (HL.out _ g _ r S.out HR.out).mono ?_; rintro e w' ⟨rfl, rfl⟩) | (go_at_call 88; refine (HG.out _ _ _ hgd).mono ?_; rintro e w' ⟨rfl, hb⟩; have R := Blk.bel R hb; have X := Blk.bel X hb; have HB := Lib.hid (bthen HB.out hb); clear hb x0 x1 x2 x3 x4; obtain ⟨x0, x1, x2, x3, x4⟩ := Blk.cells5 X))
        have R2 := Blk.set5 R (x' := .bool false) (y' := .int .i64 n0) (z' := .int .i64 n2) (p' := .int .i64 n1) (q' := .int .i64 n3)
        obtain ⟨r0, r1, r2, r3, r4⟩ := Blk.cells5 R
        have f0 := R.froz 0; have f1 := R.froz 1; have f2 := R.froz 2; have f3 := R.froz 3; have f4 := R.froz 4
        go_wp2_with fail
        refine bodyPost_ret (v := .tuple #[.agg #[.bool false, .int .i64 n0, .int .i64 n2, .int .i64 n1, .int .i64 n3], .int .i64 0]) ?_ rfl ⟨rfl, below_set5 HB.out (Nat.le_refl _) _ _ _ _ _⟩
        obtain ⟨q0, q1, q2, q3, q4⟩ := Blk.cells5 R2
        simp [results, Try.results57, go_sem, q0, q1, q2, q3, q4]
set_option maxHeartbeats 4000000 in
set_option maxRecDepth 100000 in
theorem refParse_calls (A : Option Addr) (c : Nat) (l : List Int) (w : World) (h : CB w A l) (hc : l.length ≤ c) (hl : l.length < 100000) (hby : bytesOk l) :
    Calls Try.prog 60 #[.slice A l.length c] w fun e w' => e = .returned (.tuple #[.agg #[.bool ((parseV l).1).no, .int .i64 ((parseV l).1).lx, .int .i64 ((parseV l).1).ly, .int .i64 ((parseV l).1).hx, .int .i64 ((parseV l).1).hy], .int .i64 (parseV l).2]) ∧ Bel w w' := by
  have HI := Lib.hid (rint8_calls l hby (by omega))
  have HC := Lib.hid h
  have HG := Lib.hid refGood_is
  clear h hby
  by_cases hs : l.length < 32
  · have hm : parseV l = (MBox.zeroB, 8) := by unfold parseV; rw [if_pos hs]
    rw [hm]
    clear hm
    have R := Blk.new w #[.bool false, .int .i64 0, .int .i64 0, .int .i64 0, .int .i64 0] 38
    have HB : Hid (Below w.heap.size w (w.alloc (.cells #[.bool false, .int .i64 0, .int .i64 0, .int .i64 0, .int .i64 0] 38))) := Lib.hid (by repeat (first | exact Below.refl _ _ | refine Below.drew ?_ | refine Below.alloc ?_ (by simp <;> omega) _))
    go_enter Try.func60, Try.ntmps60
    go_upto_region 1 with (fail)
    obtain ⟨W, hW⟩ : ∃ W, (w.alloc (.cells #[.bool false, .int .i64 0, .int .i64 0, .int .i64 0, .int .i64 0] 38)) = W := ⟨_, rfl⟩
    rw [hW] at R HB ⊢
    clear hW
    obtain ⟨r0, r1, r2, r3, r4⟩ := Blk.cells5 R
    have rf0 := R.froz 0
    have rf1 := R.froz 1
    have rf2 := R.froz 2
    have rf3 := R.froz 3
    have rf4 := R.froz 4
    go_wp2_with fail
    refine bodyPost_ret (v := .tuple #[.agg #[.bool MBox.zeroB.no, .int .i64 MBox.zeroB.lx, .int .i64 MBox.zeroB.ly, .int .i64 MBox.zeroB.hx, .int .i64 MBox.zeroB.hy], .int .i64 8]) ?_ rfl ⟨rfl, below_set5 HB.out (Nat.le_refl _) _ _ _ _ _⟩
    obtain ⟨q0, q1, q2, q3, q4⟩ := Blk.cells5 (Blk.set5 R (x' := .bool false) (y' := .int .i64 0) (z' := .int .i64 0) (p' := .int .i64 0) (q' := .int .i64 0))
    simp [results, Try.results60, go_sem, q0, q1, q2, q3, q4, MBox.zeroB]
  · have hm : parseV l = (if 32 < l.length then (MBox.zeroB, 9) else if MBox.good (boxAt l) = true then (boxAt l, 0) else (MBox.zeroB, 9)) := by unfold parseV; rw [if_neg hs]
    rw [hm]
    clear hm
    have hs' : ¬ (l.length : Int) < 32 := by omega
    unfold boxAt
    obtain ⟨n0, hn0⟩ : ∃ n, nthI l 0 = n := ⟨_, rfl⟩
    obtain ⟨n1, hn1⟩ : ∃ n, nthI l 1 = n := ⟨_, rfl⟩
    obtain ⟨n2, hn2⟩ : ∃ n, nthI l 2 = n := ⟨_, rfl⟩
    obtain ⟨n3, hn3⟩ : ∃ n, nthI l 3 = n := ⟨_, rfl⟩
    rw [hn0, hn1, hn2, hn3]
    have I0 := Lib.hid (HI.out 0 n0 hn0)
    have I1 := Lib.hid (HI.out 1 n1 hn1)
    have I2 := Lib.hid (HI.out 2 n2 hn2)
    have I3 := Lib.hid (HI.out 3 n3 hn3)
    clear HI hn0 hn1 hn2 hn3
    have R := Blk.new w #[.bool false, .int .i64 0, .int .i64 0, .int .i64 0, .int .i64 0] 38
    have HB : Hid (Below w.heap.size w (w.alloc (.cells #[.bool false, .int .i64 0, .int .i64 0, .int .i64 0, .int .i64 0] 38))) := Lib.hid (by repeat (first | exact Below.refl _ _ | refine Below.drew ?_ | refine Below.alloc ?_ (by simp <;> omega) _))
    go_enter Try.func60, Try.ntmps60
    go_upto_region 1 with (fail)
    obtain ⟨W, hW⟩ : ∃ W, (w.alloc (.cells #[.bool false, .int .i64 0, .int .i64 0, .int .i64 0, .int .i64 0] 38)) = W := ⟨_, rfl⟩
    rw [hW] at R HB ⊢
    clear hW
    have CR := Lib.hid (HC.out.below HB.out)
    have hRW := Blk.lt R
    go_upto_region 5 with (go_at_call 100; refine (rRead_calls _ A c l CR.out hc (by omega)).mono ?_; rintro e w1 ⟨g, rfl, hg, hb, hs0⟩; have R := Blk.bel R hb; have HB1 := HB; have HB := Lib.hid (bthen HB.out hb); clear hb; have S := Lib.hid hs0; clear hs0)
    have hgw : w.heap.size < g := by omega
    have hg1 : g < w1.heap.size := S.out.lt
    have M := Blk.new w1 #[.bool false, .int .i64 0, .int .i64 0, .int .i64 0, .int .i64 0] 38
    have R := Blk.alloc R (.cells #[.bool false, .int .i64 0, .int .i64 0, .int .i64 0, .int .i64 0] 38)
    have HB := Lib.hid (HB.out.alloc HB.out.size (.cells #[.bool false, .int .i64 0, .int .i64 0, .int .i64 0, .int .i64 0] 38))
    have S := Lib.hid (S.out.below ((Bel.refl w1).alloc (Nat.le_refl _) (.cells #[.bool false, .int .i64 0, .int .i64 0, .int .i64 0, .int .i64 0] 38)))
    obtain ⟨z0, hW⟩ : ∃ W, w1.alloc (.cells #[.bool false, .int .i64 0, .int .i64 0, .int .i64 0, .int .i64 0] 38) = W := ⟨_, rfl⟩
    rw [hW] at R M HB S ⊢
    obtain ⟨m, hm⟩ : ∃ g, w1.heap.size = g := ⟨_, rfl⟩
    rw [hm] at M hg1 ⊢
    clear hW hm
    have S : Hid (RSrc z0 g (l.drop (8 * 0)) 0) := Lib.hid (by have := S.out; simpa using this)
    go_upto_region 6 with (go_at_call 101; refine (I0.out _ g S.out (by omega)).mono ?_; rintro e y0 ⟨rfl, hg', hs0⟩; have M := Blk.grown M hg' (by omega); have R := Blk.grown R hg' (by omega); have HB := Lib.hid (bgrown HB.out hg' (by omega)); have S := Lib.hid hs0; clear hs0 hg'; have mf := M.froz 1; have mc := M.cell 1 rfl)
    clear mf mc
    have M : Blk (y0.setCell ⟨m, 1, none⟩ (.int .i64 n0)) m #[.bool false, .int .i64 n0, .int .i64 0, .int .i64 0, .int .i64 0] 38 := M.set 1 (.int .i64 n0)
    have R := R.set_ne (j := m) (i := 1) (by omega) (.int .i64 n0)
    have HB := Lib.hid (below_set HB.out (g := m) (i := 1) (by omega) (.int .i64 n0))
    have S := Lib.hid (S.out.up (set_grown y0 m 1 (.int .i64 n0)) (fun k e => by cases e; omega))
    obtain ⟨z1, hW⟩ : ∃ W, y0.setCell ⟨m, 1, none⟩ (.int .i64 n0) = W := ⟨_, rfl⟩
    rw [hW] at M R HB S ⊢
    clear hW
    go_upto_region 7 with (go_at_call 101; refine (I1.out _ g S.out (by omega)).mono ?_; rintro e y1 ⟨rfl, hg', hs0⟩; have M := Blk.grown M hg' (by omega); have R := Blk.grown R hg' (by omega); have HB := Lib.hid (bgrown HB.out hg' (by omega)); have S := Lib.hid hs0; clear hs0 hg'; have mf := M.froz 3; have mc := M.cell 3 rfl)
    clear mf mc
    have M : Blk (y1.setCell ⟨m, 3, none⟩ (.int .i64 n1)) m #[.bool false, .int .i64 n0, .int .i64 0, .int .i64 n1, .int .i64 0] 38 := M.set 3 (.int .i64 n1)
    have R := R.set_ne (j := m) (i := 3) (by omega) (.int .i64 n1)
    have HB := Lib.hid (below_set HB.out (g := m) (i := 3) (by omega) (.int .i64 n1))
    have S := Lib.hid (S.out.up (set_grown y1 m 3 (.int .i64 n1)) (fun k e => by cases e; omega))
    obtain ⟨z2, hW⟩ : ∃ W, y1.setCell ⟨m, 3, none⟩ (.int .i64 n1) = W := ⟨_, rfl⟩
    rw [hW] at M R HB S ⊢
    clear hW
    go_upto_region 8 with (go_at_call 101; refine (I2.out _ g S.out (by omega)).mono ?_; rintro e y2 ⟨rfl, hg', hs0⟩; have M := Blk.grown M hg' (by omega); have R := Blk.grown R hg' (by omega); have HB := Lib.hid (bgrown HB.out hg' (by omega)); have S := Lib.hid hs0; clear hs0 hg'; have mf := M.froz 2; have mc := M.cell 2 rfl)
    clear mf mc
    have M : Blk (y2.setCell ⟨m, 2, none⟩ (.int .i64 n2)) m #[.bool false, .int .i64 n0, .int .i64 n2, .int .i64 n1, .int .i64 0] 38 := M.set 2 (.int .i64 n2)
    have R := R.set_ne (j := m) (i := 2) (by omega) (.int .i64 n2)
    have HB := Lib.hid (below_set HB.out (g := m) (i := 2) (by omega) (.int .i64 n2))
    have S := Lib.hid (S.out.up (set_grown y2 m 2 (.int .i64 n2)) (fun k e => by cases e; omega))
    obtain ⟨z3, hW⟩ : ∃ W, y2.setCell ⟨m, 2, none⟩ (.int .i64 n2) = W := ⟨_, rfl⟩
    rw [hW] at M R HB S ⊢
    clear hW
    go_upto_region 9 with (go_at_call 101; refine (I3.out _ g S.out (by omega)).mono ?_; rintro e y3 ⟨rfl, hg', hs0⟩; have M := Blk.grown M hg' (by omega); have R := Blk.grown R hg' (by omega); have HB := Lib.hid (bgrown HB.out hg' (by omega)); have S := Lib.hid hs0; clear hs0 hg'; have mf := M.froz 4; have mc := M.cell 4 rfl)
    clear mf mc
    have M : Blk (y3.setCell ⟨m, 4, none⟩ (.int .i64 n3)) m #[.bool false, .int .i64 n0, .int .i64 n2, .int .i64 n1, .int .i64 n3] 38 := M.set 4 (.int .i64 n3)
    have R := R.set_ne (j := m) (i := 4) (by omega) (.int .i64 n3)
    have HB := Lib.hid (below_set HB.out (g := m) (i := 4) (by omega) (.int .i64 n3))
    have S := Lib.hid (S.out.up (set_grown y3 m 4 (.int .i64 n3)) (fun k e => by cases e; omega))
    obtain ⟨z4, hW⟩ : ∃ W, y3.setCell ⟨m, 4, none⟩ (.int .i64 n3) = W := ⟨_, rfl⟩
    rw [hW] at M R HB S ⊢
    clear hW
    have X := M
    obtain ⟨x0, x1, x2, x3, x4⟩ := Blk.cells5 X
    by_cases hlt : 32 < l.length
    · have hr3 : decide ((32 : Int) < (l.length : Int)) = true := by simp; omega
      go_upto_region 10 with (fail)
      have R2 := Blk.set5 R (x' := .bool false) (y' := .int .i64 0) (z' := .int .i64 0) (p' := .int .i64 0) (q' := .int .i64 0)
      obtain ⟨r0, r1, r2, r3, r4⟩ := Blk.cells5 R
      have f0 := R.froz 0; have f1 := R.froz 1; have f2 := R.froz 2; have f3 := R.froz 3; have f4 := R.froz 4
      go_wp2_with fail
      refine bodyPost_ret (v := .tuple #[.agg #[.bool false, .int .i64 0, .int .i64 0, .int .i64 0, .int .i64 0], .int .i64 9]) ?_ rfl ⟨rfl, below_set5 HB.out (Nat.le_refl _) _ _ _ _ _⟩
      obtain ⟨q0, q1, q2, q3, q4⟩ := Blk.cells5 R2
      simp [results, Try.results60, go_sem, q0, q1, q2, q3, q4]
    · have hr3 : decide ((32 : Int) < (l.length : Int)) = false := by simp; omega
      have hr4 : ¬ (32 : Int) < (l.length : Int) := by omega
      cases hgd : MBox.good ⟨false, n0, n2, n1, n3⟩
      · go_upto_region 10 with (go_at_call 61; refine (HG.out ⟨false, n0, n2, n1, n3⟩ _ _ hgd).mono ?_; rintro e w' ⟨rfl, hb⟩; have R := Blk.bel R hb; have X := Blk.bel X hb; have HB := Lib.hid (bthen HB.out hb); clear hb x0 x1 x2 x3 x4; obtain ⟨x0, x1, x2, x3, x4⟩ := Blk.cells5 X)
        have R2 := Blk.set5 R (x' := .bool false) (y' := .int .i64 0) (z' := .int .i64 0) (p' := .int .i64 0) (q' := .int .i64 0)
        obtain ⟨r0, r1, r2, r3, r4⟩ := Blk.cells5 R
        have f0 := R.froz 0; have f1 := R.froz 1; have f2 := R.froz 2; have f3 := R.froz 3; have f4 := R.froz 4
        go_wp2_with fail
        refine bodyPost_ret (v := .tuple #[.agg #[.bool false, .int .i64 0, .int .i64 0, .int .i64 0, .int .i64 0], .int .i64 9]) ?_ rfl ⟨rfl, below_set5 HB.out (Nat.le_refl _) _ _ _ _ _⟩
        obtain ⟨q0, q1, q2, q3, q4⟩ := Blk.cells5 R2
        simp [results, Try.results60, go_sem, q0, q1, q2, q3, q4]
      · go_upto_region 11 with (go_at_call 61; refine (HG.out ⟨false, n0, n2, n1, n3⟩ _ _ hgd).mono ?_; rintro e w' ⟨rfl, hb⟩; have R := Blk.bel R hb; have X := Blk.bel X hb; have HB := Lib.hid (bthen HB.out hb); clear hb x0 x1 x2 x3 x4; obtain ⟨x0, x1, x2, x3, x4⟩ := Blk.cells5 X)
        have R2 := Blk.set5 R (x' := .bool false) (y' := .int .i64 n0) (z' := .int .i64 n2) (p' := .int .i64 n1) (q' := .int .i64 n3)
        obtain ⟨r0, r1, r2, r3, r4⟩ := Blk.cells5 R
        have f0 := R.froz 0; have f1 := R.froz 1; have f2 := R.froz 2; have f3 := R.froz 3; have f4 := R.froz 4
        go_wp2_with fail
        refine bodyPost_ret (v := .tuple #[.agg #[.bool false, .int .i64 n0, .int .i64 n2, .int .i64 n1, .int .i64 n3], .int .i64 0]) ?_ rfl ⟨rfl, below_set5 HB.out (Nat.le_refl _) _ _ _ _ _⟩
        obtain ⟨q0, q1, q2, q3, q4⟩ := Blk.cells5 R2
        simp [results, Try.results60, go_sem, q0, q1, q2, q3, q4]

end Go.Proofs.Ytljcingmjemohaa.K
