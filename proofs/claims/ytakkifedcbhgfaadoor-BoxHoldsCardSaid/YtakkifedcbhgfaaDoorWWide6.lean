/- Products and spans. -/
import Derived.Test.YtakkifedcbhgfaaDoorBase
import Derived.Handy
import Derived.Test.YtakkifedcbhgfaaDoorWWide5
import Derived.Shelf.Bits.Mul64
import Derived.Shelf.Strconv.Itoa0
namespace Go.Proofs.YtakkifedcbhgfaaDoor.K
open Go Go.RowKit Go.Proofs.YtakkifedcbhgfaaDoorW.PrintWords Go.Proofs.YtakkifedcbhgfaaDoorW.PrintLast Go.Proofs.YtakkifedcbhgfaaDoorW.PrintMore
set_option linter.unusedVariables false
set_option linter.unusedSimpArgs false
open Go.Proofs.YtakkifedcbhgfaaDoor.MWide (bt W64 U192 addV subV addOk subOk cry sumO bor difO cmpV width)
def ren : Go.Shelf.Ren := ⟨fun k => if k = 264 then 61 else if k = 129 then 79 else 0, fun t => if t = 46 then 85 else if t = 53 then 22 else if t = 3 then 3 else if t = 4 then 4 else if t = 5 then 5 else if t = 9 then 9 else 0, fun _ => 0⟩
theorem layMul : Lays.n264 Tryd.prog ren := {
  mixed := by kernel_rfl
  f264 := Tryd.func61.trans (by kernel_rfl)
  t46 := Tryd.underlying85
  a46 := fun w => by simp [isAgg, ren, run_underlying Tryd.underlying85]
  z46 := fun w => by kernel_rfl
  v46 := fun w => by kernel_rfl
  t53 := Tryd.underlying22
  a53 := fun w => by simp [isAgg, ren, run_underlying Tryd.underlying22]
  z53 := fun w => by kernel_rfl
  v53 := fun w => by kernel_rfl }
theorem layLen : Lays.n129 Tryd.prog ren := {
  mixed := by kernel_rfl
  f129 := Tryd.func79.trans (by kernel_rfl)
  t3 := Tryd.underlying3
  a3 := fun w => by simp [isAgg, ren, run_underlying Tryd.underlying3]
  z3 := fun w => by kernel_rfl
  v3 := fun w => by kernel_rfl
  t4 := Tryd.underlying4
  a4 := fun w => by simp [isAgg, ren, run_underlying Tryd.underlying4]
  z4 := fun w => by kernel_rfl
  v4 := fun w => by kernel_rfl
  t5 := Tryd.underlying5
  a5 := fun w => by simp [isAgg, ren, run_underlying Tryd.underlying5]
  z5 := fun w => by kernel_rfl
  v5 := fun w => by kernel_rfl
  t9 := Tryd.underlying9
  a9 := fun w => by simp [isAgg, ren, run_underlying Tryd.underlying9]
  z9 := fun w => by kernel_rfl
  v9 := fun w => by kernel_rfl
  t46 := Tryd.underlying85
  a46 := fun w => by simp [isAgg, ren, run_underlying Tryd.underlying85]
  z46 := fun w => by kernel_rfl
  v46 := fun w => by kernel_rfl
  t53 := Tryd.underlying22
  a53 := fun w => by simp [isAgg, ren, run_underlying Tryd.underlying22]
  z53 := fun w => by kernel_rfl
  v53 := fun w => by kernel_rfl }
theorem Mul64_calls (x y : Int) (hx : W64 x) (hy : W64 y) (w : World) :
    Calls Tryd.prog 61 #[.int .u64 x, .int .u64 y] w fun e w' => e = .returned (.tuple #[.int .u64 (x * y / 18446744073709551616), .int .u64 (x * y % 18446744073709551616)]) ∧ w = w' := by
  obtain ⟨hx0, hx1⟩ := hx
  obtain ⟨hy0, hy1⟩ := hy
  obtain ⟨x, rfl⟩ := Int.eq_ofNat_of_zero_le hx0
  obtain ⟨y, rfl⟩ := Int.eq_ofNat_of_zero_le hy0
  have := Any.bits_Mul64 layMul x y (by omega) (by omega) w
  have e1 : ((x * y / 18446744073709551616 : Nat) : Int) = (x : Int) * y / 18446744073709551616 := by rw [Int.natCast_ediv, Int.natCast_mul]; rfl
  have e2 : ((x * y % 18446744073709551616 : Nat) : Int) = (x : Int) * y % 18446744073709551616 := by rw [Int.natCast_emod, Int.natCast_mul]; rfl
  rw [e1, e2] at this
  exact this.mono fun e w' h => ⟨h.1, h.2.symm⟩
theorem bitLen_width {x : Int} (h : W64 x) : ((Lib.bitLen x.toNat : Nat) : Int) = width x := by
  obtain ⟨h0, h1⟩ := h
  obtain ⟨n, rfl⟩ := Int.eq_ofNat_of_zero_le h0
  rw [Int.toNat_natCast]
  by_cases hz : n = 0
  · subst hz; rfl
  · have hl := Nat.log2_self_le hz
    have hg := Nat.lt_log2_self (n := n)
    rw [Lib.bitLen_shift n.log2 n hl (by omega)]
    have : n / 2 ^ n.log2 = 1 := Nat.div_eq_of_lt_le (by omega) (by rw [Nat.pow_succ] at hg; omega)
    rw [this]
    unfold width
    rw [if_neg (by omega), Int.toNat_natCast, show Lib.bitLen 1 = 1 from rfl]
    omega
theorem Len64_calls (x : Int) (h : W64 x) (w : World) : Calls Tryd.prog 79 #[.int .u64 x] w fun e w' => e = .returned (.int .i64 (width x)) ∧ w = w' := by
  have := Any.bits_Len64 layLen x w h.1 (by have := h.2; omega)
  rw [bitLen_width h] at this
  exact this.mono fun e w' h => ⟨h.1, h.2.symm⟩
theorem Of_calls (n : Int) (h : W64 n) (w : World) : Calls Tryd.prog 18 #[.int .u64 n] w fun e w' => e = .returned (.agg #[.int .u64 (MWide.w0 n), .int .u64 (MWide.w1 n), .int .u64 (MWide.w2 n)]) ∧ Bel w w' := by
  have H := Lib.hid h
  clear h
  go_enter Tryd.func18, Tryd.ntmps18
  go_wp2
  refine bodyPost_ret (v := .agg #[.int .u64 (MWide.w0 n), .int .u64 (MWide.w1 n), .int .u64 (MWide.w2 n)]) ?_ rfl ⟨rfl, (by repeat (first | exact Below.refl _ _ | refine Below.drew ?_ | refine Below.alloc ?_ (by simp <;> omega) _))⟩
  rw [MWide.w0_64' H.out, MWide.w1_64' H.out, MWide.w2_64' H.out]
  simp [results, Tryd.results18, go_sem]
def spanV (a b : Int) : Int := if b < a then 0 else b - a
theorem spanV_64 {a b : Int} (ha0 : -9223372036854775808 ≤ a) (ha1 : a ≤ 9223372036854775807) (hb0 : -9223372036854775808 ≤ b) (hb1 : b ≤ 9223372036854775807) : W64 (spanV a b) := by
  unfold spanV W64; split <;> omega
theorem Span_calls (a b : Int) (ha0 : -9223372036854775808 ≤ a) (ha1 : a ≤ 9223372036854775807) (hb0 : -9223372036854775808 ≤ b) (hb1 : b ≤ 9223372036854775807) (w : World) :
    Calls Tryd.prog 16 #[.int .i64 a, .int .i64 b] w fun e w' => e = .returned (.int .u64 (spanV a b)) ∧ w = w' := by
  by_cases h : b < a
  · have hs : spanV a b = 0 := by unfold spanV; rw [if_pos h]
    have HS := Lib.hid hs
    clear hs
    go_enter Tryd.func16, Tryd.ntmps16
    go_wp2
    go_ret
    exact ⟨by rw [HS.out]; rfl, rfl⟩
  · have hs : spanV a b = IntKind.u64.wrap (IntKind.u64.wrap b - IntKind.u64.wrap a) := by
      unfold spanV; rw [if_neg h, IntKind.wrap_u64, IntKind.wrap_u64, IntKind.wrap_u64]; omega
    have HS := Lib.hid hs
    clear hs
    go_enter Tryd.func16, Tryd.ntmps16
    go_wp2
    go_ret
    exact ⟨by rw [HS.out]; rfl, rfl⟩
theorem refSpan_calls (a b : Int) (ha0 : -9223372036854775808 ≤ a) (ha1 : a ≤ 9223372036854775807) (hb0 : -9223372036854775808 ≤ b) (hb1 : b ≤ 9223372036854775807) (w : World) :
    Calls Tryd.prog 17 #[.int .i64 a, .int .i64 b] w fun e w' => e = .returned (.int .u64 (spanV a b)) ∧ w = w' := by
  by_cases h : b < a
  · have hs : spanV a b = 0 := by unfold spanV; rw [if_pos h]
    have HS := Lib.hid hs
    clear hs
    go_enter Tryd.func17, Tryd.ntmps17
    go_wp2
    go_ret
    exact ⟨by rw [HS.out]; rfl, rfl⟩
  · have hs : spanV a b = IntKind.u64.wrap (IntKind.u64.wrap b - IntKind.u64.wrap a) := by
      unfold spanV; rw [if_neg h, IntKind.wrap_u64, IntKind.wrap_u64, IntKind.wrap_u64]; omega
    have HS := Lib.hid hs
    clear hs
    go_enter Tryd.func17, Tryd.ntmps17
    go_wp2
    go_ret
    exact ⟨by rw [HS.out]; rfl, rfl⟩
theorem Times_calls (a b : Int) (ha : W64 a) (hb : W64 b) (w : World) :
    Calls Tryd.prog 14 #[.int .u64 a, .int .u64 b] w fun e w' => e = .returned (.agg #[.int .u64 (MWide.w0 (a * b)), .int .u64 (MWide.w1 (a * b)), .int .u64 (MWide.w2 (a * b))]) ∧ Bel w w' := by
  have HM := Lib.hid (fun w => Mul64_calls a b ha hb w)
  have hm := MWide.w_mul ha hb
  have e0 : MWide.w0 (a * b) = a * b % 18446744073709551616 := rfl
  have e1 : MWide.w1 (a * b) = a * b / 18446744073709551616 := by unfold MWide.w1; omega
  have e2 : MWide.w2 (a * b) = 0 := by unfold MWide.w2; omega
  have HE := Lib.hid (And.intro e0 (And.intro e1 e2))
  clear ha hb hm e0 e1 e2
  go_enter Tryd.func14, Tryd.ntmps14
  go_wp2_with (go_at_call 61; refine (HM.out _).mono ?_; rintro e w' ⟨rfl, rfl⟩)
  obtain ⟨e0, e1, e2⟩ := HE.out
  refine bodyPost_ret (v := .agg #[.int .u64 (MWide.w0 (a * b)), .int .u64 (MWide.w1 (a * b)), .int .u64 (MWide.w2 (a * b))]) ?_ rfl ⟨rfl, (by repeat (first | exact Below.refl _ _ | refine Below.drew ?_ | refine Below.alloc ?_ (by simp <;> omega) _))⟩
  rw [e0, e1, e2]
  simp [results, Tryd.results14, go_sem]

end Go.Proofs.YtakkifedcbhgfaaDoor.K
