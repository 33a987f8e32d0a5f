/- The walks of Zig and Zag. -/
import Derived.Test.YtlfcgicobhalmaaBase
import Derived.Test.YtlfcgicobhalmaaWSrc2
import Derived.Test.YtlfcgicobhalmaaOps
import Derived.Test.YtlfcgicobhalmaaRegGen
import Derived.Test.YtlfcgicobhalmaaMGet
import Derived.Test.YtlfcgicobhalmaaMCell
namespace Go.Proofs.Ytlfcgicobhalmaa.K
open Go Go.RowKit Go.Proofs.YtlfcgicobhalmaaW.PrintWords Go.Proofs.YtlfcgicobhalmaaW.PrintLast Go.Proofs.YtlfcgicobhalmaaW.PrintMore
set_option linter.unusedVariables false
set_option linter.unusedSimpArgs false
open Go.Proofs.Ytlfcgicobhalmaa.MOct (W V tk sz vr num head getV le be many putL)

set_option maxRecDepth 100000 in
theorem Zig_calls (n : Int) (w : World) (h0 : -9223372036854775808 ≤ n) (h1 : n < 9223372036854775808) : Calls Try.prog 22 #[.int .i64 n] w fun e w' => e = .returned (.int .u64 (MOct.zig n)) ∧ w = w' := by
  by_cases hn : 0 ≤ n
  · have e : MOct.zig n = 2 * n := by unfold MOct.zig; rw [if_pos hn]
    have hx := MOct.xor0_u64 (2 * n) (by omega) (by omega)
    rw [e]
    go_enter Try.func22, Try.ntmps22
    go_wp2
    go_ret
    refine ⟨?_, rfl⟩
    show Ending.returned (Value.int .u64 (bits .xor .u64 (n * 2) (n / 9223372036854775808))) = _
    have e1 : n / 9223372036854775808 = 0 := by omega
    have e2 : n * 2 = 2 * n := by omega
    rw [e1, e2, hx]
  · have e : MOct.zig n = -2 * n - 1 := by unfold MOct.zig; rw [if_neg hn]
    rw [e]
    go_enter Try.func22, Try.ntmps22
    go_wp2
    go_ret
    refine ⟨?_, rfl⟩
    show Ending.returned (Value.int .u64 (bits .xor .u64 (IntKind.u64.wrap (IntKind.u64.wrap n * 2)) (IntKind.u64.wrap (n / 9223372036854775808)))) = _
    have e1 : IntKind.u64.wrap (n / 9223372036854775808) = 18446744073709551615 := by rw [IntKind.wrap_u64]; omega
    have e2 : IntKind.u64.wrap (IntKind.u64.wrap n * 2) = 18446744073709551616 + 2 * n := by rw [IntKind.wrap_u64, IntKind.wrap_u64]; omega
    rw [e1, e2, MOct.xor1_u64 _ (by omega) (by omega)]
    congr 2
    omega
set_option maxRecDepth 100000 in
theorem Zag_calls (z : Int) (w : World) (h0 : 0 ≤ z) (h1 : z < 18446744073709551616) : Calls Try.prog 23 #[.int .u64 z] w fun e w' => e = .returned (.int .i64 (MOct.zag z)) ∧ w = w' := by
  by_cases hz : z % 2 = 0
  · have e : MOct.zag z = z / 2 := by unfold MOct.zag; rw [if_pos hz]
    rw [e]
    go_enter Try.func23, Try.ntmps23
    go_wp2
    go_ret
    refine ⟨?_, rfl⟩
    show Ending.returned (Value.int .i64 (bits .xor .i64 (z / 2) (wrap64 (-wrap64 (bits .and .u64 z 1))))) = _
    have e1 : bits .and .u64 z 1 = 0 := by rw [MOct.and1_u64 z h0 h1, hz]
    have e2 : wrap64 (-wrap64 0) = 0 := by rw [Go.IntWalk.wrap64_in 0 (by omega)]; exact Go.IntWalk.wrap64_in _ (by omega)
    rw [e1, e2, MOct.xor0_i64 _ (by omega) (by omega)]
  · have e : MOct.zag z = -(z / 2) - 1 := by unfold MOct.zag; rw [if_neg hz]
    rw [e]
    go_enter Try.func23, Try.ntmps23
    go_wp2
    go_ret
    refine ⟨?_, rfl⟩
    show Ending.returned (Value.int .i64 (bits .xor .i64 (z / 2) (wrap64 (-wrap64 (bits .and .u64 z 1))))) = _
    have e1 : bits .and .u64 z 1 = 1 := by rw [MOct.and1_u64 z h0 h1]; omega
    have e2 : wrap64 (-wrap64 1) = -1 := by rw [Go.IntWalk.wrap64_in 1 (by omega)]; exact Go.IntWalk.wrap64_in _ (by omega)
    rw [e1, e2, MOct.xor1_i64 _ (by omega) (by omega)]
    congr 2
    omega
end Go.Proofs.Ytlfcgicobhalmaa.K
