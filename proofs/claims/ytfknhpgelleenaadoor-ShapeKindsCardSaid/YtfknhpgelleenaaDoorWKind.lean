/- The reference's kind of a name. -/
import Derived.Test.YtfknhpgelleenaaDoorKB
import Derived.Handy
import Derived.Test.YtfknhpgelleenaaDoorWName
namespace Go.Proofs.YtfknhpgelleenaaDoor.K
open Go Go.RowKit Go.Proofs.YtfknhpgelleenaaDoorW.PrintWords Go.Proofs.YtfknhpgelleenaaDoorW.PrintLast Go.Proofs.YtfknhpgelleenaaDoorW.PrintMore
set_option linter.unusedVariables false
set_option linter.unusedSimpArgs false
open Go.Proofs.YtfknhpgelleenaaDoor.MShape (Sh isKind)
/-- The kind of a name, looked for from k on. -/
def kscan (n : ByteArray) : Nat → Int → Int × Bool
  | 0, _ => (0, false)
  | f + 1, k => if (nm k).toList == n.toList then (k, true) else kscan n f (k + 1)
set_option maxHeartbeats 2000000 in
set_option maxRecDepth 100000 in
theorem rkind_calls (n : ByteArray) (w : World) (r : Int × Bool) (hr : kscan n 7 1 = r) : Calls Tryd.prog 23 #[.string n] w fun e w' => e = .returned (.tuple #[.int .i64 r.1, .bool r.2]) ∧ w = w' := by
  have HN := Lib.hid rname_calls
  have HR := Lib.hid hr
  clear hr
  go_enter Tryd.func23, Tryd.ntmps23
  go_wp2
  go_loopw [4] (fun i wr => ∃ k : Nat, i = .int .i64 (k + 1) ∧ k ≤ 7 ∧ w = wr ∧ Hid (kscan n (7 - k) (k + 1) = r)) (fun i _ => 8 - (intOf i).toNat)
  case atStart => exact ⟨0, rfl, by omega, rfl, HR⟩
  case round =>
    obtain ⟨k, rfl, hk, rfl, HRk⟩ := hrel
    by_cases hlt : k < 7
    · have hR := HRk.out
      obtain ⟨f, hf⟩ : ∃ f, 7 - k = f + 1 := ⟨6 - k, by omega⟩
      rw [hf] at hR
      unfold kscan at hR
      cases hb : ((nm (k + 1)).toList == n.toList)
      · rw [hb] at hR
        go_wp2_with (go_at_call 25; refine (HN.out _ _).mono ?_; rintro e w' ⟨rfl, rfl⟩)
        refine ⟨⟨k + 1, rfl, by omega, trivial, Lib.hid ?_⟩, ?_⟩
        · rw [show 7 - (k + 1) = f by omega]; simpa using hR
        · show 8 - (intOf (Value.int IntKind.i64 (↑k + 1 + 1))).toNat < 8 - (intOf (Value.int IntKind.i64 (↑k + 1))).toNat
          simp only [intOf]; omega
      · rw [hb] at hR
        go_wp2_with (go_at_call 25; refine (HN.out _ _).mono ?_; rintro e w' ⟨rfl, rfl⟩)
        have hR : ((k : Int) + 1, true) = r := by simpa using hR
        subst hR
        refine ⟨rfl, .tuple #[.int .i64 ((k : Int) + 1), .bool true], ?_, rfl, rfl⟩
        simp [results, Tryd.results23, go_sem]
    · obtain rfl : k = 7 := by omega
      have hR : ((0 : Int), false) = r := HRk.out
      subst hR
      go_wp2
      refine ⟨rfl, .tuple #[.int .i64 0, .bool false], ?_, rfl, rfl⟩
      simp [results, Tryd.results23, go_sem]

end Go.Proofs.YtfknhpgelleenaaDoor.K
