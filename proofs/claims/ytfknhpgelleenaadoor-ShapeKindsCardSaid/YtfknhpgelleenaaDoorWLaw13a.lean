/- ShapeKinds answers true. -/
import Derived.Test.YtfknhpgelleenaaDoorKB
import Derived.Handy
import Derived.Test.YtfknhpgelleenaaDoorWKind2
import Derived.Test.YtfknhpgelleenaaDoorWLive13
namespace Go.Proofs.YtfknhpgelleenaaDoor.K
open Go Go.RowKit Go.Proofs.YtfknhpgelleenaaDoorW.PrintWords Go.Proofs.YtfknhpgelleenaaDoorW.PrintLast Go.Proofs.YtfknhpgelleenaaDoorW.PrintMore
set_option linter.unusedVariables false
set_option linter.unusedSimpArgs false
open Go.Shelf
set_option maxHeartbeats 2000000 in
set_option maxRecDepth 100000 in
theorem kinds_calls (k : Int) (n : ByteArray) (w : World) (hw1 : 1 ≤ w.heap.size) (hF : FormsAt w) : Calls Tryd.prog 4 #[.int .i64 k, .string n] w fun e w' => e = .returned (.bool true) ∧ Bel w w' := by
  obtain ⟨⟨k9, b9⟩, hr⟩ : ∃ r, kscan n 7 1 = r := ⟨_, rfl⟩
  have HK := Lib.hid (kind_calls n w hF _ hr)
  have HF := Lib.hid hF
  have HRK := Lib.hid (fun w => rkind_calls n w _ hr)
  clear hr hF
  go_enter Tryd.func4, Tryd.ntmps4
  go_upto_region 2 with (go_at_call 22; refine (HK.out).mono ?_; rintro e w1 ⟨rfl, hb1⟩)
  have HL := Lib.hid (lives13 w1 (by have := hb1.size; omega) (HF.out.bel hb1))
  have HN := Lib.hid (name_calls k w1 (HF.out.bel hb1))
  have HP := Lib.hid (part_calls k w1 (HF.out.bel hb1))
  have HB := Lib.hid hb1
  clear hb1 HF HK
  have HRN := Lib.hid (rname_calls k w1)
  have HRP := Lib.hid (rpart_calls k w1)
  go_wp2_with (first
    | (go_at_call 23; refine (HRK.out _).mono ?_; rintro e w' ⟨rfl, rfl⟩)
    | (go_at_call 25; refine (HRN.out).mono ?_; rintro e w' ⟨rfl, rfl⟩)
    | (go_at_call 27; refine (HRP.out).mono ?_; rintro e w' ⟨rfl, rfl⟩)
    | (go_at_call 24; refine (HN.out).mono ?_; rintro e w' ⟨rfl, rfl⟩)
    | (go_at_call 26; refine (HP.out).mono ?_; rintro e w' ⟨rfl, rfl⟩)
    | (go_at_call 16; refine (HL.out).mono ?_; rintro e w' ⟨rfl, hb2⟩))
  go_ret
  exact ⟨by simp, bthen HB.out hb2⟩

end Go.Proofs.YtfknhpgelleenaaDoor.K
