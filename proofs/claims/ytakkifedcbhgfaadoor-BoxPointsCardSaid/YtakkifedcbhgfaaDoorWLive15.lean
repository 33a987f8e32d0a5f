/- Layer 15's examples live. -/
import Derived.Test.YtakkifedcbhgfaaDoorKB
import Derived.Handy
import Derived.Test.YtakkifedcbhgfaaDoorKH
import Derived.Test.YtakkifedcbhgfaaDoorKX3
namespace Go.Proofs.YtakkifedcbhgfaaDoor.K
open Go Go.RowKit Go.Proofs.YtakkifedcbhgfaaDoorW.PrintWords Go.Proofs.YtakkifedcbhgfaaDoorW.PrintLast Go.Proofs.YtakkifedcbhgfaaDoorW.PrintMore
set_option linter.unusedVariables false
set_option linter.unusedSimpArgs false
open Go.Proofs.YtakkifedcbhgfaaDoor.MBox (Bx I64)
open Go.Proofs.YtakkifedcbhgfaaDoor.MText (dec)
theorem dec_six : strOfNums (dec 6) = ⟨#[54]⟩ := by decide +kernel
set_option maxHeartbeats 1000000 in
set_option maxRecDepth 100000 in
theorem lives15 (w : World) : Calls Tryd.prog 27 #[] w fun e w' => e = .returned (.bool true) ∧ Bel w w' := by
  have HO := Lib.hid boxOf_calls
  have hbx : boxOf [(1, 5), (3, 2)] = ⟨false, 1, 2, 3, 5⟩ := by rfl
  have har : MBox.area ⟨false, 1, 2, 3, 5⟩ = 6 := by decide
  have hok : Bx.ok ⟨false, 1, 2, 3, 5⟩ := by unfold Bx.ok I64; decide
  have HAr := Lib.hid (fun w => Area_is ⟨false, 1, 2, 3, 5⟩ 6 w hok har)
  have HT : Hid (∀ w, Calls Tryd.prog 22 #[.agg #[.int .u64 (MWide.w0 6), .int .u64 (MWide.w1 6), .int .u64 (MWide.w2 6)]] w fun e w' => e = .returned (.string ⟨#[54]⟩) ∧ Bel w w') := Lib.hid (fun w => by
    have := Text_calls 6 w (by constructor <;> decide)
    rw [dec_six] at this
    exact this)
  have q1 := eqB ⟨false, 1, 2, 3, 5⟩ ⟨false, 1, 2, 3, 5⟩
  rw [MBox.same_refl] at q1
  dsimp only at q1 HAr
  clear har hok
  go_enter Tryd.func27, Tryd.ntmps27
  go_wp2_with fail
  have P := Blk.new w #[.int .i64 1, .int .i64 5, .int .i64 3, .int .i64 2] 50
  have HB : Hid (Below w.heap.size w (w.alloc (.cells #[.int .i64 1, .int .i64 5, .int .i64 3, .int .i64 2] 50))) := Lib.hid (by repeat (first | exact Below.refl _ _ | refine Below.alloc ?_ (by simp <;> omega) _))
  obtain ⟨w1, hW⟩ : ∃ W, w.alloc (.cells #[.int .i64 1, .int .i64 5, .int .i64 3, .int .i64 2] 50) = W := ⟨_, rfl⟩
  rw [hW] at P HB ⊢
  clear hW
  have hlt := Blk.lt P
  have hsh : ∀ k, w1.heap.size ≤ k → IsSh k w1 1 (.int .i64 2, .slice (some ⟨w.heap.size, 0, none⟩) 2 2, .slice none 0 0) [(1, 5), (3, 2)] := fun k hk =>
    ⟨2, [(1, 5), (3, 2)], [], rfl, ⟨some ⟨w.heap.size, 0, none⟩, 2, rfl, by decide, fun i hi => ⟨w.heap.size, 0, rfl, by omega, match i, hi with
      | 0, _ => ⟨Blk.cell P 0 rfl, Blk.cell P 1 rfl⟩
      | 1, _ => ⟨Blk.cell P 2 rfl, Blk.cell P 3 rfl⟩⟩⟩, ⟨none, 0, rfl, by decide, fun i hi => absurd hi (Nat.not_lt_zero _)⟩, fun _ h => by simp at h, rfl⟩
  have hc := HO.out w1 _ 1 _ hsh
  rw [hbx] at hc
  dsimp only at hc
  refine hc.mono ?_
  rintro e w2 ⟨rfl, hb2⟩
  have HB2 := Lib.hid (bthen HB.out hb2)
  clear hc hsh hb2 P HB HO
  go_upto_region 2 with (fail)
  have S := Blk.new w2 #[.bool false, .int .i64 1, .int .i64 2, .int .i64 3, .int .i64 5] 52
  have HB3 := Lib.hid (HB2.out.alloc HB2.out.size (.cells #[.bool false, .int .i64 1, .int .i64 2, .int .i64 3, .int .i64 5] 52))
  obtain ⟨w3, hW⟩ : ∃ W, w2.alloc (.cells #[.bool false, .int .i64 1, .int .i64 2, .int .i64 3, .int .i64 5] 52) = W := ⟨_, rfl⟩
  rw [hW] at S HB3 ⊢
  clear hW HB2
  obtain ⟨s0, s1, s2, s3, s4⟩ := Blk.cells5 S
  go_wp2_with (first
    | (go_at_call 22; refine (HT.out _).mono ?_; rintro e w5 ⟨rfl, hb5⟩; have HB5 := Lib.hid (bthen HB4.out hb5); clear hb5)
    | (go_at_call 44; refine (HAr.out _).mono ?_; rintro e w4 ⟨rfl, hb4⟩; have HB4 := Lib.hid (bthen HB3.out hb4); clear hb4))
  go_ret
  exact ⟨by rfl, HB5.out⟩

end Go.Proofs.YtakkifedcbhgfaaDoor.K
