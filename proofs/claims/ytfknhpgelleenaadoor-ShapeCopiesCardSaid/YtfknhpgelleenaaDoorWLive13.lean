/- law13's lives answers true. -/
import Derived.Test.YtfknhpgelleenaaDoorKB
import Derived.Handy
import Derived.Test.YtfknhpgelleenaaDoorWCheck
namespace Go.Proofs.YtfknhpgelleenaaDoor.K
open Go Go.RowKit Go.Proofs.YtfknhpgelleenaaDoorW.PrintWords Go.Proofs.YtfknhpgelleenaaDoorW.PrintLast Go.Proofs.YtfknhpgelleenaaDoorW.PrintMore
set_option linter.unusedVariables false
set_option linter.unusedSimpArgs false
open Go.Shelf
open Go.Proofs.YtfknhpgelleenaaDoor.MShape (Sh)
attribute [local go_sem] undef
/-- A polygon of one ring of three points, the same three times. -/
def livSh : Sh := .mk 3 [] [.mk 0 [(1, 2), (1, 2), (1, 2)] []]
theorem livSh_check : MShape.check livSh = 9 := by decide +kernel
set_option maxHeartbeats 2000000 in
set_option maxRecDepth 100000 in
theorem lives13 (w : World) (hw1 : 1 ≤ w.heap.size) (hF : FormsAt w) : Calls Tryd.prog 16 #[] w fun e w' => e = .returned (.bool true) ∧ Bel w w' := by
  have HC := Lib.hid (check_calls 2 livSh)
  rw [livSh_check] at HC
  have HF := Lib.hid hF
  clear hF
  go_enter Tryd.func16, Tryd.ntmps16
  go_upto_region 2 with (fail)
  have P := Blk.new w #[.int .i64 1, .int .i64 2] 41
  have HB : Hid (Below w.heap.size w (w.alloc (.cells #[.int .i64 1, .int .i64 2] 41))) := Lib.hid (by repeat (first | exact Below.refl _ _ | refine Below.alloc ?_ (by simp <;> omega) _))
  obtain ⟨w1, hW⟩ : ∃ W, w.alloc (.cells #[.int .i64 1, .int .i64 2] 41) = W := ⟨_, rfl⟩
  rw [hW] at P HB ⊢
  have p0 : w1.cell? ⟨w.heap.size, 0, none⟩ = some (.int .i64 1) := Blk.cell P 0 rfl
  have p1 : w1.cell? ⟨w.heap.size, 1, none⟩ = some (.int .i64 2) := Blk.cell P 1 rfl
  clear hW
  go_wp2_with fail
  have P2 := (Blk.new w1 #[.int .i64 1, .int .i64 2, .int .i64 1, .int .i64 2, .int .i64 1, .int .i64 2] 41).alloc (.cells #[.int .i64 0, .slice (some ⟨w1.heap.size, 0, none⟩) 3 3, .slice none 0 0] 25)
  have S2 := Blk.new_at (W := w1.alloc (.cells #[.int .i64 1, .int .i64 2, .int .i64 1, .int .i64 2, .int .i64 1, .int .i64 2] 41)) (g := w1.heap.size + 1) (by simp) #[.int .i64 0, .slice (some ⟨w1.heap.size, 0, none⟩) 3 3, .slice none 0 0] 25
  have HB2 := Lib.hid ((HB.out.alloc HB.out.size (.cells #[.int .i64 1, .int .i64 2, .int .i64 1, .int .i64 2, .int .i64 1, .int .i64 2] 41)).alloc (by have := HB.out.size; simp; omega) (.cells #[.int .i64 0, .slice (some ⟨w1.heap.size, 0, none⟩) 3 3, .slice none 0 0] 25))
  obtain ⟨w3, hW⟩ : ∃ W, (w1.alloc (.cells #[.int .i64 1, .int .i64 2, .int .i64 1, .int .i64 2, .int .i64 1, .int .i64 2] 41)).alloc (.cells #[.int .i64 0, .slice (some ⟨w1.heap.size, 0, none⟩) 3 3, .slice none 0 0] 25) = W := ⟨_, rfl⟩
  rw [hW] at P2 S2 HB2 ⊢
  clear hW p0 p1
  have hl1 := Blk.lt P2
  have hl2 := Blk.lt S2
  have hsh : ShB w3.heap.size w3 2 (.int .i64 3, .slice none 0 0, .slice (some ⟨w1.heap.size + 1, 0, none⟩) 1 1) livSh :=
    ⟨rfl, ⟨none, 0, rfl, by decide, by decide, fun i hi => absurd hi (Nat.not_lt_zero _)⟩, [(.int .i64 0, .slice (some ⟨w1.heap.size, 0, none⟩) 3 3, .slice none 0 0)], rfl,
      ⟨some ⟨w1.heap.size + 1, 0, none⟩, 1, rfl, by simp, by simp, fun i hi => ⟨w1.heap.size + 1, 0, rfl, hl2, match i, hi with
        | 0, _ => ⟨Blk.cell S2 0 rfl, Blk.cell S2 1 rfl, Blk.cell S2 2 rfl⟩⟩⟩,
      fun i x p hx hp => match i, hx, hp with
        | 0, hx, hp => by
          cases hx
          cases hp
          exact ⟨rfl, ⟨some ⟨w1.heap.size, 0, none⟩, 3, rfl, by decide, by decide, fun i hi => ⟨w1.heap.size, 0, rfl, hl1, match i, hi with
            | 0, _ => ⟨Blk.cell P2 0 rfl, Blk.cell P2 1 rfl⟩
            | 1, _ => ⟨Blk.cell P2 2 rfl, Blk.cell P2 3 rfl⟩
            | 2, _ => ⟨Blk.cell P2 4 rfl, Blk.cell P2 5 rfl⟩⟩⟩, [], rfl, ⟨none, 0, rfl, by decide, by decide, fun i hi => absurd hi (Nat.not_lt_zero _)⟩, fun i x p hx => by simp at hx⟩⟩
  have hc : Calls Tryd.prog 21 #[.agg #[.int .i64 3, .slice none 0 0, .slice (some ⟨w1.heap.size + 1, 0, none⟩) 1 1]] w3 fun e w' => e = .returned (.int .i64 9) ∧ Bel w3 w' := by
    have h := HC.out (.int .i64 3, .slice none 0 0, .slice (some ⟨w1.heap.size + 1, 0, none⟩) 1 1) w3 w3.heap.size (Nat.le_refl _) (by omega) hsh (HF.out.bel HB2.out)
    exact h
  refine hc.mono ?_
  rintro e w4 ⟨rfl, hb4⟩
  have HB4 := Lib.hid (bthen HB2.out hb4)
  clear hc hsh hb4 hl1 hl2 P P2 S2 HB HC HF
  go_wp2
  go_ret
  exact ⟨by rfl, HB4.out⟩

end Go.Proofs.YtfknhpgelleenaaDoor.K
