/- What a claim leans on, part 44, cut by a program out of the texts WLive16. -/
import Derived.Handy
import Derived.Test.YtfknhpgelleenaaDoorZB4
import Derived.Test.YtfknhpgelleenaaDoorZB12
import Derived.Test.YtfknhpgelleenaaDoorZB16
import Derived.Test.YtfknhpgelleenaaDoorZB23
section
namespace Go.Proofs.YtfknhpgelleenaaDoor.K
open Go Go.RowKit Go.Proofs.YtfknhpgelleenaaDoorW.PrintWords Go.Proofs.YtfknhpgelleenaaDoorW.PrintLast Go.Proofs.YtfknhpgelleenaaDoorW.PrintMore
set_option linter.unusedVariables false
set_option linter.unusedSimpArgs false
open Go.Proofs.YtfknhpgelleenaaDoor.MShape (Sh flats light)
theorem blobE : blobB false false 4326 (.mk 1 [(1, 2)] []) = [71, 80, 0, 0, 0, 0, 16, 230, 0, 0, 0, 0, 1, 0, 0, 0, 0, 0, 0, 0, 1, 0, 0, 0, 0, 0, 0, 0, 2] := by decide +kernel
theorem blobS : strOfNums [71, 80, 0, 0, 0, 0, 16, 230] = ⟨#[71, 80, 0, 0, 0, 0, 16, 230]⟩ := by first | rfl | decide +kernel
set_option maxHeartbeats 1000000 in
set_option maxRecDepth 100000 in
theorem lives16 (w : World) (hw2 : 2 ≤ w.heap.size) (hF : FormsAt w) (hN : NowAt w) : Calls Tryd.prog 40 #[] w fun e w' => e = .returned (.bool true) ∧ Bel w w' := by
  have P := Blk.new w #[.int .i64 1, .int .i64 2] 41
  have HB : Hid (Bel w (w.alloc (.cells #[.int .i64 1, .int .i64 2] 41))) := Lib.hid ((Bel.refl w).alloc (Nat.le_refl _) _)
  have hsh : ShB (w.alloc (.cells #[.int .i64 1, .int .i64 2] 41)).heap.size (w.alloc (.cells #[.int .i64 1, .int .i64 2] 41)) 1 (.int .i64 1, .slice (some ⟨w.heap.size, 0, none⟩) 1 1, .slice none 0 0) (.mk 1 [(1, 2)] []) :=
    ⟨rfl, ⟨some ⟨w.heap.size, 0, none⟩, 1, rfl, by simp, by simp, fun i hi => ⟨w.heap.size, 0, rfl, Blk.lt P, match i, hi with
      | 0, _ => ⟨Blk.cell P 0 rfl, Blk.cell P 1 rfl⟩⟩⟩, [], rfl, ⟨none, 0, rfl, by simp, by simp, fun i hi => absurd hi (Nat.not_lt_zero _)⟩, fun i x p hx => by simp at hx⟩
  have HC := Lib.hid (make_calls 1 (.mk 1 [(1, 2)] []) (.int .i64 1, .slice (some ⟨w.heap.size, 0, none⟩) 1 1, .slice none 0 0) 4326 false false _ _ (Nat.le_refl _) (by have := HB.out.size; omega) hsh (hF.bel HB.out) (hN.below hw2 HB.out))
  rw [blobE] at HC
  clear hsh hF hN hw2 P
  go_enter Tryd.func40, Tryd.ntmps40
  go_upto_region 2 with (go_at_call 39; refine (HC.out).mono ?_; rintro e W2 ⟨v2, rfl, hr2, hb2⟩)
  obtain ⟨A, c, hv, hc, hC⟩ := hr2.out.reads
  subst hv
  have q2 : (convert 49 9 (.slice A 8 c)).run Tryd.prog W2 = .ok (.string (strOfNums [71, 80, 0, 0, 0, 0, 16, 230])) W2 := (hC.take 8 (by decide)).str (c := c)
  have hcap : 8 ≤ c := by have h9 : 29 ≤ c := hc; omega
  have HB2 := Lib.hid (bthen HB.out hb2.out)
  clear hr2 hb2 HC hC hc
  rw [blobS] at q2
  go_wp2
  go_ret
  exact ⟨by first | rfl | simp, HB2.out⟩
end Go.Proofs.YtfknhpgelleenaaDoor.K
end
