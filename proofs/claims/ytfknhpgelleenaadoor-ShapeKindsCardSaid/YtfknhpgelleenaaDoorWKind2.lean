/- shape.Kind. -/
import Derived.Test.YtfknhpgelleenaaDoorKB
import Derived.Handy
import Derived.Test.YtfknhpgelleenaaDoorWKind
namespace Go.Proofs.YtfknhpgelleenaaDoor.K
open Go Go.RowKit Go.Proofs.YtfknhpgelleenaaDoorW.PrintWords Go.Proofs.YtfknhpgelleenaaDoorW.PrintLast Go.Proofs.YtfknhpgelleenaaDoorW.PrintMore
set_option linter.unusedVariables false
set_option linter.unusedSimpArgs false
open Go.Proofs.YtfknhpgelleenaaDoor.MShape (Sh isKind)
set_option maxHeartbeats 4000000 in
set_option maxRecDepth 100000 in
theorem kind_calls (n : ByteArray) (w : World) (hF : FormsAt w) (r : Int × Bool) (hr : kscan n 7 1 = r) : Calls Tryd.prog 22 #[.string n] w fun e w' => e = .returned (.tuple #[.int .i64 r.1, .bool r.2]) ∧ Bel w w' := by
  have HI := Lib.hid isKind_calls
  have HR := Lib.hid hr
  clear hr
  obtain ⟨t0, t1, t2, t3, t4, t5, t6, t7, t8, t9, t10, t11, t12, t13, t14, t15⟩ := hF
  go_enter Tryd.func22, Tryd.ntmps22
  go_wp2
  clear t0 t1 t2 t3 t4 t5 t6 t7 t8 t9 t10 t11 t12 t13 t14 t15
  have x0 : ∀ w : World, (Instr.index 84 (.agg #[.string ⟨#[]⟩, .int .i64 (-1), .string ⟨#[80, 79, 73, 78, 84]⟩, .int .i64 (-1), .string ⟨#[76, 73, 78, 69, 83, 84, 82, 73, 78, 71]⟩, .int .i64 (-1), .string ⟨#[80, 79, 76, 89, 71, 79, 78]⟩, .int .i64 0, .string ⟨#[77, 85, 76, 84, 73, 80, 79, 73, 78, 84]⟩, .int .i64 1, .string ⟨#[77, 85, 76, 84, 73, 76, 73, 78, 69, 83, 84, 82, 73, 78, 71]⟩, .int .i64 2, .string ⟨#[77, 85, 76, 84, 73, 80, 79, 76, 89, 71, 79, 78]⟩, .int .i64 3, .string ⟨#[71, 69, 79, 77, 69, 84, 82, 89, 67, 79, 76, 76, 69, 67, 84, 73, 79, 78]⟩, .int .i64 (-2)]) (.int .i64 0)).run Tryd.prog w = .ok (.agg #[.string ⟨#[]⟩, .int .i64 (-1)]) w := fun _ => by kernel_rfl
  have x1 : ∀ w : World, (Instr.index 84 (.agg #[.string ⟨#[]⟩, .int .i64 (-1), .string ⟨#[80, 79, 73, 78, 84]⟩, .int .i64 (-1), .string ⟨#[76, 73, 78, 69, 83, 84, 82, 73, 78, 71]⟩, .int .i64 (-1), .string ⟨#[80, 79, 76, 89, 71, 79, 78]⟩, .int .i64 0, .string ⟨#[77, 85, 76, 84, 73, 80, 79, 73, 78, 84]⟩, .int .i64 1, .string ⟨#[77, 85, 76, 84, 73, 76, 73, 78, 69, 83, 84, 82, 73, 78, 71]⟩, .int .i64 2, .string ⟨#[77, 85, 76, 84, 73, 80, 79, 76, 89, 71, 79, 78]⟩, .int .i64 3, .string ⟨#[71, 69, 79, 77, 69, 84, 82, 89, 67, 79, 76, 76, 69, 67, 84, 73, 79, 78]⟩, .int .i64 (-2)]) (.int .i64 1)).run Tryd.prog w = .ok (.agg #[.string ⟨#[80, 79, 73, 78, 84]⟩, .int .i64 (-1)]) w := fun _ => by kernel_rfl
  have x2 : ∀ w : World, (Instr.index 84 (.agg #[.string ⟨#[]⟩, .int .i64 (-1), .string ⟨#[80, 79, 73, 78, 84]⟩, .int .i64 (-1), .string ⟨#[76, 73, 78, 69, 83, 84, 82, 73, 78, 71]⟩, .int .i64 (-1), .string ⟨#[80, 79, 76, 89, 71, 79, 78]⟩, .int .i64 0, .string ⟨#[77, 85, 76, 84, 73, 80, 79, 73, 78, 84]⟩, .int .i64 1, .string ⟨#[77, 85, 76, 84, 73, 76, 73, 78, 69, 83, 84, 82, 73, 78, 71]⟩, .int .i64 2, .string ⟨#[77, 85, 76, 84, 73, 80, 79, 76, 89, 71, 79, 78]⟩, .int .i64 3, .string ⟨#[71, 69, 79, 77, 69, 84, 82, 89, 67, 79, 76, 76, 69, 67, 84, 73, 79, 78]⟩, .int .i64 (-2)]) (.int .i64 2)).run Tryd.prog w = .ok (.agg #[.string ⟨#[76, 73, 78, 69, 83, 84, 82, 73, 78, 71]⟩, .int .i64 (-1)]) w := fun _ => by kernel_rfl
  have x3 : ∀ w : World, (Instr.index 84 (.agg #[.string ⟨#[]⟩, .int .i64 (-1), .string ⟨#[80, 79, 73, 78, 84]⟩, .int .i64 (-1), .string ⟨#[76, 73, 78, 69, 83, 84, 82, 73, 78, 71]⟩, .int .i64 (-1), .string ⟨#[80, 79, 76, 89, 71, 79, 78]⟩, .int .i64 0, .string ⟨#[77, 85, 76, 84, 73, 80, 79, 73, 78, 84]⟩, .int .i64 1, .string ⟨#[77, 85, 76, 84, 73, 76, 73, 78, 69, 83, 84, 82, 73, 78, 71]⟩, .int .i64 2, .string ⟨#[77, 85, 76, 84, 73, 80, 79, 76, 89, 71, 79, 78]⟩, .int .i64 3, .string ⟨#[71, 69, 79, 77, 69, 84, 82, 89, 67, 79, 76, 76, 69, 67, 84, 73, 79, 78]⟩, .int .i64 (-2)]) (.int .i64 3)).run Tryd.prog w = .ok (.agg #[.string ⟨#[80, 79, 76, 89, 71, 79, 78]⟩, .int .i64 0]) w := fun _ => by kernel_rfl
  have x4 : ∀ w : World, (Instr.index 84 (.agg #[.string ⟨#[]⟩, .int .i64 (-1), .string ⟨#[80, 79, 73, 78, 84]⟩, .int .i64 (-1), .string ⟨#[76, 73, 78, 69, 83, 84, 82, 73, 78, 71]⟩, .int .i64 (-1), .string ⟨#[80, 79, 76, 89, 71, 79, 78]⟩, .int .i64 0, .string ⟨#[77, 85, 76, 84, 73, 80, 79, 73, 78, 84]⟩, .int .i64 1, .string ⟨#[77, 85, 76, 84, 73, 76, 73, 78, 69, 83, 84, 82, 73, 78, 71]⟩, .int .i64 2, .string ⟨#[77, 85, 76, 84, 73, 80, 79, 76, 89, 71, 79, 78]⟩, .int .i64 3, .string ⟨#[71, 69, 79, 77, 69, 84, 82, 89, 67, 79, 76, 76, 69, 67, 84, 73, 79, 78]⟩, .int .i64 (-2)]) (.int .i64 4)).run Tryd.prog w = .ok (.agg #[.string ⟨#[77, 85, 76, 84, 73, 80, 79, 73, 78, 84]⟩, .int .i64 1]) w := fun _ => by kernel_rfl
  have x5 : ∀ w : World, (Instr.index 84 (.agg #[.string ⟨#[]⟩, .int .i64 (-1), .string ⟨#[80, 79, 73, 78, 84]⟩, .int .i64 (-1), .string ⟨#[76, 73, 78, 69, 83, 84, 82, 73, 78, 71]⟩, .int .i64 (-1), .string ⟨#[80, 79, 76, 89, 71, 79, 78]⟩, .int .i64 0, .string ⟨#[77, 85, 76, 84, 73, 80, 79, 73, 78, 84]⟩, .int .i64 1, .string ⟨#[77, 85, 76, 84, 73, 76, 73, 78, 69, 83, 84, 82, 73, 78, 71]⟩, .int .i64 2, .string ⟨#[77, 85, 76, 84, 73, 80, 79, 76, 89, 71, 79, 78]⟩, .int .i64 3, .string ⟨#[71, 69, 79, 77, 69, 84, 82, 89, 67, 79, 76, 76, 69, 67, 84, 73, 79, 78]⟩, .int .i64 (-2)]) (.int .i64 5)).run Tryd.prog w = .ok (.agg #[.string ⟨#[77, 85, 76, 84, 73, 76, 73, 78, 69, 83, 84, 82, 73, 78, 71]⟩, .int .i64 2]) w := fun _ => by kernel_rfl
  have x6 : ∀ w : World, (Instr.index 84 (.agg #[.string ⟨#[]⟩, .int .i64 (-1), .string ⟨#[80, 79, 73, 78, 84]⟩, .int .i64 (-1), .string ⟨#[76, 73, 78, 69, 83, 84, 82, 73, 78, 71]⟩, .int .i64 (-1), .string ⟨#[80, 79, 76, 89, 71, 79, 78]⟩, .int .i64 0, .string ⟨#[77, 85, 76, 84, 73, 80, 79, 73, 78, 84]⟩, .int .i64 1, .string ⟨#[77, 85, 76, 84, 73, 76, 73, 78, 69, 83, 84, 82, 73, 78, 71]⟩, .int .i64 2, .string ⟨#[77, 85, 76, 84, 73, 80, 79, 76, 89, 71, 79, 78]⟩, .int .i64 3, .string ⟨#[71, 69, 79, 77, 69, 84, 82, 89, 67, 79, 76, 76, 69, 67, 84, 73, 79, 78]⟩, .int .i64 (-2)]) (.int .i64 6)).run Tryd.prog w = .ok (.agg #[.string ⟨#[77, 85, 76, 84, 73, 80, 79, 76, 89, 71, 79, 78]⟩, .int .i64 3]) w := fun _ => by kernel_rfl
  have x7 : ∀ w : World, (Instr.index 84 (.agg #[.string ⟨#[]⟩, .int .i64 (-1), .string ⟨#[80, 79, 73, 78, 84]⟩, .int .i64 (-1), .string ⟨#[76, 73, 78, 69, 83, 84, 82, 73, 78, 71]⟩, .int .i64 (-1), .string ⟨#[80, 79, 76, 89, 71, 79, 78]⟩, .int .i64 0, .string ⟨#[77, 85, 76, 84, 73, 80, 79, 73, 78, 84]⟩, .int .i64 1, .string ⟨#[77, 85, 76, 84, 73, 76, 73, 78, 69, 83, 84, 82, 73, 78, 71]⟩, .int .i64 2, .string ⟨#[77, 85, 76, 84, 73, 80, 79, 76, 89, 71, 79, 78]⟩, .int .i64 3, .string ⟨#[71, 69, 79, 77, 69, 84, 82, 89, 67, 79, 76, 76, 69, 67, 84, 73, 79, 78]⟩, .int .i64 (-2)]) (.int .i64 7)).run Tryd.prog w = .ok (.agg #[.string ⟨#[71, 69, 79, 77, 69, 84, 82, 89, 67, 79, 76, 76, 69, 67, 84, 73, 79, 78]⟩, .int .i64 (-2)]) w := fun _ => by kernel_rfl
  go_loopw [7] (fun i wr => ∃ k : Nat, i = .int .i64 k ∧ k ≤ 8 ∧ Hid (Below w.heap.size w wr) ∧ Hid (kscan n (8 - max 1 k) (max 1 k : Nat) = r)) (fun i _ => 8 - (intOf i).toNat)
  case atStart => exact ⟨0, rfl, by omega, Lib.hid (Below.refl _ _), HR⟩
  case round =>
    obtain ⟨k, rfl, hk, HB, HRk⟩ := hrel
    by_cases hlt : k < 8
    · have hR := HRk.out
      have hk : k = 0 ∨ k = 1 ∨ k = 2 ∨ k = 3 ∨ k = 4 ∨ k = 5 ∨ k = 6 ∨ k = 7 := by omega
      clear hlt HRk
      rcases hk with rfl | rfl | rfl | rfl | rfl | rfl | rfl | rfl
      · have HK : Hid (∀ w, Calls Tryd.prog 54 #[.int .i64 0] w fun e w' => e = .returned (.bool false) ∧ w = w') := Lib.hid (fun w => HI.out 0 w _ rfl)
        have P := Blk.new wr #[.string ⟨#[]⟩, .int .i64 (-1)] 83
        have HB2 := Lib.hid (HB.out.alloc HB.out.size (.cells #[.string ⟨#[]⟩, .int .i64 (-1)] 83))
        go_upto_region 4 with (fail)
        obtain ⟨W, hW⟩ : ∃ X, wr.alloc (.cells #[.string ⟨#[]⟩, .int .i64 (-1)] 83) = X := ⟨_, rfl⟩
        rw [hW] at P HB2 ⊢
        clear hW HB x0 x1 x2 x3 x4 x5 x6 x7
        have p0 := Blk.cell P 0 rfl
        go_wp2_with (go_at_call 54; refine (HK.out _).mono ?_; rintro e w' ⟨rfl, rfl⟩)
        refine ⟨⟨1, rfl, by omega, HB2, Lib.hid hR⟩, by decide⟩
      · have hR : (if (⟨#[80, 79, 73, 78, 84]⟩ : ByteArray).toList == n.toList then ((1 : Int), true) else kscan n 6 2) = r := hR
        have HK : Hid (∀ w, Calls Tryd.prog 54 #[.int .i64 1] w fun e w' => e = .returned (.bool true) ∧ w = w') := Lib.hid (fun w => HI.out 1 w _ rfl)
        have P := Blk.new wr #[.string ⟨#[80, 79, 73, 78, 84]⟩, .int .i64 (-1)] 83
        have HB2 := Lib.hid (HB.out.alloc HB.out.size (.cells #[.string ⟨#[80, 79, 73, 78, 84]⟩, .int .i64 (-1)] 83))
        go_upto_region 4 with (fail)
        obtain ⟨W, hW⟩ : ∃ X, wr.alloc (.cells #[.string ⟨#[80, 79, 73, 78, 84]⟩, .int .i64 (-1)] 83) = X := ⟨_, rfl⟩
        rw [hW] at P HB2 ⊢
        clear hW HB x0 x1 x2 x3 x4 x5 x6 x7
        have p0 := Blk.cell P 0 rfl
        have e9 : (⟨#[80, 79, 73, 78, 84]⟩ : ByteArray).toList = ([80, 79, 73, 78, 84] : List UInt8) := by first | rfl | decide +kernel | simp [go_sem]
        rw [e9] at hR
        clear e9
        cases hb : (([80, 79, 73, 78, 84] : List UInt8) == n.toList)
        · rw [hb] at hR
          go_wp2_with (go_at_call 54; refine (HK.out _).mono ?_; rintro e w' ⟨rfl, rfl⟩)
          refine ⟨⟨2, rfl, by omega, HB2, Lib.hid hR⟩, by decide⟩
        · rw [hb] at hR
          have hR : ((1 : Int), true) = r := hR
          subst hR
          go_wp2_with (go_at_call 54; refine (HK.out _).mono ?_; rintro e w' ⟨rfl, rfl⟩)
          refine ⟨rfl, .tuple #[.int .i64 1, .bool true], ?_, rfl, HB2.out⟩
          simp [results, Tryd.results22, go_sem]
      · have hR : (if (⟨#[76, 73, 78, 69, 83, 84, 82, 73, 78, 71]⟩ : ByteArray).toList == n.toList then ((2 : Int), true) else kscan n 5 3) = r := hR
        have HK : Hid (∀ w, Calls Tryd.prog 54 #[.int .i64 2] w fun e w' => e = .returned (.bool true) ∧ w = w') := Lib.hid (fun w => HI.out 2 w _ rfl)
        have P := Blk.new wr #[.string ⟨#[76, 73, 78, 69, 83, 84, 82, 73, 78, 71]⟩, .int .i64 (-1)] 83
        have HB2 := Lib.hid (HB.out.alloc HB.out.size (.cells #[.string ⟨#[76, 73, 78, 69, 83, 84, 82, 73, 78, 71]⟩, .int .i64 (-1)] 83))
        go_upto_region 4 with (fail)
        obtain ⟨W, hW⟩ : ∃ X, wr.alloc (.cells #[.string ⟨#[76, 73, 78, 69, 83, 84, 82, 73, 78, 71]⟩, .int .i64 (-1)] 83) = X := ⟨_, rfl⟩
        rw [hW] at P HB2 ⊢
        clear hW HB x0 x1 x2 x3 x4 x5 x6 x7
        have p0 := Blk.cell P 0 rfl
        have e9 : (⟨#[76, 73, 78, 69, 83, 84, 82, 73, 78, 71]⟩ : ByteArray).toList = ([76, 73, 78, 69, 83, 84, 82, 73, 78, 71] : List UInt8) := by first | rfl | decide +kernel | simp [go_sem]
        rw [e9] at hR
        clear e9
        cases hb : (([76, 73, 78, 69, 83, 84, 82, 73, 78, 71] : List UInt8) == n.toList)
        · rw [hb] at hR
          go_wp2_with (go_at_call 54; refine (HK.out _).mono ?_; rintro e w' ⟨rfl, rfl⟩)
          refine ⟨⟨3, rfl, by omega, HB2, Lib.hid hR⟩, by decide⟩
        · rw [hb] at hR
          have hR : ((2 : Int), true) = r := hR
          subst hR
          go_wp2_with (go_at_call 54; refine (HK.out _).mono ?_; rintro e w' ⟨rfl, rfl⟩)
          refine ⟨rfl, .tuple #[.int .i64 2, .bool true], ?_, rfl, HB2.out⟩
          simp [results, Tryd.results22, go_sem]
      · have hR : (if (⟨#[80, 79, 76, 89, 71, 79, 78]⟩ : ByteArray).toList == n.toList then ((3 : Int), true) else kscan n 4 4) = r := hR
        have HK : Hid (∀ w, Calls Tryd.prog 54 #[.int .i64 3] w fun e w' => e = .returned (.bool true) ∧ w = w') := Lib.hid (fun w => HI.out 3 w _ rfl)
        have P := Blk.new wr #[.string ⟨#[80, 79, 76, 89, 71, 79, 78]⟩, .int .i64 0] 83
        have HB2 := Lib.hid (HB.out.alloc HB.out.size (.cells #[.string ⟨#[80, 79, 76, 89, 71, 79, 78]⟩, .int .i64 0] 83))
        go_upto_region 4 with (fail)
        obtain ⟨W, hW⟩ : ∃ X, wr.alloc (.cells #[.string ⟨#[80, 79, 76, 89, 71, 79, 78]⟩, .int .i64 0] 83) = X := ⟨_, rfl⟩
        rw [hW] at P HB2 ⊢
        clear hW HB x0 x1 x2 x3 x4 x5 x6 x7
        have p0 := Blk.cell P 0 rfl
        have e9 : (⟨#[80, 79, 76, 89, 71, 79, 78]⟩ : ByteArray).toList = ([80, 79, 76, 89, 71, 79, 78] : List UInt8) := by first | rfl | decide +kernel | simp [go_sem]
        rw [e9] at hR
        clear e9
        cases hb : (([80, 79, 76, 89, 71, 79, 78] : List UInt8) == n.toList)
        · rw [hb] at hR
          go_wp2_with (go_at_call 54; refine (HK.out _).mono ?_; rintro e w' ⟨rfl, rfl⟩)
          refine ⟨⟨4, rfl, by omega, HB2, Lib.hid hR⟩, by decide⟩
        · rw [hb] at hR
          have hR : ((3 : Int), true) = r := hR
          subst hR
          go_wp2_with (go_at_call 54; refine (HK.out _).mono ?_; rintro e w' ⟨rfl, rfl⟩)
          refine ⟨rfl, .tuple #[.int .i64 3, .bool true], ?_, rfl, HB2.out⟩
          simp [results, Tryd.results22, go_sem]
      · have hR : (if (⟨#[77, 85, 76, 84, 73, 80, 79, 73, 78, 84]⟩ : ByteArray).toList == n.toList then ((4 : Int), true) else kscan n 3 5) = r := hR
        have HK : Hid (∀ w, Calls Tryd.prog 54 #[.int .i64 4] w fun e w' => e = .returned (.bool true) ∧ w = w') := Lib.hid (fun w => HI.out 4 w _ rfl)
        have P := Blk.new wr #[.string ⟨#[77, 85, 76, 84, 73, 80, 79, 73, 78, 84]⟩, .int .i64 1] 83
        have HB2 := Lib.hid (HB.out.alloc HB.out.size (.cells #[.string ⟨#[77, 85, 76, 84, 73, 80, 79, 73, 78, 84]⟩, .int .i64 1] 83))
        go_upto_region 4 with (fail)
        obtain ⟨W, hW⟩ : ∃ X, wr.alloc (.cells #[.string ⟨#[77, 85, 76, 84, 73, 80, 79, 73, 78, 84]⟩, .int .i64 1] 83) = X := ⟨_, rfl⟩
        rw [hW] at P HB2 ⊢
        clear hW HB x0 x1 x2 x3 x4 x5 x6 x7
        have p0 := Blk.cell P 0 rfl
        have e9 : (⟨#[77, 85, 76, 84, 73, 80, 79, 73, 78, 84]⟩ : ByteArray).toList = ([77, 85, 76, 84, 73, 80, 79, 73, 78, 84] : List UInt8) := by first | rfl | decide +kernel | simp [go_sem]
        rw [e9] at hR
        clear e9
        cases hb : (([77, 85, 76, 84, 73, 80, 79, 73, 78, 84] : List UInt8) == n.toList)
        · rw [hb] at hR
          go_wp2_with (go_at_call 54; refine (HK.out _).mono ?_; rintro e w' ⟨rfl, rfl⟩)
          refine ⟨⟨5, rfl, by omega, HB2, Lib.hid hR⟩, by decide⟩
        · rw [hb] at hR
          have hR : ((4 : Int), true) = r := hR
          subst hR
          go_wp2_with (go_at_call 54; refine (HK.out _).mono ?_; rintro e w' ⟨rfl, rfl⟩)
          refine ⟨rfl, .tuple #[.int .i64 4, .bool true], ?_, rfl, HB2.out⟩
          simp [results, Tryd.results22, go_sem]
      · have hR : (if (⟨#[77, 85, 76, 84, 73, 76, 73, 78, 69, 83, 84, 82, 73, 78, 71]⟩ : ByteArray).toList == n.toList then ((5 : Int), true) else kscan n 2 6) = r := hR
        have HK : Hid (∀ w, Calls Tryd.prog 54 #[.int .i64 5] w fun e w' => e = .returned (.bool true) ∧ w = w') := Lib.hid (fun w => HI.out 5 w _ rfl)
        have P := Blk.new wr #[.string ⟨#[77, 85, 76, 84, 73, 76, 73, 78, 69, 83, 84, 82, 73, 78, 71]⟩, .int .i64 2] 83
        have HB2 := Lib.hid (HB.out.alloc HB.out.size (.cells #[.string ⟨#[77, 85, 76, 84, 73, 76, 73, 78, 69, 83, 84, 82, 73, 78, 71]⟩, .int .i64 2] 83))
        go_upto_region 4 with (fail)
        obtain ⟨W, hW⟩ : ∃ X, wr.alloc (.cells #[.string ⟨#[77, 85, 76, 84, 73, 76, 73, 78, 69, 83, 84, 82, 73, 78, 71]⟩, .int .i64 2] 83) = X := ⟨_, rfl⟩
        rw [hW] at P HB2 ⊢
        clear hW HB x0 x1 x2 x3 x4 x5 x6 x7
        have p0 := Blk.cell P 0 rfl
        have e9 : (⟨#[77, 85, 76, 84, 73, 76, 73, 78, 69, 83, 84, 82, 73, 78, 71]⟩ : ByteArray).toList = ([77, 85, 76, 84, 73, 76, 73, 78, 69, 83, 84, 82, 73, 78, 71] : List UInt8) := by first | rfl | decide +kernel | simp [go_sem]
        rw [e9] at hR
        clear e9
        cases hb : (([77, 85, 76, 84, 73, 76, 73, 78, 69, 83, 84, 82, 73, 78, 71] : List UInt8) == n.toList)
        · rw [hb] at hR
          go_wp2_with (go_at_call 54; refine (HK.out _).mono ?_; rintro e w' ⟨rfl, rfl⟩)
          refine ⟨⟨6, rfl, by omega, HB2, Lib.hid hR⟩, by decide⟩
        · rw [hb] at hR
          have hR : ((5 : Int), true) = r := hR
          subst hR
          go_wp2_with (go_at_call 54; refine (HK.out _).mono ?_; rintro e w' ⟨rfl, rfl⟩)
          refine ⟨rfl, .tuple #[.int .i64 5, .bool true], ?_, rfl, HB2.out⟩
          simp [results, Tryd.results22, go_sem]
      · have hR : (if (⟨#[77, 85, 76, 84, 73, 80, 79, 76, 89, 71, 79, 78]⟩ : ByteArray).toList == n.toList then ((6 : Int), true) else kscan n 1 7) = r := hR
        have HK : Hid (∀ w, Calls Tryd.prog 54 #[.int .i64 6] w fun e w' => e = .returned (.bool true) ∧ w = w') := Lib.hid (fun w => HI.out 6 w _ rfl)
        have P := Blk.new wr #[.string ⟨#[77, 85, 76, 84, 73, 80, 79, 76, 89, 71, 79, 78]⟩, .int .i64 3] 83
        have HB2 := Lib.hid (HB.out.alloc HB.out.size (.cells #[.string ⟨#[77, 85, 76, 84, 73, 80, 79, 76, 89, 71, 79, 78]⟩, .int .i64 3] 83))
        go_upto_region 4 with (fail)
        obtain ⟨W, hW⟩ : ∃ X, wr.alloc (.cells #[.string ⟨#[77, 85, 76, 84, 73, 80, 79, 76, 89, 71, 79, 78]⟩, .int .i64 3] 83) = X := ⟨_, rfl⟩
        rw [hW] at P HB2 ⊢
        clear hW HB x0 x1 x2 x3 x4 x5 x6 x7
        have p0 := Blk.cell P 0 rfl
        have e9 : (⟨#[77, 85, 76, 84, 73, 80, 79, 76, 89, 71, 79, 78]⟩ : ByteArray).toList = ([77, 85, 76, 84, 73, 80, 79, 76, 89, 71, 79, 78] : List UInt8) := by first | rfl | decide +kernel | simp [go_sem]
        rw [e9] at hR
        clear e9
        cases hb : (([77, 85, 76, 84, 73, 80, 79, 76, 89, 71, 79, 78] : List UInt8) == n.toList)
        · rw [hb] at hR
          go_wp2_with (go_at_call 54; refine (HK.out _).mono ?_; rintro e w' ⟨rfl, rfl⟩)
          refine ⟨⟨7, rfl, by omega, HB2, Lib.hid hR⟩, by decide⟩
        · rw [hb] at hR
          have hR : ((6 : Int), true) = r := hR
          subst hR
          go_wp2_with (go_at_call 54; refine (HK.out _).mono ?_; rintro e w' ⟨rfl, rfl⟩)
          refine ⟨rfl, .tuple #[.int .i64 6, .bool true], ?_, rfl, HB2.out⟩
          simp [results, Tryd.results22, go_sem]
      · have hR : (if (⟨#[71, 69, 79, 77, 69, 84, 82, 89, 67, 79, 76, 76, 69, 67, 84, 73, 79, 78]⟩ : ByteArray).toList == n.toList then ((7 : Int), true) else kscan n 0 8) = r := hR
        have HK : Hid (∀ w, Calls Tryd.prog 54 #[.int .i64 7] w fun e w' => e = .returned (.bool true) ∧ w = w') := Lib.hid (fun w => HI.out 7 w _ rfl)
        have P := Blk.new wr #[.string ⟨#[71, 69, 79, 77, 69, 84, 82, 89, 67, 79, 76, 76, 69, 67, 84, 73, 79, 78]⟩, .int .i64 (-2)] 83
        have HB2 := Lib.hid (HB.out.alloc HB.out.size (.cells #[.string ⟨#[71, 69, 79, 77, 69, 84, 82, 89, 67, 79, 76, 76, 69, 67, 84, 73, 79, 78]⟩, .int .i64 (-2)] 83))
        go_upto_region 4 with (fail)
        obtain ⟨W, hW⟩ : ∃ X, wr.alloc (.cells #[.string ⟨#[71, 69, 79, 77, 69, 84, 82, 89, 67, 79, 76, 76, 69, 67, 84, 73, 79, 78]⟩, .int .i64 (-2)] 83) = X := ⟨_, rfl⟩
        rw [hW] at P HB2 ⊢
        clear hW HB x0 x1 x2 x3 x4 x5 x6 x7
        have p0 := Blk.cell P 0 rfl
        have e9 : (⟨#[71, 69, 79, 77, 69, 84, 82, 89, 67, 79, 76, 76, 69, 67, 84, 73, 79, 78]⟩ : ByteArray).toList = ([71, 69, 79, 77, 69, 84, 82, 89, 67, 79, 76, 76, 69, 67, 84, 73, 79, 78] : List UInt8) := by first | rfl | decide +kernel | simp [go_sem]
        rw [e9] at hR
        clear e9
        cases hb : (([71, 69, 79, 77, 69, 84, 82, 89, 67, 79, 76, 76, 69, 67, 84, 73, 79, 78] : List UInt8) == n.toList)
        · rw [hb] at hR
          go_wp2_with (go_at_call 54; refine (HK.out _).mono ?_; rintro e w' ⟨rfl, rfl⟩)
          refine ⟨⟨8, rfl, by omega, HB2, Lib.hid hR⟩, by decide⟩
        · rw [hb] at hR
          have hR : ((7 : Int), true) = r := hR
          subst hR
          go_wp2_with (go_at_call 54; refine (HK.out _).mono ?_; rintro e w' ⟨rfl, rfl⟩)
          refine ⟨rfl, .tuple #[.int .i64 7, .bool true], ?_, rfl, HB2.out⟩
          simp [results, Tryd.results22, go_sem]
    · obtain rfl : k = 8 := by omega
      have hR : ((0 : Int), false) = r := HRk.out
      subst hR
      clear x0 x1 x2 x3 x4 x5 x6 x7
      go_wp2
      refine ⟨rfl, .tuple #[.int .i64 0, .bool false], ?_, rfl, HB.out⟩
      simp [results, Tryd.results22, go_sem]

end Go.Proofs.YtfknhpgelleenaaDoor.K
