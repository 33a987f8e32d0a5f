/- How two wide numbers stand, and how many bits one has, as the reference has them. -/
import Derived.Test.YtakkifedcbhgfaaDoorBase
import Derived.Handy
import Derived.Test.YtakkifedcbhgfaaDoorWWide3
namespace Go.Proofs.YtakkifedcbhgfaaDoor.K
open Go Go.RowKit Go.Proofs.YtakkifedcbhgfaaDoorW.PrintWords Go.Proofs.YtakkifedcbhgfaaDoorW.PrintLast Go.Proofs.YtakkifedcbhgfaaDoorW.PrintMore
set_option linter.unusedVariables false
set_option linter.unusedSimpArgs false
open Go.Proofs.YtakkifedcbhgfaaDoor.MWide (bt W64 U192 addV subV addOk subOk cry sumO bor difO cmpV width)
set_option maxHeartbeats 1000000 in
set_option maxRecDepth 100000 in
theorem refCmp_calls (a b : Int) (w : World) (ha : U192 a) (hb : U192 b) :
    Calls Tryd.prog 38 #[.agg #[.int .u64 (MWide.w0 a), .int .u64 (MWide.w1 a), .int .u64 (MWide.w2 a)], .agg #[.int .u64 (MWide.w0 b), .int .u64 (MWide.w1 b), .int .u64 (MWide.w2 b)]] w fun e w' => e = .returned (.int .i64 (cmpV a b)) ∧ Bel w w' := by
  have HA := Lib.hid ha; have HB := Lib.hid hb
  clear ha hb
  go_enter Tryd.func38, Tryd.ntmps38
  go_wp2
  go_loopw [5] (fun i wr => ∃ k : Nat, k ≤ 192 ∧ i = .int .i64 ((k : Int) - 1) ∧ Hid (a / 2 ^ k = b / 2 ^ k) ∧ Hid (Below w.heap.size w wr) ∧ Blk wr w.heap.size #[.int .u64 (MWide.w0 a), .int .u64 (MWide.w1 a), .int .u64 (MWide.w2 a)] 24 ∧ Blk wr (w.heap.size + 1) #[.int .u64 (MWide.w0 b), .int .u64 (MWide.w1 b), .int .u64 (MWide.w2 b)] 24) (fun i _ => (intOf i + 1).toNat)
  case atStart =>
    refine ⟨192, by omega, rfl, Lib.hid ?_, Lib.hid ?_, ?_, ?_⟩
    · have h1 := HA.out; have h2 := HB.out
      unfold U192 at h1 h2
      rw [show (2 : Int) ^ 192 = 6277101735386680763835789423207666416102355444464034512896 from rfl]
      omega
    · exact (((Below.refl _ w).alloc (Nat.le_refl _) _).alloc (by simp) _)
    · exact (Blk.new w _ 24).alloc _
    · exact Blk.new_at (by simp) _ 24
  case round =>
    obtain ⟨k, hk, rfl, HD, HBel, hba, hbb⟩ := hrel
    by_cases hlt : 0 < k
    · obtain ⟨j, rfl⟩ : ∃ j, k = j + 1 := ⟨k - 1, by omega⟩
      have hi : (((j + 1 : Nat) : Int) - 1) = (j : Int) := by omega
      rw [hi]
      clear hi
      obtain ⟨a0, a1, a2⟩ := hba.cells3
      obtain ⟨b0, b1, b2⟩ := hbb.cells3
      have hj : j < 192 := by omega
      go_wp2_with fail
      go_region_held3 (fun w' => w'.cell? ⟨w.heap.size, 0, none⟩ = some (.int .u64 (MWide.w0 a)) ∧ w'.cell? ⟨w.heap.size, 1, none⟩ = some (.int .u64 (MWide.w1 a)) ∧ w'.cell? ⟨w.heap.size, 2, none⟩ = some (.int .u64 (MWide.w2 a)) ∧ w'.cell? ⟨w.heap.size + 1, 0, none⟩ = some (.int .u64 (MWide.w0 b)) ∧ w'.cell? ⟨w.heap.size + 1, 1, none⟩ = some (.int .u64 (MWide.w1 b)) ∧ w'.cell? ⟨w.heap.size + 1, 2, none⟩ = some (.int .u64 (MWide.w2 b)) ∧ Bel wr w') (first | exact kc6 hb (by assumption) | exact ⟨a0, a1, a2, b0, b1, b2, Bel.drew _⟩)
        (first | (go_at_call 76; refine (bit_calls _ j _ hj).mono ?_; rintro e w' ⟨rfl, hb⟩))
      rename_i w1 hb1 hheld
      have hB := hheld.2.2.2.2.2.2
      clear hb1 hheld hb a0 a1 a2 b0 b1 b2
      have haN := hba.bel hB
      have hbN := hbb.bel hB
      have HBl := Lib.hid (bthen HBel.out hB)
      clear hba hbb hB HBel
      rcases Int.lt_trichotomy (bt a j) (bt b j) with hc | hc | hc
      · have b1 : (bt a j != bt b j) = true := by rw [bne_iff_ne]; omega
        have b2 : decide (bt a j < bt b j) = true := decide_eq_true hc
        have hl := MWide.cmp_lt HD.out hc
        have HV : Hid (cmpV a b = -1) := Lib.hid (by unfold cmpV; rw [if_pos hl])
        clear hc hl
        go_wp2
        go_ret
        exact ⟨by rw [HV.out]; rfl, HBl.out⟩
      · have b1 : (bt a j != bt b j) = false := by rw [hc]; exact bne_self_eq_false _
        have HE := Lib.hid (MWide.cmp_eq HD.out hc)
        clear hc
        go_wp2
        go_roundw
        case rel => exact ⟨j, by omega, rfl, HE, HBl, haN, hbN⟩
        case measure => simp [intOf]; try omega
      · have b1 : (bt a j != bt b j) = true := by rw [bne_iff_ne]; omega
        have b2 : decide (bt a j < bt b j) = false := decide_eq_false (by omega)
        have hl := MWide.cmp_lt HD.out.symm hc
        have HV : Hid (cmpV a b = 1) := Lib.hid (by unfold cmpV; rw [if_neg (by omega), if_neg (by omega)])
        clear hc hl
        go_wp2
        go_ret
        exact ⟨by rw [HV.out]; rfl, HBl.out⟩
    · have hk0 : k = 0 := by omega
      subst hk0
      have he : a = b := by have := HD.out; simpa using this
      have HV : Hid (cmpV a b = 0) := Lib.hid (by unfold cmpV; rw [if_neg (by omega), if_pos he])
      clear he
      go_wp2
      go_ret
      exact ⟨by rw [HV.out]; rfl, HBel.out⟩
set_option maxHeartbeats 1000000 in
set_option maxRecDepth 100000 in
theorem refWidth_calls (a : Int) (w : World) (ha : U192 a) :
    Calls Tryd.prog 40 #[.agg #[.int .u64 (MWide.w0 a), .int .u64 (MWide.w1 a), .int .u64 (MWide.w2 a)]] w fun e w' => e = .returned (.int .i64 (width a)) ∧ Bel w w' := by
  have HA := Lib.hid ha
  clear ha
  go_enter Tryd.func40, Tryd.ntmps40
  go_wp2
  go_loopw [3] (fun i wr => ∃ k : Nat, k ≤ 192 ∧ i = .int .i64 ((k : Int) - 1) ∧ Hid (a / 2 ^ k = 0) ∧ Hid (Below w.heap.size w wr) ∧ Blk wr w.heap.size #[.int .u64 (MWide.w0 a), .int .u64 (MWide.w1 a), .int .u64 (MWide.w2 a)] 24) (fun i _ => (intOf i + 1).toNat)
  case atStart =>
    refine ⟨192, by omega, rfl, Lib.hid ?_, Lib.hid ?_, ?_⟩
    · have h1 := HA.out
      unfold U192 at h1
      rw [show (2 : Int) ^ 192 = 6277101735386680763835789423207666416102355444464034512896 from rfl]
      omega
    · exact (Below.refl _ w).alloc (Nat.le_refl _) _
    · exact Blk.new w _ 24
  case round =>
    obtain ⟨k, hk, rfl, HD, HBel, hba⟩ := hrel
    by_cases hlt : 0 < k
    · obtain ⟨j, rfl⟩ : ∃ j, k = j + 1 := ⟨k - 1, by omega⟩
      have hi : (((j + 1 : Nat) : Int) - 1) = (j : Int) := by omega
      rw [hi]
      clear hi
      obtain ⟨a0, a1, a2⟩ := hba.cells3
      have hj : j < 192 := by omega
      have hd := MWide.div_succ a j
      rw [HD.out] at hd
      have b01 := MWide.bt01 a j
      by_cases h1 : bt a j = 1
      · have hbit : (bt a j == 1) = true := by rw [h1]; rfl
        have HV : Hid (width a = (j : Int) + 1) := Lib.hid (MWide.width_at (by rw [hd, h1]; rfl))
        clear hd h1 b01
        go_wp2_with (go_at_call 76; refine (bit_calls _ j _ hj).mono ?_; rintro e w' ⟨rfl, hb⟩; have HB2 := Lib.hid hb; clear hb)
        go_ret
        exact ⟨by rw [HV.out]; rfl, bthen HBel.out HB2.out⟩
      · have hbit : (bt a j == 1) = false := by rw [beq_eq_false_iff_ne]; exact h1
        have h0 : bt a j = 0 := by omega
        have HE : Hid (a / 2 ^ j = 0) := Lib.hid (by rw [hd, h0]; rfl)
        clear hd h1 b01 h0
        go_wp2_with (go_at_call 76; refine (bit_calls _ j _ hj).mono ?_; rintro e w' ⟨rfl, hb⟩; have HB2 := Lib.hid hb; clear hb)
        go_roundw
        case rel => exact ⟨j, by omega, rfl, HE, Lib.hid (bthen HBel.out HB2.out), hba.bel HB2.out⟩
        case measure => simp [intOf]; try omega
    · have hk0 : k = 0 := by omega
      subst hk0
      have he : a = 0 := by have := HD.out; simpa using this
      have HV : Hid (width a = 0) := Lib.hid (by rw [he]; rfl)
      clear he
      go_wp2
      go_ret
      exact ⟨by rw [HV.out]; rfl, HBel.out⟩

end Go.Proofs.YtakkifedcbhgfaaDoor.K
