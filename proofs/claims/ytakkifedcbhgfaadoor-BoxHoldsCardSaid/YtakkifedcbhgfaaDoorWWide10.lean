/- A wide number parted by 10^19, and a piece's digits. -/
import Derived.Test.YtakkifedcbhgfaaDoorBase
import Derived.Handy
import Derived.Test.YtakkifedcbhgfaaDoorWDiv
namespace Go.Proofs.YtakkifedcbhgfaaDoor.K
open Go Go.RowKit Go.Proofs.YtakkifedcbhgfaaDoorW.PrintWords Go.Proofs.YtakkifedcbhgfaaDoorW.PrintLast Go.Proofs.YtakkifedcbhgfaaDoorW.PrintMore
set_option linter.unusedVariables false
set_option linter.unusedSimpArgs false
open Go.Proofs.YtakkifedcbhgfaaDoor.MWide (bt W64 U192 addV subV addOk subOk cry sumO bor difO cmpV width)
set_option maxHeartbeats 1000000 in
set_option maxRecDepth 100000 in
theorem parted_calls (a : Int) (w : World) (ha : U192 a) :
    Calls Tryd.prog 63 #[.agg #[.int .u64 (MWide.w0 a), .int .u64 (MWide.w1 a), .int .u64 (MWide.w2 a)], .int .u64 10000000000000000000] w fun e w' => e = .returned (.tuple #[.agg #[.int .u64 (MWide.w0 (a / 10000000000000000000)), .int .u64 (MWide.w1 (a / 10000000000000000000)), .int .u64 (MWide.w2 (a / 10000000000000000000))], .int .u64 (a % 10000000000000000000)]) ∧ Bel w w' := by
  obtain ⟨q2, hq2⟩ : ∃ q, q = MWide.w2 a / 10000000000000000000 := ⟨_, rfl⟩
  obtain ⟨r2, hr2⟩ : ∃ r, r = MWide.w2 a % 10000000000000000000 := ⟨_, rfl⟩
  obtain ⟨q1, hq1⟩ : ∃ q, q = (r2 * 18446744073709551616 + MWide.w1 a) / 10000000000000000000 := ⟨_, rfl⟩
  obtain ⟨r1, hr1⟩ : ∃ r, r = (r2 * 18446744073709551616 + MWide.w1 a) % 10000000000000000000 := ⟨_, rfl⟩
  obtain ⟨q0, hq0⟩ : ∃ q, q = (r1 * 18446744073709551616 + MWide.w0 a) / 10000000000000000000 := ⟨_, rfl⟩
  obtain ⟨r0, hr0⟩ : ∃ r, r = (r1 * 18446744073709551616 + MWide.w0 a) % 10000000000000000000 := ⟨_, rfl⟩
  have HP := Lib.hid (MDiv.parted_words ha r2 r1 q2 q1 q0 hq2 hr2 hq1 hr1 hq0)
  have D2 : Hid (∀ w, Calls Tryd.prog 90 #[.int .u64 0, .int .u64 (MWide.w2 a), .int .u64 10000000000000000000] w fun e w' => e = .returned (.tuple #[.int .u64 q2, .int .u64 r2]) ∧ Bel w w') := Lib.hid (fun w => by
    have := Div64_calls 0 (MWide.w2 a) w (by decide) (by decide) (MWide.w2_64 a)
    rw [Int.zero_mul, Int.zero_add, ← hq2, ← hr2] at this
    exact this)
  have D1 : Hid (∀ w, Calls Tryd.prog 90 #[.int .u64 r2, .int .u64 (MWide.w1 a), .int .u64 10000000000000000000] w fun e w' => e = .returned (.tuple #[.int .u64 q1, .int .u64 r1]) ∧ Bel w w') := Lib.hid (fun w => by
    have := Div64_calls r2 (MWide.w1 a) w (by omega) (by omega) (MWide.w1_64 a)
    rw [← hq1, ← hr1] at this
    exact this)
  have D0 : Hid (∀ w, Calls Tryd.prog 90 #[.int .u64 r1, .int .u64 (MWide.w0 a), .int .u64 10000000000000000000] w fun e w' => e = .returned (.tuple #[.int .u64 q0, .int .u64 r0]) ∧ Bel w w') := Lib.hid (fun w => by
    have := Div64_calls r1 (MWide.w0 a) w (by omega) (by omega) (MWide.w0_64 a)
    rw [← hq0, ← hr0] at this
    exact this)
  rw [← hr0] at HP
  clear ha hq2 hr2 hq1 hr1 hq0 hr0
  go_enter Tryd.func63, Tryd.ntmps63
  go_wp2
  refine wp_loop_rounds 4 ?_
  rw [rounds_succ]
  go_wp2_with fail
  refine (D2.out _).mono ?_
  rintro e w1 ⟨rfl, hb1⟩
  have A1 := Blk.bel ((Blk.new w #[.int .u64 (MWide.w0 a), .int .u64 (MWide.w1 a), .int .u64 (MWide.w2 a)] 26).alloc _ |>.alloc _) hb1
  have R1 := Blk.bel ((Blk.new_at (g := w.heap.size + 1) (by simp) #[.int .u64 0, .int .u64 0, .int .u64 0] 26).alloc _) hb1
  have O1 := Blk.bel (Blk.new_at (g := w.heap.size + 1 + 1) (by simp) #[.int .u64 0, .int .u64 0, .int .u64 0] 26) hb1
  have B1 : Hid (Below w.heap.size w w1) := Lib.hid (bthen (by repeat (first | exact Below.refl _ _ | refine Below.drew ?_ | refine Below.alloc ?_ (by simp <;> omega) _)) hb1)
  clear hb1
  obtain ⟨a0, a1, a2⟩ := A1.cells3
  obtain ⟨o0, o1, o2⟩ := O1.cells3
  have f0 := O1.froz 0; have f1 := O1.froz 1; have f2 := O1.froz 2
  go_wp2_with fail
  rw [rounds_succ]
  go_wp2_with fail
  refine (D1.out _).mono ?_
  rintro e w2 ⟨rfl, hb2⟩
  have A2 := (A1.set_ne (by omega) _).bel hb2
  have R2 := (R1.set_ne (by omega) _).bel hb2
  have O2 := (O1.set 2 (.int .u64 q2)).bel hb2
  have B2 : Hid (Below w.heap.size w w2) := Lib.hid (bthen (below_set B1.out (by omega) _) hb2)
  clear hb2 a0 a1 a2 o0 o1 o2 f0 f1 f2
  simp only [List.setIfInBounds_toArray, List.set_cons_zero, List.set_cons_succ] at O2
  obtain ⟨a0, a1, a2⟩ := A2.cells3
  obtain ⟨o0, o1, o2⟩ := O2.cells3
  have f0 := O2.froz 0; have f1 := O2.froz 1; have f2 := O2.froz 2
  go_wp2_with fail
  rw [rounds_succ]
  go_wp2_with fail
  refine (D0.out _).mono ?_
  rintro e w3 ⟨rfl, hb3⟩
  have R3 := (R2.set_ne (by omega) _).bel hb3
  have O3 := (O2.set 1 (.int .u64 q1)).bel hb3
  have B3 : Hid (Below w.heap.size w w3) := Lib.hid (bthen (below_set B2.out (by omega) _) hb3)
  clear hb3 a0 a1 a2 o0 o1 o2 f0 f1 f2
  simp only [List.setIfInBounds_toArray, List.set_cons_zero, List.set_cons_succ] at O3
  obtain ⟨r0', r1', r2'⟩ := R3.cells3
  obtain ⟨o0, o1, o2⟩ := O3.cells3
  have f0 := O3.froz 0; have f1 := O3.froz 1; have f2 := O3.froz 2
  have g0 := R3.froz 0; have g1 := R3.froz 1; have g2 := R3.froz 2
  go_wp2_with fail
  rw [rounds_succ]
  go_wp2_with fail
  obtain ⟨p0, p1, p2, p3⟩ := HP.out
  refine bodyPost_ret (v := .tuple #[.agg #[.int .u64 (MWide.w0 (a / 10000000000000000000)), .int .u64 (MWide.w1 (a / 10000000000000000000)), .int .u64 (MWide.w2 (a / 10000000000000000000))], .int .u64 (a % 10000000000000000000)]) ?_ rfl ⟨rfl, below_set3 (below_set B3.out (by omega) _) (by omega) _ _ _⟩
  obtain ⟨k0, k1, k2⟩ := ((R3.set_ne (j := w.heap.size + 1 + 1) (i := 0) (by omega) (.int .u64 q0)).set3 (x' := .int .u64 q0) (y' := .int .u64 q1) (z' := .int .u64 q2)).cells3
  rw [p0, p1, p2, ← p3]
  simp [results, Tryd.results63, go_sem, k0, k1, k2]
theorem CB.of_blk {W : World} {g t : Nat} {cs : Array Value} (h : Blk W g cs t) (l : List Int) (hl : cs = (l.map (Value.int .u8)).toArray) (hle : l.length ≤ 9223372036854775807) : CB W (some ⟨g, 0, none⟩) l := by
  subst hl
  refine ⟨rfl, hle, fun h0 => ⟨⟨g, 0, none⟩, rfl, fun j p hj => ⟨[.int .u8 p], rfl, rfl, fun i u hu => ?_⟩⟩⟩
  have hi : i = 0 := by
    rcases i with _ | i
    · rfl
    · simp at hu
  subst hi
  simp at hu
  subst hu
  have : (l.map (Value.int .u8)).toArray[j]? = some (.int .u8 p) := by simp [hj]
  have hc := h.cell j this
  have hz : (⟨g, 0, none⟩ : Addr).add (j * 1 + 0) = ⟨g, j, none⟩ := by
    by_cases hj0 : j = 0 <;> simp [Addr.add, hj0]
  exact (congrArg W.cell? hz).trans hc
def darr (n : Int) (k : Nat) : Array Value := ((List.range 19).map (fun j => Value.int .u8 (if 18 - j < k then 48 + n / 10 ^ (18 - j) % 10 else 0))).toArray
theorem darr_at (n : Int) (k : Nat) (hk : k < 19) : (darr n k)[18 - k]? = some (.int .u8 0) := by
  simp only [darr, List.getElem?_toArray, List.getElem?_map, List.getElem?_range (show 18 - k < 19 by omega), Option.map_some]
  rw [if_neg (by omega)]
theorem darr_set (n : Int) (k : Nat) (hk : k < 19) : (darr n k).setIfInBounds (18 - k) (.int .u8 (48 + n / 10 ^ k % 10)) = darr n (k + 1) := by
  apply Array.ext
  · simp [darr]
  · intro i h1 h2
    have hi : i < 19 := by simpa [darr] using h2
    rw [Array.getElem_setIfInBounds (by simpa [darr] using hi)]
    by_cases he : 18 - k = i
    · subst he
      rw [if_pos rfl]
      simp only [darr, List.getElem_toArray, List.getElem_map, List.getElem_range]
      rw [show 18 - (18 - k) = k by omega, if_pos (by omega)]
    · rw [if_neg he]
      simp only [darr, List.getElem_toArray, List.getElem_map, List.getElem_range]
      by_cases hlt : 18 - i < k
      · rw [if_pos hlt, if_pos (by omega)]
      · rw [if_neg hlt, if_neg (by omega)]
theorem padD_range (n : Int) (k : Nat) : MText.padD n k = (List.range k).map (fun j => 48 + n / 10 ^ (k - 1 - j) % 10) := by
  induction k generalizing n with
  | zero => rfl
  | succ k ih =>
    rw [MText.padD, ih, List.range_succ, List.map_append]
    congr 1
    · apply List.map_congr_left
      intro j hj
      have hj := List.mem_range.1 hj
      rw [Int.ediv_ediv_of_nonneg (by decide), show (10 : Int) * 10 ^ (k - 1 - j) = 10 ^ (k + 1 - 1 - j) by rw [show k + 1 - 1 - j = (k - 1 - j) + 1 by omega, Int.pow_succ, Int.mul_comm]]
    · simp
theorem darr_pad (n : Int) : darr n 19 = ((MText.padD n 19).map (Value.int .u8)).toArray := by
  rw [padD_range]
  unfold darr
  rw [List.map_map]
  refine congrArg List.toArray (List.map_congr_left ?_)
  intro j hj
  have hj := List.mem_range.1 hj
  simp only [Function.comp]
  rw [if_pos (by omega)]
set_option maxHeartbeats 1000000 in
set_option maxRecDepth 100000 in
theorem digits_calls (n : Int) (w : World) (h0 : 0 ≤ n) (h1 : n < 18446744073709551616) :
    Calls Tryd.prog 64 #[.int .u64 n] w fun e w' => e = .returned (.string (strOfNums (MText.padD n 19))) ∧ Bel w w' := by
  go_enter Tryd.func64, Tryd.ntmps64
  go_wp2
  go_loopw [0, 5] (fun x i wr => ∃ k : Nat, k ≤ 19 ∧ i = .int .i64 k ∧ x = .int .u64 (n / 10 ^ k) ∧ Hid (Below w.heap.size w wr) ∧ Blk wr w.heap.size (darr n k) 115) (fun _ i _ => 19 - (intOf i).toNat)
  case atStart =>
    exact ⟨0, by omega, rfl, by rw [Int.pow_zero, Int.ediv_one], Lib.hid ((Below.refl _ w).alloc (Nat.le_refl _) _), Blk.new w _ 115⟩
  case round =>
    obtain ⟨k, hk, rfl, rfl, HBel, hb⟩ := hrel
    by_cases hlt : k < 19
    · have hq0 : 0 ≤ n / 10 ^ k := Int.ediv_nonneg h0 (Int.le_of_lt (MText.p10 k))
      have hq1 : n / 10 ^ k < 18446744073709551616 := Int.lt_of_le_of_lt (Int.ediv_le_self _ h0) h1
      have hc := hb.cell (18 - k) (u := .int .u8 0) (darr_at n k hlt)
      have f0 := hb.froz (18 - k)
      go_wp2
      go_roundw
      case rel =>
        refine ⟨k + 1, by omega, by go_num, by rw [Int.pow_succ, ← Int.ediv_ediv_of_nonneg (Int.le_of_lt (MText.p10 k))], Lib.hid (below_set HBel.out (Nat.le_refl _) _), ?_⟩
        have := hb.set (18 - k) (.int .u8 (48 + n / 10 ^ k % 10))
        rw [darr_set n k hlt] at this
        exact this
      case measure => simp [intOf]; omega
    · have hk19 : k = 19 := by omega
      subst hk19
      have hC := CB.of_blk hb (MText.padD n 19) (darr_pad n) (by rw [MText.padD_length]; decide)
      have hconv := hC.str (c := 19)
      rw [MText.padD_length] at hconv
      clear hC
      go_wp2
      go_ret
      exact ⟨rfl, HBel.out⟩

end Go.Proofs.YtakkifedcbhgfaaDoor.K
