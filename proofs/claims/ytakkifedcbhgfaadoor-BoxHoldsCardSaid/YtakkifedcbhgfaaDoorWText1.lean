/- Trimming zeros; whether wide numbers are alike. -/
import Derived.Test.YtakkifedcbhgfaaDoorBase
import Derived.Handy
import Derived.Test.YtakkifedcbhgfaaDoorWWide10
import Derived.ChangeKeysEq
namespace Go.Proofs.YtakkifedcbhgfaaDoor.K
open Go Go.RowKit Go.Proofs.YtakkifedcbhgfaaDoorW.PrintWords Go.Proofs.YtakkifedcbhgfaaDoorW.PrintLast Go.Proofs.YtakkifedcbhgfaaDoorW.PrintMore
set_option linter.unusedVariables false
set_option linter.unusedSimpArgs false
theorem bytes_cons (t : ByteArray) (h : 0 < t.size) : t.data.toList = t[0] :: (t.extract 1 t.size).data.toList := by
  have hs : t.data.toList.length = t.size := by rw [Array.length_toList]; rfl
  have e : (t.extract 1 t.size).data.toList = t.data.toList.drop 1 := by
    rw [ByteArray.data_extract, Array.toList_extract, List.extract_eq_take_drop, List.take_of_length_le]
    rw [List.length_drop, hs]; omega
  rw [e]
  have h0 : 0 < t.data.toList.length := by omega
  have h1 := List.getElem_cons_drop h0
  rw [List.drop_zero] at h1
  exact h1.symm
theorem bytes_nil (t : ByteArray) (h : t.size = 0) : t.data.toList = [] := List.eq_nil_of_length_eq_zero (by rw [Array.length_toList]; exact h)
theorem str_toList (t : ByteArray) (L : List UInt8) (h : t.data.toList = L) : t = ⟨L.toArray⟩ := by subst h; rfl
set_option maxHeartbeats 1000000 in
theorem trimLeftByte_calls (s : ByteArray) (c : Int) (hs : s.size ≤ 9223372036854775807) (w : World) :
    Calls Tryd.prog 91 #[.string s, .int .u8 c] w fun e w' => e = .returned (.string ⟨(s.data.toList.dropWhile (fun x => (x.toNat : Int) == c)).toArray⟩) ∧ w = w' := by
  go_enter Tryd.func91, Tryd.ntmps91
  go_wp2
  go_loop [0] (fun v => ∃ t : ByteArray, v = .string t ∧ t.size ≤ 9223372036854775807 ∧ Hid (t.data.toList.dropWhile (fun x => (x.toNat : Int) == c) = s.data.toList.dropWhile (fun x => (x.toNat : Int) == c))) (fun v => match v with | .string b => b.size | _ => 0)
  case atStart => exact ⟨s, rfl, hs, Lib.hid rfl⟩
  case round =>
    obtain ⟨t, rfl, ht, HD⟩ := hrel
    by_cases h0 : 0 < t.size
    · by_cases hx : (t[0].toNat : Int) = c
      · have b1 : ((t[0].toNat : Int) == c) = true := by rw [hx]; exact beq_self_eq_true _
        have hn : Hid ((t.extract 1 t.size).data.toList.dropWhile (fun x => (x.toNat : Int) == c) = s.data.toList.dropWhile (fun x => (x.toNat : Int) == c)) := Lib.hid (by
          rw [← HD.out, bytes_cons t h0, List.dropWhile_cons, if_pos b1])
        have HX := Lib.hid hx
        clear hx
        go_wp2
        go_round
        case rel => exact ⟨_, rfl, by simp [ByteArray.size_extract]; omega, hn⟩
        case measure => simp [ByteArray.size_extract]; omega
      · have b1 : ((t[0].toNat : Int) == c) = false := by rw [beq_eq_false_iff_ne]; exact hx
        have hn : Hid (t.data.toList = s.data.toList.dropWhile (fun x => (x.toNat : Int) == c)) := Lib.hid (by
          rw [← HD.out, bytes_cons t h0, List.dropWhile_cons, if_neg (by rw [b1]; decide)])
        clear hx
        go_wp2
        go_ret
        exact ⟨by rw [← hn.out]; rfl, rfl⟩
    · have hz : t.size = 0 := by omega
      have hn : Hid (t.data.toList = s.data.toList.dropWhile (fun x => (x.toNat : Int) == c)) := Lib.hid (by
          rw [← HD.out, bytes_nil t hz]; rfl)
      clear hz
      go_wp2
      go_ret
      exact ⟨by rw [← hn.out]; rfl, rfl⟩
set_option maxHeartbeats 1000000 in
set_option maxRecDepth 100000 in
theorem TrimLeft_calls (s : ByteArray) (hs : s.size ≤ 9223372036854775807) (w : World) :
    Calls Tryd.prog 65 #[.string s, .string ⟨#[48]⟩] w fun e w' => e = .returned (.string ⟨(s.data.toList.dropWhile (fun x => (x.toNat : Int) == 48)).toArray⟩) ∧ w = w' := by
  have HB := Lib.hid (fun w => trimLeftByte_calls s 48 hs w)
  by_cases h0 : s.size = 0
  · have hn := bytes_nil s h0
    have he := str_toList s [] hn
    have HN := Lib.hid hn
    subst he
    clear hn h0 hs
    go_enter Tryd.func65, Tryd.ntmps65
    go_wp2
    go_ret
    exact ⟨rfl, rfl⟩
  · have hl : ¬ s.data.toList = [] := by
      intro h
      have hh : s.data.toList.length = s.size := by rw [Array.length_toList]; rfl
      rw [h] at hh
      exact h0 hh.symm
    have hi : s.toList.isEmpty = false := by
      rw [ByteArray.toList_eq]
      cases hx : s.data.toList with
      | nil => exact absurd hx hl
      | cons x l => rfl
    have h48 : (((⟨#[48]⟩ : ByteArray)[0].toNat : Nat) : Int) = 48 := rfl
    clear h0 hs hl
    go_enter Tryd.func65, Tryd.ntmps65
    go_wp2_with (go_at_call 91; refine (HB.out _).mono ?_; rintro e w' ⟨rfl, rfl⟩)
    go_ret
    exact ⟨rfl, rfl⟩
open Go in
theorem equalIn_u64 (w : World) (d : Nat) (a b : Int) : (Op.equalIn (d + 1) 22 (.int .u64 a) (.int .u64 b)).run Tryd.prog w = .ok (a == b) w := by
  simp [Op.equalIn, run_underlying Tryd.underlying22]
theorem part_u64 (w : World) (xs : Array Value) (i : Nat) (x : Int) (hx : xs[i]? = some (.int .u64 x)) : (part 22 xs (i * 1)).run Tryd.prog w = .ok (.int .u64 x) w := by
  unfold part
  rw [Sem.run_bind]
  have : (isAgg 22).run Tryd.prog w = .ok false w := by simp [isAgg, run_underlying Tryd.underlying22]
  rw [this]
  simp only [Result.andThen_ok, Bool.false_eq_true, if_false, Nat.mul_one]
  rw [hx]
  rfl
theorem items3 (w : World) (d : Nat) (x y z x' y' z' : Int) :
    (Op.eqItems (d + 1) 22 1 #[.int .u64 x, .int .u64 y, .int .u64 z] #[.int .u64 x', .int .u64 y', .int .u64 z'] [0, 1, 2]).run Tryd.prog w = .ok (x == x' && (y == y' && z == z')) w := by
  have p0 := part_u64 w #[.int .u64 x, .int .u64 y, .int .u64 z] 0 x rfl
  have p1 := part_u64 w #[.int .u64 x, .int .u64 y, .int .u64 z] 1 y rfl
  have p2 := part_u64 w #[.int .u64 x, .int .u64 y, .int .u64 z] 2 z rfl
  have q0 := part_u64 w #[.int .u64 x', .int .u64 y', .int .u64 z'] 0 x' rfl
  have q1 := part_u64 w #[.int .u64 x', .int .u64 y', .int .u64 z'] 1 y' rfl
  have q2 := part_u64 w #[.int .u64 x', .int .u64 y', .int .u64 z'] 2 z' rfl
  simp only [Op.eqItems, Sem.run_bind, p0, p1, p2, q0, q1, q2, Result.andThen_ok, equalIn_u64]
  cases (x == x')
  · simp only [Bool.not_true, Bool.not_false, Bool.false_eq_true, if_true, if_false, Bool.true_and, Bool.false_and, Bool.and_true, Sem.run_bind, Sem.run_pure, Result.andThen_ok, p1, p2, q1, q2, equalIn_u64]
  · simp only [Bool.not_true, Bool.not_false, Bool.false_eq_true, if_true, if_false, Bool.true_and, Bool.false_and, Bool.and_true, Sem.run_bind, Sem.run_pure, Result.andThen_ok, p1, p2, q1, q2, equalIn_u64]
    cases (y == y')
    · simp only [Bool.not_true, Bool.not_false, Bool.false_eq_true, if_true, if_false, Bool.true_and, Bool.false_and, Bool.and_true, Sem.run_bind, Sem.run_pure, Result.andThen_ok, p1, p2, q1, q2, equalIn_u64]
    · simp only [Bool.not_true, Bool.not_false, Bool.false_eq_true, if_true, if_false, Bool.true_and, Bool.false_and, Bool.and_true, Sem.run_bind, Sem.run_pure, Result.andThen_ok, p1, p2, q1, q2, equalIn_u64]
      cases (z == z')
      · simp only [Bool.not_true, Bool.not_false, Bool.false_eq_true, if_true, if_false, Bool.true_and, Bool.false_and, Bool.and_true, Sem.run_bind, Sem.run_pure, Result.andThen_ok, p1, p2, q1, q2, equalIn_u64]
      · simp only [Bool.not_true, Bool.not_false, Bool.false_eq_true, if_true, if_false, Bool.true_and, Bool.false_and, Bool.and_true, Sem.run_bind, Sem.run_pure, Result.andThen_ok, p1, p2, q1, q2, equalIn_u64]
set_option maxRecDepth 100000 in
theorem eq3_in (t : TypeId) (ht : Tryd.prog.underlying t = some (.array 3 22)) (d : Nat) (x y z x' y' z' : Int) (w : World) :
    (Op.equalIn (d + 2) t (.agg #[.int .u64 x, .int .u64 y, .int .u64 z]) (.agg #[.int .u64 x', .int .u64 y', .int .u64 z'])).run Tryd.prog w = .ok (x == x' && (y == y' && z == z')) w := by
  obtain ⟨i, hi⟩ : ∃ i, Tryd.prog.info? 22 = some i := by
    have : (Tryd.prog.info? 22).isSome = true := by kernel_rfl
    exact Option.isSome_iff_exists.1 this
  have hc : Tryd.prog.cellsOf 22 = 1 := by kernel_rfl
  have h := run_equalIn_array w (d + 1) #[.int .u64 x, .int .u64 y, .int .u64 z] #[.int .u64 x', .int .u64 y', .int .u64 z'] ht hi
  rw [hc, show List.range 3 = [0, 1, 2] from rfl, items3] at h
  exact h
set_option maxRecDepth 100000 in
theorem eq3 (t : TypeId) (ht : Tryd.prog.underlying t = some (.array 3 22)) (x y z x' y' z' : Int) (w : World) : (binOp .eql t (.agg #[.int .u64 x, .int .u64 y, .int .u64 z]) (.agg #[.int .u64 x', .int .u64 y', .int .u64 z'])).run Tryd.prog w = .ok (.bool (x == x' && (y == y' && z == z'))) w := by
  unfold binOp
  simp only [Sem.run_bind, Op.equal, Op.maxDepth, eq3_in t ht 9998, Result.andThen_ok, Sem.run_pure]
set_option maxRecDepth 100000 in
theorem neq3 (t : TypeId) (ht : Tryd.prog.underlying t = some (.array 3 22)) (x y z x' y' z' : Int) (w : World) : (binOp .neq t (.agg #[.int .u64 x, .int .u64 y, .int .u64 z]) (.agg #[.int .u64 x', .int .u64 y', .int .u64 z'])).run Tryd.prog w = .ok (.bool (!(x == x' && (y == y' && z == z')))) w := by
  unfold binOp
  simp only [Sem.run_bind, Op.equal, Op.maxDepth, eq3_in t ht 9998, Result.andThen_ok, Sem.run_pure]
theorem u26 : Tryd.prog.underlying 26 = some (.array 3 22) := Tryd.underlying26
theorem u24 : Tryd.prog.underlying 24 = some (.array 3 22) := Tryd.underlying24
/-- Wide numbers are alike just where they are the same. -/
theorem eqU {a b : Int} (ha : MWide.U192 a) (hb : MWide.U192 b) : (MWide.w0 a == MWide.w0 b && (MWide.w1 a == MWide.w1 b && MWide.w2 a == MWide.w2 b)) = (a == b) := by
  rw [Bool.eq_iff_iff]
  simp only [Bool.and_eq_true, beq_iff_eq]
  constructor
  · rintro ⟨h0, h1, h2⟩; exact MWide.w_ext ha hb h0 h1 h2
  · rintro rfl; exact ⟨rfl, rfl, rfl⟩

end Go.Proofs.YtakkifedcbhgfaaDoor.K
