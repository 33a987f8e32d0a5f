/- Texts laid as one: Trimming zeros; whether wide numbers are alike. · A wide number's digits. · The laws of layer 1: products and spans. · The law of layer 1 on how areas stand. · The law of layer 1 on sums and differences. -/
import Derived.Test.YtakkifedcbhgfaaDoorKB
import Derived.Handy
import Derived.Test.YtakkifedcbhgfaaDoorKW1
import Derived.ChangeKeysEq
namespace Go.Proofs.YtakkifedcbhgfaaDoor.K
open Go Go.RowKit Go.Proofs.YtakkifedcbhgfaaDoorW.PrintWords Go.Proofs.YtakkifedcbhgfaaDoorW.PrintLast Go.Proofs.YtakkifedcbhgfaaDoorW.PrintMore
set_option linter.unusedVariables false
set_option linter.unusedSimpArgs false
theorem bytes_cons (t : ByteArray) (h : 0 < t.size) : t.data.toList = t[0] :: (t.extract 1 t.size).data.toList := by
  have hs : t.data.toList.length = t.size := by rw [Array.length_toList]; rfl
  have e : (t.extract 1 t.size).data.toList = t.data.toList.drop 1 := by
    rw [ByteArray.data_extract, Array.toList_extract, List.extract_eq_take_drop, List.take_of_length_le]
    rw [List.length_drop, hs]; omega
  rw [e]
  have h0 : 0 < t.data.toList.length := by omega
  have h1 := List.getElem_cons_drop h0
  rw [List.drop_zero] at h1
  exact h1.symm
theorem bytes_nil (t : ByteArray) (h : t.size = 0) : t.data.toList = [] := List.eq_nil_of_length_eq_zero (by rw [Array.length_toList]; exact h)
theorem str_toList (t : ByteArray) (L : List UInt8) (h : t.data.toList = L) : t = ⟨L.toArray⟩ := by subst h; rfl
set_option maxHeartbeats 1000000 in
theorem trimLeftByte_calls (s : ByteArray) (c : Int) (hs : s.size ≤ 9223372036854775807) (w : World) :
    Calls Tryd.prog 91 #[.string s, .int .u8 c] w fun e w' => e = .returned (.string ⟨(s.data.toList.dropWhile (fun x => (x.toNat : Int) == c)).toArray⟩) ∧ w = w' := by
  go_enter Tryd.func91, Tryd.ntmps91
  go_wp2
  go_loop [0] (fun v => ∃ t : ByteArray, v = .string t ∧ t.size ≤ 9223372036854775807 ∧ Hid (t.data.toList.dropWhile (fun x => (x.toNat : Int) == c) = s.data.toList.dropWhile (fun x => (x.toNat : Int) == c))) (fun v => match v with | .string b => b.size | _ => 0)
  case atStart => exact ⟨s, rfl, hs, Lib.hid rfl⟩
  case round =>
    obtain ⟨t, rfl, ht, HD⟩ := hrel
    by_cases h0 : 0 < t.size
    · by_cases hx : (t[0].toNat : Int) = c
      · have b1 : ((t[0].toNat : Int) == c) = true := by rw [hx]; exact beq_self_eq_true _
        have hn : Hid ((t.extract 1 t.size).data.toList.dropWhile (fun x => (x.toNat : Int) == c) = s.data.toList.dropWhile (fun x => (x.toNat : Int) == c)) := Lib.hid (by
          rw [← HD.out, bytes_cons t h0, List.dropWhile_cons, if_pos b1])
        have HX := Lib.hid hx
        clear hx
        go_wp2
        go_round
        case rel => exact ⟨_, rfl, by simp [ByteArray.size_extract]; omega, hn⟩
        case measure => simp [ByteArray.size_extract]; omega
      · have b1 : ((t[0].toNat : Int) == c) = false := by rw [beq_eq_false_iff_ne]; exact hx
        have hn : Hid (t.data.toList = s.data.toList.dropWhile (fun x => (x.toNat : Int) == c)) := Lib.hid (by
          rw [← HD.out, bytes_cons t h0, List.dropWhile_cons, if_neg (by rw [b1]; decide)])
        clear hx
        go_wp2
        go_ret
        exact ⟨by rw [← hn.out]; rfl, rfl⟩
    · have hz : t.size = 0 := by omega
      have hn : Hid (t.data.toList = s.data.toList.dropWhile (fun x => (x.toNat : Int) == c)) := Lib.hid (by
          rw [← HD.out, bytes_nil t hz]; rfl)
      clear hz
      go_wp2
      go_ret
      exact ⟨by rw [← hn.out]; rfl, rfl⟩
set_option maxHeartbeats 1000000 in
set_option maxRecDepth 100000 in
theorem TrimLeft_calls (s : ByteArray) (hs : s.size ≤ 9223372036854775807) (w : World) :
    Calls Tryd.prog 65 #[.string s, .string ⟨#[48]⟩] w fun e w' => e = .returned (.string ⟨(s.data.toList.dropWhile (fun x => (x.toNat : Int) == 48)).toArray⟩) ∧ w = w' := by
  have HB := Lib.hid (fun w => trimLeftByte_calls s 48 hs w)
  by_cases h0 : s.size = 0
  · have hn := bytes_nil s h0
    have he := str_toList s [] hn
    have HN := Lib.hid hn
    subst he
    clear hn h0 hs
    go_enter Tryd.func65, Tryd.ntmps65
    go_wp2
    go_ret
    exact ⟨rfl, rfl⟩
  · have hl : ¬ s.data.toList = [] := by
      intro h
      have hh : s.data.toList.length = s.size := by rw [Array.length_toList]; rfl
      rw [h] at hh
      exact h0 hh.symm
    have hi : s.toList.isEmpty = false := by
      rw [ByteArray.toList_eq]
      cases hx : s.data.toList with
      | nil => exact absurd hx hl
      | cons x l => rfl
    have h48 : (((⟨#[48]⟩ : ByteArray)[0].toNat : Nat) : Int) = 48 := rfl
    clear h0 hs hl
    go_enter Tryd.func65, Tryd.ntmps65
    go_wp2_with (go_at_call 91; refine (HB.out _).mono ?_; rintro e w' ⟨rfl, rfl⟩)
    go_ret
    exact ⟨rfl, rfl⟩
open Go in
theorem equalIn_u64 (w : World) (d : Nat) (a b : Int) : (Op.equalIn (d + 1) 22 (.int .u64 a) (.int .u64 b)).run Tryd.prog w = .ok (a == b) w := by
  simp [Op.equalIn, run_underlying Tryd.underlying22]
theorem part_u64 (w : World) (xs : Array Value) (i : Nat) (x : Int) (hx : xs[i]? = some (.int .u64 x)) : (part 22 xs (i * 1)).run Tryd.prog w = .ok (.int .u64 x) w := by
  unfold part
  rw [Sem.run_bind]
  have : (isAgg 22).run Tryd.prog w = .ok false w := by simp [isAgg, run_underlying Tryd.underlying22]
  rw [this]
  simp only [Result.andThen_ok, Bool.false_eq_true, if_false, Nat.mul_one]
  rw [hx]
  rfl
theorem items3 (w : World) (d : Nat) (x y z x' y' z' : Int) :
    (Op.eqItems (d + 1) 22 1 #[.int .u64 x, .int .u64 y, .int .u64 z] #[.int .u64 x', .int .u64 y', .int .u64 z'] [0, 1, 2]).run Tryd.prog w = .ok (x == x' && (y == y' && z == z')) w := by
  have p0 := part_u64 w #[.int .u64 x, .int .u64 y, .int .u64 z] 0 x rfl
  have p1 := part_u64 w #[.int .u64 x, .int .u64 y, .int .u64 z] 1 y rfl
  have p2 := part_u64 w #[.int .u64 x, .int .u64 y, .int .u64 z] 2 z rfl
  have q0 := part_u64 w #[.int .u64 x', .int .u64 y', .int .u64 z'] 0 x' rfl
  have q1 := part_u64 w #[.int .u64 x', .int .u64 y', .int .u64 z'] 1 y' rfl
  have q2 := part_u64 w #[.int .u64 x', .int .u64 y', .int .u64 z'] 2 z' rfl
  simp only [Op.eqItems, Sem.run_bind, p0, p1, p2, q0, q1, q2, Result.andThen_ok, equalIn_u64]
  cases (x == x')
  · simp only [Bool.not_true, Bool.not_false, Bool.false_eq_true, if_true, if_false, Bool.true_and, Bool.false_and, Bool.and_true, Sem.run_bind, Sem.run_pure, Result.andThen_ok, p1, p2, q1, q2, equalIn_u64]
  · simp only [Bool.not_true, Bool.not_false, Bool.false_eq_true, if_true, if_false, Bool.true_and, Bool.false_and, Bool.and_true, Sem.run_bind, Sem.run_pure, Result.andThen_ok, p1, p2, q1, q2, equalIn_u64]
    cases (y == y')
    · simp only [Bool.not_true, Bool.not_false, Bool.false_eq_true, if_true, if_false, Bool.true_and, Bool.false_and, Bool.and_true, Sem.run_bind, Sem.run_pure, Result.andThen_ok, p1, p2, q1, q2, equalIn_u64]
    · simp only [Bool.not_true, Bool.not_false, Bool.false_eq_true, if_true, if_false, Bool.true_and, Bool.false_and, Bool.and_true, Sem.run_bind, Sem.run_pure, Result.andThen_ok, p1, p2, q1, q2, equalIn_u64]
      cases (z == z')
      · simp only [Bool.not_true, Bool.not_false, Bool.false_eq_true, if_true, if_false, Bool.true_and, Bool.false_and, Bool.and_true, Sem.run_bind, Sem.run_pure, Result.andThen_ok, p1, p2, q1, q2, equalIn_u64]
      · simp only [Bool.not_true, Bool.not_false, Bool.false_eq_true, if_true, if_false, Bool.true_and, Bool.false_and, Bool.and_true, Sem.run_bind, Sem.run_pure, Result.andThen_ok, p1, p2, q1, q2, equalIn_u64]
set_option maxRecDepth 100000 in
theorem eq3_in (t : TypeId) (ht : Tryd.prog.underlying t = some (.array 3 22)) (d : Nat) (x y z x' y' z' : Int) (w : World) :
    (Op.equalIn (d + 2) t (.agg #[.int .u64 x, .int .u64 y, .int .u64 z]) (.agg #[.int .u64 x', .int .u64 y', .int .u64 z'])).run Tryd.prog w = .ok (x == x' && (y == y' && z == z')) w := by
  obtain ⟨i, hi⟩ : ∃ i, Tryd.prog.info? 22 = some i := by
    have : (Tryd.prog.info? 22).isSome = true := by kernel_rfl
    exact Option.isSome_iff_exists.1 this
  have hc : Tryd.prog.cellsOf 22 = 1 := by kernel_rfl
  have h := run_equalIn_array w (d + 1) #[.int .u64 x, .int .u64 y, .int .u64 z] #[.int .u64 x', .int .u64 y', .int .u64 z'] ht hi
  rw [hc, show List.range 3 = [0, 1, 2] from rfl, items3] at h
  exact h
set_option maxRecDepth 100000 in
theorem eq3 (t : TypeId) (ht : Tryd.prog.underlying t = some (.array 3 22)) (x y z x' y' z' : Int) (w : World) : (binOp .eql t (.agg #[.int .u64 x, .int .u64 y, .int .u64 z]) (.agg #[.int .u64 x', .int .u64 y', .int .u64 z'])).run Tryd.prog w = .ok (.bool (x == x' && (y == y' && z == z'))) w := by
  unfold binOp
  simp only [Sem.run_bind, Op.equal, Op.maxDepth, eq3_in t ht 9998, Result.andThen_ok, Sem.run_pure]
set_option maxRecDepth 100000 in
theorem neq3 (t : TypeId) (ht : Tryd.prog.underlying t = some (.array 3 22)) (x y z x' y' z' : Int) (w : World) : (binOp .neq t (.agg #[.int .u64 x, .int .u64 y, .int .u64 z]) (.agg #[.int .u64 x', .int .u64 y', .int .u64 z'])).run Tryd.prog w = .ok (.bool (!(x == x' && (y == y' && z == z')))) w := by
  unfold binOp
  simp only [Sem.run_bind, Op.equal, Op.maxDepth, eq3_in t ht 9998, Result.andThen_ok, Sem.run_pure]
theorem u26 : Tryd.prog.underlying 26 = some (.array 3 22) := Tryd.underlying26
theorem u24 : Tryd.prog.underlying 24 = some (.array 3 22) := Tryd.underlying24
/-- Wide numbers are alike just where they are the same. -/
theorem eqU {a b : Int} (ha : MWide.U192 a) (hb : MWide.U192 b) : (MWide.w0 a == MWide.w0 b && (MWide.w1 a == MWide.w1 b && MWide.w2 a == MWide.w2 b)) = (a == b) := by
  rw [Bool.eq_iff_iff]
  simp only [Bool.and_eq_true, beq_iff_eq]
  constructor
  · rintro ⟨h0, h1, h2⟩; exact MWide.w_ext ha hb h0 h1 h2
  · rintro rfl; exact ⟨rfl, rfl, rfl⟩

end Go.Proofs.YtakkifedcbhgfaaDoor.K
namespace Go.Proofs.YtakkifedcbhgfaaDoor.K
open Go Go.RowKit Go.Proofs.YtakkifedcbhgfaaDoorW.PrintWords Go.Proofs.YtakkifedcbhgfaaDoorW.PrintLast Go.Proofs.YtakkifedcbhgfaaDoorW.PrintMore
set_option linter.unusedVariables false
set_option linter.unusedSimpArgs false
open Go.Proofs.YtakkifedcbhgfaaDoor.MWide (bt W64 U192 addV subV addOk subOk cry sumO bor difO cmpV width)
open Go.Proofs.YtakkifedcbhgfaaDoor.MText (padD dec strip)
theorem str_app (A B : List Int) : strOfNums A ++ strOfNums B = strOfNums (A ++ B) := by
  apply ByteArray.ext
  rw [ByteArray.data_append]
  unfold strOfNums
  simp
theorem str_strip (l : List Int) (hl : ∀ c ∈ l, 48 ≤ c ∧ c ≤ 57) : (⟨((strOfNums l).data.toList.dropWhile (fun x => (x.toNat : Int) == 48)).toArray⟩ : ByteArray) = strOfNums (strip l) := by
  rw [strOfNums_data]
  unfold strip strOfNums
  have : (l.map fun n => UInt8.ofNat n.toNat).dropWhile (fun x => (x.toNat : Int) == 48) = (l.dropWhile (· == 48)).map fun n => UInt8.ofNat n.toNat := by
    induction l with
    | nil => rfl
    | cons x l ih =>
      have hx := hl x (by simp)
      rw [List.map_cons, List.dropWhile_cons, List.dropWhile_cons]
      have e : ((((UInt8.ofNat x.toNat).toNat : Nat) : Int) == 48) = (x == 48) := by
        rw [UInt8.toNat_ofNat', Nat.mod_eq_of_lt (by omega), Int.toNat_of_nonneg (by omega)]
      rw [e]
      split
      · exact ih (fun c hc => hl c (by simp [hc]))
      · rfl
  rw [this]
theorem padD_digs (n : Int) (k : Nat) : ∀ c ∈ padD n k, 48 ≤ c ∧ c ≤ 57 := by
  induction k generalizing n with
  | zero => intro c hc; simp [padD] at hc
  | succ k ih =>
    intro c hc
    rw [padD] at hc
    rcases List.mem_append.1 hc with hc | hc
    · exact ih _ c hc
    · simp at hc; omega
theorem text_end {a : Int} {j : Nat} (h : U192 a) (hz : a / 10 ^ (19 * j) = 0) : (if strip (padD a (19 * j)) = [] then [48] else strip (padD a (19 * j))) = dec a := by
  have hp := MText.p10 (19 * j)
  have h1 := MWide.parts a (10 ^ (19 * j))
  have h2 := Int.emod_lt_of_pos a hp
  rw [hz, Int.mul_zero, Int.zero_add] at h1
  by_cases h0 : a = 0
  · subst h0
    rw [MText.strip_pad0, if_pos rfl]; rfl
  · have := h.1
    rw [if_neg (MText.strip_pad_ne (by omega) (by omega))]
    exact MText.strip_dec (by omega) (by omega) (Int.lt_trans h.2 MText.top58)
theorem text_more (a : Int) (j : Nat) : padD (a / 10 ^ (19 * j) % 10000000000000000000) 19 ++ padD a (19 * j) = padD a (19 * (j + 1)) := by
  rw [show (10000000000000000000 : Int) = 10 ^ 19 from rfl, MText.padD_mod, show 19 * (j + 1) = 19 + 19 * j by omega, MText.padD_add]
theorem text_div (a : Int) (j : Nat) : a / 10 ^ (19 * j) / 10000000000000000000 = a / 10 ^ (19 * (j + 1)) := by
  rw [show (10000000000000000000 : Int) = 10 ^ 19 from rfl, Int.ediv_ediv_of_nonneg (Int.le_of_lt (MText.p10 _)), ← Int.pow_add, show 19 * j + 19 = 19 * (j + 1) by omega]
theorem text_u {a : Int} (k : Nat) (h : U192 a) : U192 (a / 10 ^ k) := ⟨Int.ediv_nonneg h.1 (Int.le_of_lt (MText.p10 k)), Int.lt_of_le_of_lt (Int.ediv_le_self _ h.1) h.2⟩
theorem text_le {a : Int} {j : Nat} (h : U192 a) (hz : ¬ a / 10 ^ (19 * j) = 0) : j ≤ 3 := by
  rcases Nat.lt_or_ge 3 j with hj | hj
  · exfalso
    apply hz
    refine Int.ediv_eq_zero_of_lt h.1 (Int.lt_of_lt_of_le (Int.lt_trans h.2 MText.top58) ?_)
    have : (10 : Nat) ^ 58 ≤ 10 ^ (19 * j) := Nat.pow_le_pow_right (by decide) (by omega)
    exact_mod_cast this
  · exact hj
set_option maxHeartbeats 1000000 in
set_option maxRecDepth 100000 in
theorem Text_calls (a : Int) (w : World) (ha : U192 a) :
    Calls Tryd.prog 22 #[.agg #[.int .u64 (MWide.w0 a), .int .u64 (MWide.w1 a), .int .u64 (MWide.w2 a)]] w fun e w' => e = .returned (.string (strOfNums (dec a))) ∧ Bel w w' := by
  have HA := Lib.hid ha
  clear ha
  go_enter Tryd.func22, Tryd.ntmps22
  go_wp2
  go_loopw [3] (fun s wr => ∃ j : Nat, s = .string (strOfNums (padD a (19 * j))) ∧ Hid (j ≤ 4) ∧ Hid (Below w.heap.size w wr) ∧ Blk wr w.heap.size #[.int .u64 (MWide.w0 (a / 10 ^ (19 * j))), .int .u64 (MWide.w1 (a / 10 ^ (19 * j))), .int .u64 (MWide.w2 (a / 10 ^ (19 * j)))] 26) (fun s _ => 100 - (match s with | .string b => b.size | _ => 0))
  case atStart =>
    refine ⟨0, rfl, Lib.hid (by omega), Lib.hid ((Below.refl _ w).alloc (Nat.le_refl _) _), ?_⟩
    rw [show a / 10 ^ (19 * 0) = a by simp]
    exact Blk.new w _ _
  case round =>
    obtain ⟨j, rfl, HJ, HBel, hb⟩ := hrel
    obtain ⟨c0, c1, c2⟩ := hb.cells3
    have hu := text_u (19 * j) HA.out
    have hq := fun w => neq3 26 u26 (MWide.w0 (a / 10 ^ (19 * j))) (MWide.w1 (a / 10 ^ (19 * j))) (MWide.w2 (a / 10 ^ (19 * j))) 0 0 0 w
    have he := eqU hu (b := 0) ⟨by decide, by decide⟩
    rw [show MWide.w0 0 = 0 from rfl, show MWide.w1 0 = 0 from rfl, show MWide.w2 0 = 0 from rfl] at he
    rw [he] at hq
    by_cases hz : a / 10 ^ (19 * j) = 0
    · rw [show (!(a / 10 ^ (19 * j) == 0)) = false by rw [hz]; rfl] at hq
      have HT := Lib.hid (fun w => TrimLeft_calls (strOfNums (padD a (19 * j))) (by rw [strOfNums_size, MText.padD_length]; have := HJ.out; omega) w)
      rw [str_strip _ (padD_digs _ _)] at HT
      have HE := Lib.hid (text_end HA.out hz)
      clear hz he hu
      by_cases hs : strip (padD a (19 * j)) = []
      · rw [hs] at HT HE
        rw [if_pos rfl] at HE
        clear hs
        have hem : (strOfNums []).toList.isEmpty = true := by rw [ByteArray.toList_eq]; rfl
        go_wp2_with (go_at_call 65; refine (HT.out _).mono ?_; rintro e w' ⟨rfl, rfl⟩)
        go_ret
        exact ⟨by rw [← HE.out]; rfl, HBel.out⟩
      · rw [if_neg hs] at HE
        rw [HE.out] at HT hs
        have hem : (strOfNums (dec a)).toList.isEmpty = false := by
          rw [ByteArray.toList_eq]
          cases hx : dec a with
          | nil => exact absurd hx hs
          | cons x l => rfl
        clear hs
        go_wp2_with (go_at_call 65; refine (HT.out _).mono ?_; rintro e w' ⟨rfl, rfl⟩)
        go_ret
        exact ⟨rfl, HBel.out⟩
    · rw [show (!(a / 10 ^ (19 * j) == 0)) = true by rw [beq_eq_false_iff_ne.2 hz]; rfl] at hq
      have hj := text_le HA.out hz
      have HU := Lib.hid hu
      have HM := Lib.hid (text_more a j)
      have HDv := Lib.hid (text_div a j)
      have HR : Hid (0 ≤ a / 10 ^ (19 * j) % 10000000000000000000 ∧ a / 10 ^ (19 * j) % 10000000000000000000 < 18446744073709551616) := Lib.hid (by omega)
      clear hz he hu
      go_wp2_with fail
      refine (parted_calls _ _ HU.out).mono ?_
      rintro e w1 ⟨rfl, hb1⟩
      rw [HDv.out]
      have hB1 := hb.bel hb1
      obtain ⟨d0, d1, d2⟩ := hB1.cells3
      have f0 := hB1.froz 0; have f1 := hB1.froz 1; have f2 := hB1.froz 2
      have HB1 := Lib.hid (bthen HBel.out hb1)
      clear hb1
      go_wp2_with fail
      refine (digits_calls _ _ HR.out.1 HR.out.2).mono ?_
      rintro e w2 ⟨rfl, hb2⟩
      have hB2 := Blk.bel (Blk.set3 hB1) hb2
      have HB2 := Lib.hid (bthen (below_set3 HB1.out (Nat.le_refl _) _ _ _) hb2)
      clear hb2 hq c0 c1 c2 d0 d1 d2 f0 f1 f2 hB1 hb
      have hcat : strOfNums (padD (a / 10 ^ (19 * j) % 10000000000000000000) 19) ++ strOfNums (padD a (19 * j)) = strOfNums (padD a (19 * (j + 1))) := by rw [str_app, HM.out]
      have hz1 : (strOfNums (padD (a / 10 ^ (19 * j) % 10000000000000000000) 19)).size = 19 := by rw [strOfNums_size, MText.padD_length]
      have hz2 : (strOfNums (padD a (19 * j))).size = 19 * j := by rw [strOfNums_size, MText.padD_length]
      have hz3 : (strOfNums (padD a (19 * (j + 1)))).size = 19 * (j + 1) := by rw [strOfNums_size, MText.padD_length]
      obtain ⟨S, hS⟩ : ∃ S, strOfNums (padD a (19 * (j + 1))) = S := ⟨_, rfl⟩
      rw [hS] at hcat hz3
      have HS := Lib.hid hS
      clear hS
      generalize strOfNums (padD (a / 10 ^ (19 * j) % 10000000000000000000) 19) = D at *
      obtain ⟨T, hT⟩ : ∃ T, strOfNums (padD a (19 * j)) = T := ⟨_, rfl⟩
      rw [hT] at hcat hz2 ⊢
      have HT := Lib.hid hT
      clear hT
      have hz1' : D.size ≤ 19 := by omega
      have hz2' : T.size ≤ 57 := by omega
      have HZ := Lib.hid (And.intro hz2 hz3)
      clear hz1 hz2 hz3
      go_wp2_with fail
      refine ⟨⟨j + 1, by rw [HS.out], Lib.hid (by omega), HB2, hB2⟩, ?_⟩
      show 100 - S.size < 100 - (strOfNums (padD a (19 * j))).size
      rw [HT.out]
      obtain ⟨h1, h2⟩ := HZ.out
      omega

end Go.Proofs.YtakkifedcbhgfaaDoor.K
namespace Go.Proofs.YtakkifedcbhgfaaDoor.K
open Go Go.RowKit Go.Proofs.YtakkifedcbhgfaaDoorW.PrintWords Go.Proofs.YtakkifedcbhgfaaDoorW.PrintLast Go.Proofs.YtakkifedcbhgfaaDoorW.PrintMore
set_option linter.unusedVariables false
set_option linter.unusedSimpArgs false
open Go.Proofs.YtakkifedcbhgfaaDoor.MWide (bt W64 U192 addV subV addOk subOk cry sumO bor difO cmpV width)
open Go.Proofs.YtakkifedcbhgfaaDoor.MText (padD dec strip)
theorem u_calls (a : Int) (w : World) : Calls Tryd.prog 13 #[.agg #[.int .u64 (MWide.w0 a), .int .u64 (MWide.w1 a), .int .u64 (MWide.w2 a)]] w fun e w' => e = .returned (.agg #[.int .u64 (MWide.w0 a), .int .u64 (MWide.w1 a), .int .u64 (MWide.w2 a)]) ∧ Bel w w' := by
  go_enter Tryd.func13, Tryd.ntmps13
  go_wp2
  refine bodyPost_ret (v := .agg #[.int .u64 (MWide.w0 a), .int .u64 (MWide.w1 a), .int .u64 (MWide.w2 a)]) ?_ rfl ⟨rfl, by repeat (first | exact Below.refl _ _ | refine Below.drew ?_ | refine Below.alloc ?_ (by simp <;> omega) _)⟩
  simp [results, Tryd.results13, go_sem]
def nn : Int := 18446744073709551615
theorem dec_nn : strOfNums (dec (nn * nn)) = ⟨#[51, 52, 48, 50, 56, 50, 51, 54, 54, 57, 50, 48, 57, 51, 56, 52, 54, 51, 52, 50, 54, 52, 56, 49, 49, 49, 57, 50, 56, 52, 51, 52, 57, 49, 48, 56, 50, 50, 53]⟩ := by decide +kernel
set_option maxHeartbeats 1000000 in
set_option maxRecDepth 100000 in
theorem lives01 (w : World) : Calls Tryd.prog 19 #[] w fun e w' => e = .returned (.bool true) ∧ Bel w w' := by
  have h64 : W64 nn := ⟨by decide, by decide⟩
  have hs : spanV (-9223372036854775808) 9223372036854775807 = nn := by decide
  have HS : Hid (∀ w, Calls Tryd.prog 16 #[.int .i64 (-9223372036854775808), .int .i64 9223372036854775807] w fun e w' => e = .returned (.int .u64 nn) ∧ w = w') := Lib.hid (fun w => by
    have := Span_calls (-9223372036854775808) 9223372036854775807 (by decide) (by decide) (by decide) (by decide) w
    rw [hs] at this
    exact this)
  have HM : Hid (∀ w, Calls Tryd.prog 14 #[.int .u64 nn, .int .u64 nn] w fun e w' => e = .returned (.agg #[.int .u64 (MWide.w0 (nn * nn)), .int .u64 (MWide.w1 (nn * nn)), .int .u64 (MWide.w2 (nn * nn))]) ∧ Bel w w') := Lib.hid (fun w => Times_calls nn nn h64 h64 w)
  have HT : Hid (∀ w, Calls Tryd.prog 22 #[.agg #[.int .u64 (MWide.w0 (nn * nn)), .int .u64 (MWide.w1 (nn * nn)), .int .u64 (MWide.w2 (nn * nn))]] w fun e w' => e = .returned (.string ⟨#[51, 52, 48, 50, 56, 50, 51, 54, 54, 57, 50, 48, 57, 51, 56, 52, 54, 51, 52, 50, 54, 52, 56, 49, 49, 49, 57, 50, 56, 52, 51, 52, 57, 49, 48, 56, 50, 50, 53]⟩) ∧ Bel w w') := Lib.hid (fun w => by
    have := Text_calls (nn * nn) w (MWide.u_mul h64 h64)
    rw [dec_nn] at this
    exact this)
  have hn : (nn == 18446744073709551615) = true := by decide
  clear h64 hs
  go_enter Tryd.func19, Tryd.ntmps19
  go_wp2_with (first
    | (go_at_call 22; refine (HT.out _).mono ?_; rintro e w2 ⟨rfl, hb2⟩; have HB2 := Lib.hid hb2; clear hb2)
    | (go_at_call 14; refine (HM.out _).mono ?_; rintro e w1 ⟨rfl, hb1⟩; have HB1 := Lib.hid hb1; clear hb1)
    | (go_at_call 16; refine (HS.out _).mono ?_; rintro e w' ⟨rfl, rfl⟩))
  go_ret
  exact ⟨by rfl, bthen HB1.out HB2.out⟩
theorem eqU24 (a : Int) (w : World) : (binOp .eql 24 (.agg #[.int .u64 (MWide.w0 a), .int .u64 (MWide.w1 a), .int .u64 (MWide.w2 a)]) (.agg #[.int .u64 (MWide.w0 a), .int .u64 (MWide.w1 a), .int .u64 (MWide.w2 a)])).run Tryd.prog w = .ok (.bool true) w := by
  have := eq3 24 u24 (MWide.w0 a) (MWide.w1 a) (MWide.w2 a) (MWide.w0 a) (MWide.w1 a) (MWide.w2 a) w
  rw [this]; simp
theorem eqU26 (a : Int) (w : World) : (binOp .eql 26 (.agg #[.int .u64 (MWide.w0 a), .int .u64 (MWide.w1 a), .int .u64 (MWide.w2 a)]) (.agg #[.int .u64 (MWide.w0 a), .int .u64 (MWide.w1 a), .int .u64 (MWide.w2 a)])).run Tryd.prog w = .ok (.bool true) w := by
  have := eq3 26 u26 (MWide.w0 a) (MWide.w1 a) (MWide.w2 a) (MWide.w0 a) (MWide.w1 a) (MWide.w2 a) w
  rw [this]; simp
theorem eqU26_of {n : Int} (h : W64 n) (w : World) : (binOp .eql 26 (.agg #[.int .u64 (MWide.w0 n), .int .u64 (MWide.w1 n), .int .u64 (MWide.w2 n)]) (.agg #[.int .u64 n, .int .u64 0, .int .u64 0])).run Tryd.prog w = .ok (.bool true) w := by
  have := eqU26 n w
  rw [MWide.w0_64' h, MWide.w1_64' h, MWide.w2_64' h] at this ⊢
  exact this
theorem pair_cells {w : World} {k k' : IntKind} {x : Int × Int} {cs : Array Value} (h : (Kd.pair (Kd.int k) (Kd.int k')).K w x cs.toList) : cs = #[.int k x.1, .int k' x.2] := by
  obtain ⟨c1, c2, e, h1, h2⟩ := h
  obtain rfl : c1 = [.int k x.1] := h1
  obtain rfl : c2 = [.int k' x.2] := h2
  apply Array.toList_inj.1
  rw [e]
  rfl
theorem wf_i64 {n : Int} (h : (Lit.int .i64 n).wf = true) : -9223372036854775808 ≤ n ∧ n ≤ 9223372036854775807 := by
  have h1 : IntKind.i64.min = -9223372036854775808 := rfl
  have h2 : IntKind.i64.max = 9223372036854775807 := rfl
  simp only [Lit.wf, Bool.and_eq_true, decide_eq_true_eq] at h
  omega
theorem wf_u64 {n : Int} (h : (Lit.int .u64 n).wf = true) : W64 n := u64_wf h
set_option maxHeartbeats 1000000 in
set_option maxRecDepth 100000 in
theorem WideTimes_calls {w : World} (cs : Array Value) (p : Int × Int) (hK : (Kd.pair (Kd.int .u64) (Kd.int .u64)).K w p cs.toList) (hq : (Lit.int .u64 p.1).wf = true ∧ (Lit.int .u64 p.2).wf = true)
    (x : Int) (hx : (Lit.int .i64 x).wf = true) (y : Int) (hy : (Lit.int .i64 y).wf = true) :
    Calls Tryd.prog 3 #[.agg cs, .int .i64 x, .int .i64 y] w fun e w' => e = .returned (.bool true) ∧ Below w.heap.size w w' := by
  obtain rfl := pair_cells hK
  obtain ⟨a, b⟩ := p
  simp only at hq hK ⊢
  have ha := wf_u64 hq.1
  have hb := wf_u64 hq.2
  have hx' := wf_i64 hx
  have hy' := wf_i64 hy
  have HT := Lib.hid (fun w => Times_calls a b ha hb w)
  have HR := Lib.hid (fun w => refTimes_calls a b w ha hb)
  have HS := Lib.hid (fun w => Span_calls x y hx'.1 hx'.2 hy'.1 hy'.2 w)
  have HS2 := Lib.hid (fun w => refSpan_calls x y hx'.1 hx'.2 hy'.1 hy'.2 w)
  have HO := Lib.hid (fun w => Of_calls a ha w)
  have HL := Lib.hid lives01
  have HU := Lib.hid u_calls
  have q1 := eqU24 (a * b)
  have q2 := eqU26_of ha
  have q3 : (spanV x y == spanV x y) = true := beq_self_eq_true _
  clear ha hb hx hy hx' hy' hq hK
  go_enter Tryd.func3, Tryd.ntmps3
  go_wp2
  go_region
  go_wp2_with (first
    | (go_at_call 19; refine (HL.out _).mono ?_; rintro e w5 ⟨rfl, hb5⟩; have HB5 := Lib.hid (bthen HB4.out hb5); clear hb5)
    | (go_at_call 18; refine (HO.out _).mono ?_; rintro e w4 ⟨rfl, hb4⟩; have HB4 := Lib.hid (bthen HB3.out hb4); clear hb4)
    | (go_at_call 13; refine (HU.out _ _).mono ?_; rintro e w2 ⟨rfl, hb2⟩; have HB2 := Lib.hid (bthen HB1.out hb2); clear hb2)
    | (go_at_call 15; refine (HR.out _).mono ?_; rintro e w3 ⟨rfl, hb3⟩; have HB3 := Lib.hid (bthen HB2.out hb3); clear hb3)
    | (go_at_call 14; refine (HT.out _).mono ?_; rintro e w1 ⟨rfl, hb1⟩; have HB1 := Lib.hid hb1; clear hb1)
    | (go_at_call 16; refine (HS.out _).mono ?_; rintro e w' ⟨rfl, rfl⟩)
    | (go_at_call 17; refine (HS2.out _).mono ?_; rintro e w' ⟨rfl, rfl⟩))
  go_ret
  refine ⟨rfl, bthen ?_ HB5.out⟩
  repeat (first | exact Below.refl _ _ | refine Below.drew ?_ | refine Below.alloc ?_ (by simp <;> omega) _)

end Go.Proofs.YtakkifedcbhgfaaDoor.K
namespace Go.Proofs.YtakkifedcbhgfaaDoor.K
open Go Go.RowKit Go.Proofs.YtakkifedcbhgfaaDoorW.PrintWords Go.Proofs.YtakkifedcbhgfaaDoorW.PrintLast Go.Proofs.YtakkifedcbhgfaaDoorW.PrintMore
set_option linter.unusedVariables false
set_option linter.unusedSimpArgs false
open Go.Proofs.YtakkifedcbhgfaaDoor.MWide (bt W64 U192 addV subV addOk subOk cry sumO bor difO cmpV width)
open Go.Proofs.YtakkifedcbhgfaaDoor.MText (padD dec strip)
set_option maxHeartbeats 1000000 in
set_option maxRecDepth 100000 in
theorem WideOrder_calls {w : World} (a : Int) (ha : (Lit.int .i64 a).wf = true) (b : Int) (hb : (Lit.int .i64 b).wf = true) (c : Int) (hc : (Lit.int .i64 c).wf = true) :
    Calls Tryd.prog 5 #[.int .i64 a, .int .i64 b, .int .i64 c] w fun e w' => e = .returned (.bool true) ∧ Below w.heap.size w w' := by
  have ha' := wf_i64 ha
  have hb' := wf_i64 hb
  have hc' := wf_i64 hc
  have HL := Lib.hid lives01
  by_cases h1 : b < a
  · clear ha hb hc
    go_enter Tryd.func5, Tryd.ntmps5
    go_wp2_with (go_at_call 19; refine (HL.out _).mono ?_; rintro e w5 ⟨rfl, hb5⟩)
    go_ret
    exact ⟨rfl, hb5⟩
  by_cases h2 : c < b
  · clear ha hb hc
    go_enter Tryd.func5, Tryd.ntmps5
    go_wp2_with (go_at_call 19; refine (HL.out _).mono ?_; rintro e w5 ⟨rfl, hb5⟩)
    go_ret
    exact ⟨rfl, hb5⟩
  obtain ⟨x, hx, hx0⟩ : ∃ x, spanV a b = x ∧ x = b - a := ⟨_, rfl, by unfold spanV; rw [if_neg h1]⟩
  obtain ⟨y, hy, hy0⟩ : ∃ y, spanV b c = y ∧ y = c - b := ⟨_, rfl, by unfold spanV; rw [if_neg h2]⟩
  obtain ⟨z, hz, hz0⟩ : ∃ z, spanV a c = z ∧ z = c - a := ⟨_, rfl, by unfold spanV; rw [if_neg (by omega)]⟩
  have hX : W64 x := by unfold W64; omega
  have hY : W64 y := by unfold W64; omega
  have hZ : W64 z := by unfold W64; omega
  have HS1 := Lib.hid (fun w => Span_calls a b ha'.1 ha'.2 hb'.1 hb'.2 w)
  have HS2 := Lib.hid (fun w => Span_calls b c hb'.1 hb'.2 hc'.1 hc'.2 w)
  have HS3 := Lib.hid (fun w => Span_calls a c ha'.1 ha'.2 hc'.1 hc'.2 w)
  rw [hx] at HS1
  rw [hy] at HS2
  rw [hz] at HS3
  have HO1 := Lib.hid (fun w => Of_calls x hX w)
  have HO2 := Lib.hid (fun w => Of_calls y hY w)
  have HO3 := Lib.hid (fun w => Of_calls z hZ w)
  have hk : addOk x y = true := by unfold addOk; rw [decide_eq_true_eq]; unfold W64 at *; omega
  have hv : addV x y = z := by unfold addV; rw [if_pos hk]; omega
  have HA := Lib.hid (fun w => Add_calls x y w (MWide.u64_u hX) (MWide.u64_u hY))
  rw [hk, hv] at HA
  have HT1 := Lib.hid (fun w => Times_calls x z hX hZ w)
  have HT2 := Lib.hid (fun w => Times_calls z z hZ hZ w)
  have HC := Lib.hid (fun w => Cmp_calls (x * z) (z * z) w (MWide.u_mul hX hZ) (MWide.u_mul hZ hZ))
  have hle : x * z ≤ z * z := Int.mul_le_mul_of_nonneg_right (by omega) hZ.1
  have hcv : cmpV (x * z) (z * z) ≤ 0 := by unfold cmpV; split <;> (try split) <;> omega
  obtain ⟨cv, hcv1⟩ : ∃ cv, cmpV (x * z) (z * z) = cv := ⟨_, rfl⟩
  rw [hcv1] at HC hcv
  have q1 := eqU26 z
  have HXX := Lib.hid hX
  have HZZ := Lib.hid hZ
  clear ha hb hc ha' hb' hc' hx hx0 hy hy0 hz hz0 hX hY hZ hk hv hle hcv1
  go_enter Tryd.func5, Tryd.ntmps5
  go_upto_region 3 with (fail)
  go_wp2_with fail
  refine (HS1.out _).mono ?_
  rintro e w' ⟨rfl, rfl⟩
  go_wp2_with fail
  refine (HS2.out _).mono ?_
  rintro e w' ⟨rfl, rfl⟩
  go_wp2_with fail
  refine (HO1.out _).mono ?_
  rintro e w1 ⟨rfl, hb1⟩
  go_wp2_with fail
  refine (HO2.out _).mono ?_
  rintro e w2 ⟨rfl, hb2⟩
  go_wp2_with fail
  refine (HA.out _).mono ?_
  rintro e w3 ⟨rfl, hb3⟩
  have HB3 := Lib.hid (bthen (bthen hb1 hb2) hb3)
  clear hb1 hb2 hb3
  go_wp2_with fail
  refine (HS3.out _).mono ?_
  rintro e w' ⟨rfl, rfl⟩
  have hg := Blk.new w3 #[.int .u64 (MWide.w0 z), .int .u64 (MWide.w1 z), .int .u64 (MWide.w2 z)] 26
  have HB4 := Lib.hid ((HB3.out).alloc HB3.out.size (.cells #[.int .u64 (MWide.w0 z), .int .u64 (MWide.w1 z), .int .u64 (MWide.w2 z)] 26))
  obtain ⟨w4, hw4⟩ : ∃ w4, w3.alloc (.cells #[.int .u64 (MWide.w0 z), .int .u64 (MWide.w1 z), .int .u64 (MWide.w2 z)] 26) = w4 := ⟨_, rfl⟩
  rw [hw4] at hg HB4 ⊢
  clear hw4
  obtain ⟨g0, g1, g2⟩ := hg.cells3
  go_upto_region 6 with (fail)
  go_region_held3 (fun w' => w'.cell? ⟨w3.heap.size, 0, none⟩ = some (.int .u64 (MWide.w0 z)) ∧ w'.cell? ⟨w3.heap.size, 1, none⟩ = some (.int .u64 (MWide.w1 z)) ∧ w'.cell? ⟨w3.heap.size, 2, none⟩ = some (.int .u64 (MWide.w2 z)) ∧ Bel w4 w') (first | exact kc3 hb (by assumption) | exact ⟨g0, g1, g2, Bel.drew _⟩)
    (first
      | (go_at_call 19; refine (HL.out _).mono ?_; rintro e w' ⟨rfl, hb⟩)
      | (go_at_call 25; refine (HC.out _).mono ?_; rintro e w' ⟨rfl, hb⟩)
      | (go_at_call 18; refine (HO3.out _).mono ?_; rintro e w' ⟨rfl, hb⟩)
      | (go_at_call 14; refine (Times_calls _ _ (by first | exact HXX.out | exact HZZ.out) HZZ.out _).mono ?_; rintro e w' ⟨rfl, hb⟩))
  rename_i hheld
  have HBf := Lib.hid (bthen HB4.out hheld.2.2.2)
  go_wp2
  go_ret
  exact ⟨rfl, HBf.out⟩

end Go.Proofs.YtakkifedcbhgfaaDoor.K
namespace Go.Proofs.YtakkifedcbhgfaaDoor.K
open Go Go.RowKit Go.Proofs.YtakkifedcbhgfaaDoorW.PrintWords Go.Proofs.YtakkifedcbhgfaaDoorW.PrintLast Go.Proofs.YtakkifedcbhgfaaDoorW.PrintMore
set_option linter.unusedVariables false
set_option linter.unusedSimpArgs false
open Go.Proofs.YtakkifedcbhgfaaDoor.MWide (bt W64 U192 addV subV addOk subOk cry sumO bor difO cmpV width)
open Go.Proofs.YtakkifedcbhgfaaDoor.MText (padD dec strip)
theorem cell_set_ne (W : World) (j k : Nat) (u : Value) (g i : Nat) (h : g ≠ j) : (W.setCell ⟨j, k, none⟩ u).cell? ⟨g, i, none⟩ = W.cell? ⟨g, i, none⟩ := by
  have := Below.heap_setCell W ⟨j, k, none⟩ u g h
  simp only [World.cell?, this]
theorem cell_set3_ne {W : World} {j : Nat} {x y z : Value} {g i : Nat} {v : Value} (h : g ≠ j) (hc : W.cell? ⟨g, i, none⟩ = some v) : (((W.setCell ⟨j, 0, none⟩ x).setCell ⟨j, 1, none⟩ y).setCell ⟨j, 2, none⟩ z).cell? ⟨g, i, none⟩ = some v := by
  rw [cell_set_ne _ _ _ _ _ _ h, cell_set_ne _ _ _ _ _ _ h, cell_set_ne _ _ _ _ _ _ h]; exact hc
theorem kc3_set3 {wr w : World} {g j : Nat} {a b c x y z : Value} (hg : g ≠ j) (hj : wr.heap.size ≤ j) (hh : w.cell? ⟨g, 0, none⟩ = some a ∧ w.cell? ⟨g, 1, none⟩ = some b ∧ w.cell? ⟨g, 2, none⟩ = some c ∧ Bel wr w) :
    let W := ((w.setCell ⟨j, 0, none⟩ x).setCell ⟨j, 1, none⟩ y).setCell ⟨j, 2, none⟩ z
    W.cell? ⟨g, 0, none⟩ = some a ∧ W.cell? ⟨g, 1, none⟩ = some b ∧ W.cell? ⟨g, 2, none⟩ = some c ∧ Bel wr W := by
  obtain ⟨h1, h2, h3, h7⟩ := hh
  exact ⟨cell_set3_ne hg h1, cell_set3_ne hg h2, cell_set3_ne hg h3, below_set3 h7 hj _ _ _⟩
theorem kc6_set3 {wr w : World} {g h j : Nat} {a b c d e f x y z : Value} (hg : g ≠ j) (hh' : h ≠ j) (hj : wr.heap.size ≤ j) (hh : w.cell? ⟨g, 0, none⟩ = some a ∧ w.cell? ⟨g, 1, none⟩ = some b ∧ w.cell? ⟨g, 2, none⟩ = some c ∧ w.cell? ⟨h, 0, none⟩ = some d ∧ w.cell? ⟨h, 1, none⟩ = some e ∧ w.cell? ⟨h, 2, none⟩ = some f ∧ Bel wr w) :
    let W := ((w.setCell ⟨j, 0, none⟩ x).setCell ⟨j, 1, none⟩ y).setCell ⟨j, 2, none⟩ z
    W.cell? ⟨g, 0, none⟩ = some a ∧ W.cell? ⟨g, 1, none⟩ = some b ∧ W.cell? ⟨g, 2, none⟩ = some c ∧ W.cell? ⟨h, 0, none⟩ = some d ∧ W.cell? ⟨h, 1, none⟩ = some e ∧ W.cell? ⟨h, 2, none⟩ = some f ∧ Bel wr W := by
  obtain ⟨h1, h2, h3, h4, h5, h6, h7⟩ := hh
  exact ⟨cell_set3_ne hg h1, cell_set3_ne hg h2, cell_set3_ne hg h3, cell_set3_ne hh' h4, cell_set3_ne hh' h5, cell_set3_ne hh' h6, below_set3 h7 hj _ _ _⟩
theorem cell_re {W : World} {o o' : Obj} {g i : Nat} {v : Value} (hg : g < W.heap.size) (h : (W.alloc o).cell? ⟨g, i, none⟩ = some v) : (W.alloc o').cell? ⟨g, i, none⟩ = some v := by
  have h1 := ((Bel.refl W).alloc (Nat.le_refl _) o).cell (p := ⟨g, i, none⟩) hg
  have h2 := ((Bel.refl W).alloc (Nat.le_refl _) o').cell (p := ⟨g, i, none⟩) hg
  exact h2.trans (h1.symm.trans h)
theorem below_re {w0 W : World} {o o' : Obj} (hg : w0.heap.size ≤ W.heap.size) (h : Bel w0 (W.alloc o)) : Bel w0 (W.alloc o') :=
  ⟨h.os, h.tape, h.output, by simpa using Nat.le_trans hg (Nat.le_succ _), fun i hi => by
    have := h.block i hi
    rw [← this, Below.heap_alloc W o' i (by omega), Below.heap_alloc W o i (by omega)]⟩
theorem kc3_re {wr w : World} {o o' : Obj} {g : Nat} {a b c : Value} (hg : g < w.heap.size) (hj : wr.heap.size ≤ w.heap.size) (hh : (w.alloc o).cell? ⟨g, 0, none⟩ = some a ∧ (w.alloc o).cell? ⟨g, 1, none⟩ = some b ∧ (w.alloc o).cell? ⟨g, 2, none⟩ = some c ∧ Bel wr (w.alloc o)) :
    (w.alloc o').cell? ⟨g, 0, none⟩ = some a ∧ (w.alloc o').cell? ⟨g, 1, none⟩ = some b ∧ (w.alloc o').cell? ⟨g, 2, none⟩ = some c ∧ Bel wr (w.alloc o') := by
  obtain ⟨h1, h2, h3, h7⟩ := hh
  exact ⟨cell_re hg h1, cell_re hg h2, cell_re hg h3, below_re hj h7⟩
theorem kc6_re {wr w : World} {o o' : Obj} {g h : Nat} {a b c x y z : Value} (hg : g < w.heap.size) (hh' : h < w.heap.size) (hj : wr.heap.size ≤ w.heap.size) (hh : (w.alloc o).cell? ⟨g, 0, none⟩ = some a ∧ (w.alloc o).cell? ⟨g, 1, none⟩ = some b ∧ (w.alloc o).cell? ⟨g, 2, none⟩ = some c ∧ (w.alloc o).cell? ⟨h, 0, none⟩ = some x ∧ (w.alloc o).cell? ⟨h, 1, none⟩ = some y ∧ (w.alloc o).cell? ⟨h, 2, none⟩ = some z ∧ Bel wr (w.alloc o)) :
    (w.alloc o').cell? ⟨g, 0, none⟩ = some a ∧ (w.alloc o').cell? ⟨g, 1, none⟩ = some b ∧ (w.alloc o').cell? ⟨g, 2, none⟩ = some c ∧ (w.alloc o').cell? ⟨h, 0, none⟩ = some x ∧ (w.alloc o').cell? ⟨h, 1, none⟩ = some y ∧ (w.alloc o').cell? ⟨h, 2, none⟩ = some z ∧ Bel wr (w.alloc o') := by
  obtain ⟨h1, h2, h3, h4, h5, h6, h7⟩ := hh
  exact ⟨cell_re hg h1, cell_re hg h2, cell_re hg h3, cell_re hh' h4, cell_re hh' h5, cell_re hh' h6, below_re hj h7⟩
theorem kc18s {wr w w' : World} {g0 g1 g2 g3 g4 g5 : Nat} {v00 v01 v02 v10 v11 v12 v20 v21 v22 v30 v31 v32 v40 v41 v42 v50 v51 v52 : Value} (hb : Bel w w') (hh : w.cell? ⟨g0, 0, none⟩ = some v00 ∧ w.cell? ⟨g0, 1, none⟩ = some v01 ∧ w.cell? ⟨g0, 2, none⟩ = some v02 ∧ w.cell? ⟨g1, 0, none⟩ = some v10 ∧ w.cell? ⟨g1, 1, none⟩ = some v11 ∧ w.cell? ⟨g1, 2, none⟩ = some v12 ∧ w.cell? ⟨g2, 0, none⟩ = some v20 ∧ w.cell? ⟨g2, 1, none⟩ = some v21 ∧ w.cell? ⟨g2, 2, none⟩ = some v22 ∧ w.cell? ⟨g3, 0, none⟩ = some v30 ∧ w.cell? ⟨g3, 1, none⟩ = some v31 ∧ w.cell? ⟨g3, 2, none⟩ = some v32 ∧ w.cell? ⟨g4, 0, none⟩ = some v40 ∧ w.cell? ⟨g4, 1, none⟩ = some v41 ∧ w.cell? ⟨g4, 2, none⟩ = some v42 ∧ w.cell? ⟨g5, 0, none⟩ = some v50 ∧ w.cell? ⟨g5, 1, none⟩ = some v51 ∧ w.cell? ⟨g5, 2, none⟩ = some v52 ∧ Bel wr w) : w'.cell? ⟨g0, 0, none⟩ = some v00 ∧ w'.cell? ⟨g0, 1, none⟩ = some v01 ∧ w'.cell? ⟨g0, 2, none⟩ = some v02 ∧ w'.cell? ⟨g1, 0, none⟩ = some v10 ∧ w'.cell? ⟨g1, 1, none⟩ = some v11 ∧ w'.cell? ⟨g1, 2, none⟩ = some v12 ∧ w'.cell? ⟨g2, 0, none⟩ = some v20 ∧ w'.cell? ⟨g2, 1, none⟩ = some v21 ∧ w'.cell? ⟨g2, 2, none⟩ = some v22 ∧ w'.cell? ⟨g3, 0, none⟩ = some v30 ∧ w'.cell? ⟨g3, 1, none⟩ = some v31 ∧ w'.cell? ⟨g3, 2, none⟩ = some v32 ∧ w'.cell? ⟨g4, 0, none⟩ = some v40 ∧ w'.cell? ⟨g4, 1, none⟩ = some v41 ∧ w'.cell? ⟨g4, 2, none⟩ = some v42 ∧ w'.cell? ⟨g5, 0, none⟩ = some v50 ∧ w'.cell? ⟨g5, 1, none⟩ = some v51 ∧ w'.cell? ⟨g5, 2, none⟩ = some v52 ∧ Bel wr w' := by
  obtain ⟨h00, h01, h02, h10, h11, h12, h20, h21, h22, h30, h31, h32, h40, h41, h42, h50, h51, h52, hz⟩ := hh
  exact ⟨kc hb h00, kc hb h01, kc hb h02, kc hb h10, kc hb h11, kc hb h12, kc hb h20, kc hb h21, kc hb h22, kc hb h30, kc hb h31, kc hb h32, kc hb h40, kc hb h41, kc hb h42, kc hb h50, kc hb h51, kc hb h52, bthen hz hb⟩
theorem trip_cells {w : World} {x : Int × Int × Int} {cs : Array Value} (h : (Kd.pair (Kd.int .u64) (Kd.pair (Kd.int .u64) (Kd.int .u64))).K w x cs.toList) : cs = #[.int .u64 x.1, .int .u64 x.2.1, .int .u64 x.2.2] := by
  obtain ⟨c1, c2, e, h1, c3, c4, e2, h2, h3⟩ := h
  obtain rfl : c1 = [.int .u64 x.1] := h1
  obtain rfl : c3 = [.int .u64 x.2.1] := h2
  obtain rfl : c4 = [.int .u64 x.2.2] := h3
  apply Array.toList_inj.1
  rw [e, e2]
  rfl
/-- An argument of three words, as a number. -/
theorem u_arg {w : World} {x : Int × Int × Int} {cs : Array Value} (h : (Kd.pair (Kd.int .u64) (Kd.pair (Kd.int .u64) (Kd.int .u64))).K w x cs.toList)
    (hq : (Lit.int .u64 x.1).wf = true ∧ (Lit.int .u64 x.2.1).wf = true ∧ (Lit.int .u64 x.2.2).wf = true) : ∃ a, U192 a ∧ cs = #[.int .u64 (MWide.w0 a), .int .u64 (MWide.w1 a), .int .u64 (MWide.w2 a)] := by
  obtain ⟨h0, h1, h2⟩ := hq
  have h0 := wf_u64 h0; have h1 := wf_u64 h1; have h2 := wf_u64 h2
  refine ⟨MWide.of3 x.1 x.2.1 x.2.2, MWide.of3_u h0 h1 h2, ?_⟩
  rw [MWide.w0_of3 h0 h1 h2, MWide.w1_of3 h0 h1 h2, MWide.w2_of3 h0 h1 h2]
  exact trip_cells h
set_option maxHeartbeats 2000000 in
set_option maxRecDepth 100000 in
theorem WideAdds_calls {w : World} (cs : Array Value) (x : Int × Int × Int) (hK : (Kd.pair (Kd.int .u64) (Kd.pair (Kd.int .u64) (Kd.int .u64))).K w x cs.toList) (hq : (Lit.int .u64 x.1).wf = true ∧ (Lit.int .u64 x.2.1).wf = true ∧ (Lit.int .u64 x.2.2).wf = true)
    (ds : Array Value) (y : Int × Int × Int) (hK' : (Kd.pair (Kd.int .u64) (Kd.pair (Kd.int .u64) (Kd.int .u64))).K w y ds.toList) (hq' : (Lit.int .u64 y.1).wf = true ∧ (Lit.int .u64 y.2.1).wf = true ∧ (Lit.int .u64 y.2.2).wf = true) :
    Calls Tryd.prog 8 #[.agg cs, .agg ds] w fun e w' => e = .returned (.bool true) ∧ Below w.heap.size w w' := by
  obtain ⟨a, ha, rfl⟩ := u_arg hK hq
  obtain ⟨b, hb, rfl⟩ := u_arg hK' hq'
  clear hK hq hK' hq'
  have HA := Lib.hid (fun w => Add_calls a b w ha hb)
  have HRA := Lib.hid (fun w => refAdd_calls a b w ha hb)
  have HS := Lib.hid (fun w => Sub_calls a b w ha hb)
  have HRS := Lib.hid (fun w => refSub_calls a b w ha hb)
  have HC := Lib.hid (fun w => Cmp_calls a b w ha hb)
  have HRC := Lib.hid (fun w => refCmp_calls a b w ha hb)
  have HW := Lib.hid (fun w => Bits_calls a w ha)
  have HRW := Lib.hid (fun w => refWidth_calls a w ha)
  have HL := Lib.hid lives01
  have HU := Lib.hid u_calls
  obtain ⟨s, hs⟩ : ∃ s, addV a b = s := ⟨_, rfl⟩
  obtain ⟨so, hso⟩ : ∃ s, addOk a b = s := ⟨_, rfl⟩
  obtain ⟨d, hd⟩ : ∃ s, subV a b = s := ⟨_, rfl⟩
  obtain ⟨dk, hdk⟩ : ∃ s, subOk a b = s := ⟨_, rfl⟩
  obtain ⟨cv, hcv⟩ : ∃ s, cmpV a b = s := ⟨_, rfl⟩
  obtain ⟨wv, hwv⟩ : ∃ s, width a = s := ⟨_, rfl⟩
  rw [hs, hso] at HA HRA
  rw [hd, hdk] at HS HRS
  rw [hcv] at HC HRC
  rw [hwv] at HW HRW
  have q1 := eqU24 s
  have q2 := eqU24 d
  have b1 : (so == so) = true := beq_self_eq_true _
  have b2 : (dk == dk) = true := beq_self_eq_true _
  have b3 : (cv == cv) = true := beq_self_eq_true _
  have b4 : (wv == wv) = true := beq_self_eq_true _
  clear ha hb hs hso hd hdk hcv hwv
  go_enter Tryd.func8, Tryd.ntmps8
  go_wp2_with fail
  refine (HA.out _).mono ?_
  rintro e w1 ⟨rfl, hb1⟩
  have A1 := Blk.bel ((Blk.new w #[.int .u64 (MWide.w0 a), .int .u64 (MWide.w1 a), .int .u64 (MWide.w2 a)] 26).alloc _) hb1
  have B1 := Blk.bel (Blk.new_at (g := w.heap.size + 1) (by simp) #[.int .u64 (MWide.w0 b), .int .u64 (MWide.w1 b), .int .u64 (MWide.w2 b)] 26) hb1
  have HB1 : Hid (Below w.heap.size w w1) := Lib.hid (bthen (by repeat (first | exact Below.refl _ _ | refine Below.drew ?_ | refine Below.alloc ?_ (by simp <;> omega) _)) hb1)
  clear hb1
  go_upto_region 2 with (fail)
  have N1 := Blk.new w1 #[.int .u64 (MWide.w0 s), .int .u64 (MWide.w1 s), .int .u64 (MWide.w2 s)] 26
  have A1n := A1.alloc (.cells #[.int .u64 (MWide.w0 s), .int .u64 (MWide.w1 s), .int .u64 (MWide.w2 s)] 26)
  have B1n := B1.alloc (.cells #[.int .u64 (MWide.w0 s), .int .u64 (MWide.w1 s), .int .u64 (MWide.w2 s)] 26)
  have HB1n := Lib.hid (HB1.out.alloc HB1.out.size (.cells #[.int .u64 (MWide.w0 s), .int .u64 (MWide.w1 s), .int .u64 (MWide.w2 s)] 26))
  obtain ⟨w2, hw2⟩ : ∃ x, w1.alloc (.cells #[.int .u64 (MWide.w0 s), .int .u64 (MWide.w1 s), .int .u64 (MWide.w2 s)] 26) = x := ⟨_, rfl⟩
  rw [hw2] at N1 A1n B1n HB1n ⊢
  clear hw2 A1 B1 HB1
  have A1 := A1n
  have B1 := B1n
  clear A1n B1n
  have HB1 := HB1n
  clear HB1n
  obtain ⟨a0, a1, a2⟩ := A1.cells3
  obtain ⟨b0, b1, b2⟩ := B1.cells3
  have hlt := A1.lt
  have hlt2 := B1.lt
  have hdr : w2.drew.heap.size = w2.heap.size := rfl
  have hS0 : w2.cell? ⟨w.heap.size, 0, none⟩ = some (.int .u64 (MWide.w0 a)) ∧ w2.cell? ⟨w.heap.size, 1, none⟩ = some (.int .u64 (MWide.w1 a)) ∧ w2.cell? ⟨w.heap.size, 2, none⟩ = some (.int .u64 (MWide.w2 a)) ∧ w2.cell? ⟨w.heap.size + 1, 0, none⟩ = some (.int .u64 (MWide.w0 b)) ∧ w2.cell? ⟨w.heap.size + 1, 1, none⟩ = some (.int .u64 (MWide.w1 b)) ∧ w2.cell? ⟨w.heap.size + 1, 2, none⟩ = some (.int .u64 (MWide.w2 b)) ∧ Bel w2 w2 := ⟨a0, a1, a2, b0, b1, b2, Bel.refl _⟩
  go_cut [7, 8] (fun p ok w' => ∃ g, p = .pointer (some ⟨g, 0, none⟩) ∧ ok = .bool so ∧ Hid (w2.heap.size ≤ g) ∧ Hid (Bel w2 w') ∧ Blk w' g #[.int .u64 (MWide.w0 s), .int .u64 (MWide.w1 s), .int .u64 (MWide.w2 s)] 24)
  case first =>
    go_wp2_with fail
    go_region_held3 (fun w' => w'.cell? ⟨w.heap.size, 0, none⟩ = some (.int .u64 (MWide.w0 a)) ∧ w'.cell? ⟨w.heap.size, 1, none⟩ = some (.int .u64 (MWide.w1 a)) ∧ w'.cell? ⟨w.heap.size, 2, none⟩ = some (.int .u64 (MWide.w2 a)) ∧ w'.cell? ⟨w.heap.size + 1, 0, none⟩ = some (.int .u64 (MWide.w0 b)) ∧ w'.cell? ⟨w.heap.size + 1, 1, none⟩ = some (.int .u64 (MWide.w1 b)) ∧ w'.cell? ⟨w.heap.size + 1, 2, none⟩ = some (.int .u64 (MWide.w2 b)) ∧ Bel w2 w') (first | with_reducible exact kc6 hb (by assumption) | with_reducible exact kc6 (Bel.drew _) hS0 | with_reducible exact kc6_re (by omega) (by omega) (by omega) (by assumption) | with_reducible exact kc6 ((Bel.refl _).alloc (Nat.le_refl _) _) (by assumption) | with_reducible exact kc6_set3 (by omega) (by omega) (by omega) (by assumption))
      (first
        | (go_at_call 13; refine (HU.out _ _).mono ?_; rintro e w' ⟨rfl, hb⟩; have hzz := hb.size; (first | (have O := Blk.bel O hb) | (have O := Blk.bel (Blk.new _ _ _) hb) | (have O := Blk.bel (Blk.drew (Blk.new _ _ _)) hb) | skip))
        | (go_at_call 35; refine (HRA.out _).mono ?_; rintro e w' ⟨rfl, hb⟩; have hzz := hb.size; (first | (have O := Blk.bel O hb) | (have O := Blk.bel (Blk.new _ _ _) hb) | (have O := Blk.bel (Blk.drew (Blk.new _ _ _)) hb) | skip); (first | (obtain ⟨o0, o1, o2⟩ := O.cells3; have f0 := O.froz 0; have f1 := O.froz 1; have f2 := O.froz 2) | skip)))
    all_goals
      rename_i hheld
      go_wp2_with fail
      go_meet
      first
        | exact ⟨_, rfl, rfl, Lib.hid (by omega), Lib.hid hheld.2.2.2.2.2.2, Blk.set3 O⟩
        | exact ⟨_, rfl, rfl, Lib.hid (by omega), Lib.hid hheld.2.2.2.2.2.2, Blk.new _ _ _⟩
  clear a0 a1 a2 b0 b1 b2 hS0 hdr
  obtain ⟨g1, rfl, rfl, HG1, HBl, T1⟩ := hcut
  have A2 := A1.bel HBl.out
  have B2 := B1.bel HBl.out
  have N2 := N1.bel HBl.out
  have HB2 := Lib.hid (bthen HB1.out HBl.out)
  clear A1 B1 N1 HB1 HG1 HBl
  obtain ⟨a0, a1, a2⟩ := A2.cells3
  obtain ⟨b0, b1, b2⟩ := B2.cells3
  go_wp2_with fail
  refine (HS.out _).mono ?_
  rintro e w4 ⟨rfl, hb4⟩
  have A1 := A2.bel hb4
  have B1 := B2.bel hb4
  have N1 := N2.bel hb4
  have T2 := T1.bel hb4
  have HB3 := Lib.hid (bthen HB2.out hb4)
  clear A2 B2 N2 T1 HB2 hb4 a0 a1 a2 b0 b1 b2
  go_upto_region 4 with (fail)
  have N3 := Blk.new w4 #[.int .u64 (MWide.w0 d), .int .u64 (MWide.w1 d), .int .u64 (MWide.w2 d)] 26
  have A1n := A1.alloc (.cells #[.int .u64 (MWide.w0 d), .int .u64 (MWide.w1 d), .int .u64 (MWide.w2 d)] 26)
  have B1n := B1.alloc (.cells #[.int .u64 (MWide.w0 d), .int .u64 (MWide.w1 d), .int .u64 (MWide.w2 d)] 26)
  have N1n := N1.alloc (.cells #[.int .u64 (MWide.w0 d), .int .u64 (MWide.w1 d), .int .u64 (MWide.w2 d)] 26)
  have T2n := T2.alloc (.cells #[.int .u64 (MWide.w0 d), .int .u64 (MWide.w1 d), .int .u64 (MWide.w2 d)] 26)
  have HB3n := Lib.hid (HB3.out.alloc HB3.out.size (.cells #[.int .u64 (MWide.w0 d), .int .u64 (MWide.w1 d), .int .u64 (MWide.w2 d)] 26))
  obtain ⟨w5, hw5⟩ : ∃ x, w4.alloc (.cells #[.int .u64 (MWide.w0 d), .int .u64 (MWide.w1 d), .int .u64 (MWide.w2 d)] 26) = x := ⟨_, rfl⟩
  rw [hw5] at N3 A1n B1n N1n T2n HB3n ⊢
  clear hw5 A1 B1 N1 T2 HB3
  have A1 := A1n
  have B1 := B1n
  have N1 := N1n
  have T2 := T2n
  clear A1n B1n N1n T2n
  have HB3 := HB3n
  clear HB3n
  obtain ⟨a0, a1, a2⟩ := A1.cells3
  obtain ⟨b0, b1, b2⟩ := B1.cells3
  have hlt := A1.lt
  have hlt2 := B1.lt
  have hdr : w5.drew.heap.size = w5.heap.size := rfl
  have hS0 : w5.cell? ⟨w.heap.size, 0, none⟩ = some (.int .u64 (MWide.w0 a)) ∧ w5.cell? ⟨w.heap.size, 1, none⟩ = some (.int .u64 (MWide.w1 a)) ∧ w5.cell? ⟨w.heap.size, 2, none⟩ = some (.int .u64 (MWide.w2 a)) ∧ w5.cell? ⟨w.heap.size + 1, 0, none⟩ = some (.int .u64 (MWide.w0 b)) ∧ w5.cell? ⟨w.heap.size + 1, 1, none⟩ = some (.int .u64 (MWide.w1 b)) ∧ w5.cell? ⟨w.heap.size + 1, 2, none⟩ = some (.int .u64 (MWide.w2 b)) ∧ Bel w5 w5 := ⟨a0, a1, a2, b0, b1, b2, Bel.refl _⟩
  go_cut [11, 12] (fun p ok w' => ∃ g, p = .pointer (some ⟨g, 0, none⟩) ∧ ok = .bool dk ∧ Hid (w5.heap.size ≤ g) ∧ Hid (Bel w5 w') ∧ Blk w' g #[.int .u64 (MWide.w0 d), .int .u64 (MWide.w1 d), .int .u64 (MWide.w2 d)] 24)
  case first =>
    go_wp2_with fail
    go_region_held3 (fun w' => w'.cell? ⟨w.heap.size, 0, none⟩ = some (.int .u64 (MWide.w0 a)) ∧ w'.cell? ⟨w.heap.size, 1, none⟩ = some (.int .u64 (MWide.w1 a)) ∧ w'.cell? ⟨w.heap.size, 2, none⟩ = some (.int .u64 (MWide.w2 a)) ∧ w'.cell? ⟨w.heap.size + 1, 0, none⟩ = some (.int .u64 (MWide.w0 b)) ∧ w'.cell? ⟨w.heap.size + 1, 1, none⟩ = some (.int .u64 (MWide.w1 b)) ∧ w'.cell? ⟨w.heap.size + 1, 2, none⟩ = some (.int .u64 (MWide.w2 b)) ∧ Bel w5 w') (first | with_reducible exact kc6 hb (by assumption) | with_reducible exact kc6 (Bel.drew _) hS0 | with_reducible exact kc6_re (by omega) (by omega) (by omega) (by assumption) | with_reducible exact kc6 ((Bel.refl _).alloc (Nat.le_refl _) _) (by assumption) | with_reducible exact kc6_set3 (by omega) (by omega) (by omega) (by assumption))
      (first
        | (go_at_call 13; refine (HU.out _ _).mono ?_; rintro e w' ⟨rfl, hb⟩; have hzz := hb.size; (first | (have O := Blk.bel O hb) | (have O := Blk.bel (Blk.new _ _ _) hb) | (have O := Blk.bel (Blk.drew (Blk.new _ _ _)) hb) | skip))
        | (go_at_call 37; refine (HRS.out _).mono ?_; rintro e w' ⟨rfl, hb⟩; have hzz := hb.size; (first | (have O := Blk.bel O hb) | (have O := Blk.bel (Blk.new _ _ _) hb) | (have O := Blk.bel (Blk.drew (Blk.new _ _ _)) hb) | skip); (first | (obtain ⟨o0, o1, o2⟩ := O.cells3; have f0 := O.froz 0; have f1 := O.froz 1; have f2 := O.froz 2) | skip)))
    all_goals
      rename_i hheld
      go_wp2_with fail
      go_meet
      first
        | exact ⟨_, rfl, rfl, Lib.hid (by omega), Lib.hid hheld.2.2.2.2.2.2, Blk.set3 O⟩
        | exact ⟨_, rfl, rfl, Lib.hid (by omega), Lib.hid hheld.2.2.2.2.2.2, Blk.new _ _ _⟩
  clear a0 a1 a2 b0 b1 b2 hS0 hdr
  obtain ⟨g2, rfl, rfl, HG2, HBl, T4⟩ := hcut
  have A2 := A1.bel HBl.out
  have B2 := B1.bel HBl.out
  have N2 := N1.bel HBl.out
  have T3 := T2.bel HBl.out
  have N4 := N3.bel HBl.out
  have HB4 := Lib.hid (bthen HB3.out HBl.out)
  have HBk := HBl
  clear A1 B1 N1 T2 N3 HG2 HBl
  obtain ⟨a0, a1, a2⟩ := A2.cells3
  obtain ⟨b0, b1, b2⟩ := B2.cells3
  obtain ⟨c0, c1, c2⟩ := N2.cells3
  obtain ⟨d0, d1, d2⟩ := T3.cells3
  obtain ⟨e0, e1, e2⟩ := N4.cells3
  obtain ⟨f0, f1, f2⟩ := T4.cells3
  go_upto_region 5 with (fail)
  have hS0 := (And.intro a0 (And.intro a1 (And.intro a2 (And.intro b0 (And.intro b1 (And.intro b2 (And.intro c0 (And.intro c1 (And.intro c2 (And.intro d0 (And.intro d1 (And.intro d2 (And.intro e0 (And.intro e1 (And.intro e2 (And.intro f0 (And.intro f1 (And.intro f2 HBk.out))))))))))))))))))
  go_region_held3 (fun w' => w'.cell? ⟨w.heap.size, 0, none⟩ = some (.int .u64 (MWide.w0 a)) ∧ w'.cell? ⟨w.heap.size, 1, none⟩ = some (.int .u64 (MWide.w1 a)) ∧ w'.cell? ⟨w.heap.size, 2, none⟩ = some (.int .u64 (MWide.w2 a)) ∧ w'.cell? ⟨w.heap.size + 1, 0, none⟩ = some (.int .u64 (MWide.w0 b)) ∧ w'.cell? ⟨w.heap.size + 1, 1, none⟩ = some (.int .u64 (MWide.w1 b)) ∧ w'.cell? ⟨w.heap.size + 1, 2, none⟩ = some (.int .u64 (MWide.w2 b)) ∧ w'.cell? ⟨w1.heap.size, 0, none⟩ = some (.int .u64 (MWide.w0 s)) ∧ w'.cell? ⟨w1.heap.size, 1, none⟩ = some (.int .u64 (MWide.w1 s)) ∧ w'.cell? ⟨w1.heap.size, 2, none⟩ = some (.int .u64 (MWide.w2 s)) ∧ w'.cell? ⟨g1, 0, none⟩ = some (.int .u64 (MWide.w0 s)) ∧ w'.cell? ⟨g1, 1, none⟩ = some (.int .u64 (MWide.w1 s)) ∧ w'.cell? ⟨g1, 2, none⟩ = some (.int .u64 (MWide.w2 s)) ∧ w'.cell? ⟨w4.heap.size, 0, none⟩ = some (.int .u64 (MWide.w0 d)) ∧ w'.cell? ⟨w4.heap.size, 1, none⟩ = some (.int .u64 (MWide.w1 d)) ∧ w'.cell? ⟨w4.heap.size, 2, none⟩ = some (.int .u64 (MWide.w2 d)) ∧ w'.cell? ⟨g2, 0, none⟩ = some (.int .u64 (MWide.w0 d)) ∧ w'.cell? ⟨g2, 1, none⟩ = some (.int .u64 (MWide.w1 d)) ∧ w'.cell? ⟨g2, 2, none⟩ = some (.int .u64 (MWide.w2 d)) ∧ Bel w5 w') (first | with_reducible exact kc18s hb (by assumption) | with_reducible exact kc18s (Bel.drew _) hS0)
    (first
      | (go_at_call 13; refine (HU.out _ _).mono ?_; rintro e w' ⟨rfl, hb⟩)
      | (go_at_call 19; refine (HL.out _).mono ?_; rintro e w' ⟨rfl, hb⟩)
      | (go_at_call 25; refine (HC.out _).mono ?_; rintro e w' ⟨rfl, hb⟩)
      | (go_at_call 38; refine (HRC.out _).mono ?_; rintro e w' ⟨rfl, hb⟩)
      | (go_at_call 39; refine (HW.out _).mono ?_; rintro e w' ⟨rfl, hb⟩)
      | (go_at_call 40; refine (HRW.out _).mono ?_; rintro e w' ⟨rfl, hb⟩))
  rename_i hheld
  obtain ⟨-, -, -, -, -, -, -, -, -, -, -, -, -, -, -, -, -, -, hend⟩ := hheld
  have HBf := Lib.hid (bthen HB3.out hend)
  clear hend hS0
  go_wp2
  go_ret
  exact ⟨rfl, HBf.out⟩

end Go.Proofs.YtakkifedcbhgfaaDoor.K
