/- A wide number's digits. -/
import Derived.Test.YtakkifedcbhgfaaDoorBase
import Derived.Handy
import Derived.Test.YtakkifedcbhgfaaDoorWText1
namespace Go.Proofs.YtakkifedcbhgfaaDoor.K
open Go Go.RowKit Go.Proofs.YtakkifedcbhgfaaDoorW.PrintWords Go.Proofs.YtakkifedcbhgfaaDoorW.PrintLast Go.Proofs.YtakkifedcbhgfaaDoorW.PrintMore
set_option linter.unusedVariables false
set_option linter.unusedSimpArgs false
open Go.Proofs.YtakkifedcbhgfaaDoor.MWide (bt W64 U192 addV subV addOk subOk cry sumO bor difO cmpV width)
open Go.Proofs.YtakkifedcbhgfaaDoor.MText (padD dec strip)
theorem str_app (A B : List Int) : strOfNums A ++ strOfNums B = strOfNums (A ++ B) := by
  apply ByteArray.ext
  rw [ByteArray.data_append]
  unfold strOfNums
  simp
theorem str_strip (l : List Int) (hl : ∀ c ∈ l, 48 ≤ c ∧ c ≤ 57) : (⟨((strOfNums l).data.toList.dropWhile (fun x => (x.toNat : Int) == 48)).toArray⟩ : ByteArray) = strOfNums (strip l) := by
  rw [strOfNums_data]
  unfold strip strOfNums
  have : (l.map fun n => UInt8.ofNat n.toNat).dropWhile (fun x => (x.toNat : Int) == 48) = (l.dropWhile (· == 48)).map fun n => UInt8.ofNat n.toNat := by
    induction l with
    | nil => rfl
    | cons x l ih =>
      have hx := hl x (by simp)
      rw [List.map_cons, List.dropWhile_cons, List.dropWhile_cons]
      have e : ((((UInt8.ofNat x.toNat).toNat : Nat) : Int) == 48) = (x == 48) := by
        rw [UInt8.toNat_ofNat', Nat.mod_eq_of_lt (by omega), Int.toNat_of_nonneg (by omega)]
      rw [e]
      split
      · exact ih (fun c hc => hl c (by simp [hc]))
      · rfl
  rw [this]
theorem padD_digs (n : Int) (k : Nat) : ∀ c ∈ padD n k, 48 ≤ c ∧ c ≤ 57 := by
  induction k generalizing n with
  | zero => intro c hc; simp [padD] at hc
  | succ k ih =>
    intro c hc
    rw [padD] at hc
    rcases List.mem_append.1 hc with hc | hc
    · exact ih _ c hc
    · simp at hc; omega
theorem text_end {a : Int} {j : Nat} (h : U192 a) (hz : a / 10 ^ (19 * j) = 0) : (if strip (padD a (19 * j)) = [] then [48] else strip (padD a (19 * j))) = dec a := by
  have hp := MText.p10 (19 * j)
  have h1 := MWide.parts a (10 ^ (19 * j))
  have h2 := Int.emod_lt_of_pos a hp
  rw [hz, Int.mul_zero, Int.zero_add] at h1
  by_cases h0 : a = 0
  · subst h0
    rw [MText.strip_pad0, if_pos rfl]; rfl
  · have := h.1
    rw [if_neg (MText.strip_pad_ne (by omega) (by omega))]
    exact MText.strip_dec (by omega) (by omega) (Int.lt_trans h.2 MText.top58)
theorem text_more (a : Int) (j : Nat) : padD (a / 10 ^ (19 * j) % 10000000000000000000) 19 ++ padD a (19 * j) = padD a (19 * (j + 1)) := by
  rw [show (10000000000000000000 : Int) = 10 ^ 19 from rfl, MText.padD_mod, show 19 * (j + 1) = 19 + 19 * j by omega, MText.padD_add]
theorem text_div (a : Int) (j : Nat) : a / 10 ^ (19 * j) / 10000000000000000000 = a / 10 ^ (19 * (j + 1)) := by
  rw [show (10000000000000000000 : Int) = 10 ^ 19 from rfl, Int.ediv_ediv_of_nonneg (Int.le_of_lt (MText.p10 _)), ← Int.pow_add, show 19 * j + 19 = 19 * (j + 1) by omega]
theorem text_u {a : Int} (k : Nat) (h : U192 a) : U192 (a / 10 ^ k) := ⟨Int.ediv_nonneg h.1 (Int.le_of_lt (MText.p10 k)), Int.lt_of_le_of_lt (Int.ediv_le_self _ h.1) h.2⟩
theorem text_le {a : Int} {j : Nat} (h : U192 a) (hz : ¬ a / 10 ^ (19 * j) = 0) : j ≤ 3 := by
  rcases Nat.lt_or_ge 3 j with hj | hj
  · exfalso
    apply hz
    refine Int.ediv_eq_zero_of_lt h.1 (Int.lt_of_lt_of_le (Int.lt_trans h.2 MText.top58) ?_)
    have : (10 : Nat) ^ 58 ≤ 10 ^ (19 * j) := Nat.pow_le_pow_right (by decide) (by omega)
    exact_mod_cast this
  · exact hj
set_option maxHeartbeats 1000000 in
set_option maxRecDepth 100000 in
theorem Text_calls (a : Int) (w : World) (ha : U192 a) :
    Calls Tryd.prog 22 #[.agg #[.int .u64 (MWide.w0 a), .int .u64 (MWide.w1 a), .int .u64 (MWide.w2 a)]] w fun e w' => e = .returned (.string (strOfNums (dec a))) ∧ Bel w w' := by
  have HA := Lib.hid ha
  clear ha
  go_enter Tryd.func22, Tryd.ntmps22
  go_wp2
  go_loopw [3] (fun s wr => ∃ j : Nat, s = .string (strOfNums (padD a (19 * j))) ∧ Hid (j ≤ 4) ∧ Hid (Below w.heap.size w wr) ∧ Blk wr w.heap.size #[.int .u64 (MWide.w0 (a / 10 ^ (19 * j))), .int .u64 (MWide.w1 (a / 10 ^ (19 * j))), .int .u64 (MWide.w2 (a / 10 ^ (19 * j)))] 26) (fun s _ => 100 - (match s with | .string b => b.size | _ => 0))
  case atStart =>
    refine ⟨0, rfl, Lib.hid (by omega), Lib.hid ((Below.refl _ w).alloc (Nat.le_refl _) _), ?_⟩
    rw [show a / 10 ^ (19 * 0) = a by simp]
    exact Blk.new w _ _
  case round =>
    obtain ⟨j, rfl, HJ, HBel, hb⟩ := hrel
    obtain ⟨c0, c1, c2⟩ := hb.cells3
    have hu := text_u (19 * j) HA.out
    have hq := fun w => neq3 26 u26 (MWide.w0 (a / 10 ^ (19 * j))) (MWide.w1 (a / 10 ^ (19 * j))) (MWide.w2 (a / 10 ^ (19 * j))) 0 0 0 w
    have he := eqU hu (b := 0) ⟨by decide, by decide⟩
    rw [show MWide.w0 0 = 0 from rfl, show MWide.w1 0 = 0 from rfl, show MWide.w2 0 = 0 from rfl] at he
    rw [he] at hq
    by_cases hz : a / 10 ^ (19 * j) = 0
    · rw [show (!(a / 10 ^ (19 * j) == 0)) = false by rw [hz]; rfl] at hq
      have HT := Lib.hid (fun w => TrimLeft_calls (strOfNums (padD a (19 * j))) (by rw [strOfNums_size, MText.padD_length]; have := HJ.out; omega) w)
      rw [str_strip _ (padD_digs _ _)] at HT
      have HE := Lib.hid (text_end HA.out hz)
      clear hz he hu
      by_cases hs : strip (padD a (19 * j)) = []
      · rw [hs] at HT HE
        rw [if_pos rfl] at HE
        clear hs
        have hem : (strOfNums []).toList.isEmpty = true := by rw [ByteArray.toList_eq]; rfl
        go_wp2_with (go_at_call 65; refine (HT.out _).mono ?_; rintro e w' ⟨rfl, rfl⟩)
        go_ret
        exact ⟨by rw [← HE.out]; rfl, HBel.out⟩
      · rw [if_neg hs] at HE
        rw [HE.out] at HT hs
        have hem : (strOfNums (dec a)).toList.isEmpty = false := by
          rw [ByteArray.toList_eq]
          cases hx : dec a with
          | nil => exact absurd hx hs
          | cons x l => rfl
        clear hs
        go_wp2_with (go_at_call 65; refine (HT.out _).mono ?_; rintro e w' ⟨rfl, rfl⟩)
        go_ret
        exact ⟨rfl, HBel.out⟩
    · rw [show (!(a / 10 ^ (19 * j) == 0)) = true by rw [beq_eq_false_iff_ne.2 hz]; rfl] at hq
      have hj := text_le HA.out hz
      have HU := Lib.hid hu
      have HM := Lib.hid (text_more a j)
      have HDv := Lib.hid (text_div a j)
      have HR : Hid (0 ≤ a / 10 ^ (19 * j) % 10000000000000000000 ∧ a / 10 ^ (19 * j) % 10000000000000000000 < 18446744073709551616) := Lib.hid (by omega)
      clear hz he hu
      go_wp2_with fail
      refine (parted_calls _ _ HU.out).mono ?_
      rintro e w1 ⟨rfl, hb1⟩
      rw [HDv.out]
      have hB1 := hb.bel hb1
      obtain ⟨d0, d1, d2⟩ := hB1.cells3
      have f0 := hB1.froz 0; have f1 := hB1.froz 1; have f2 := hB1.froz 2
      have HB1 := Lib.hid (bthen HBel.out hb1)
      clear hb1
      go_wp2_with fail
      refine (digits_calls _ _ HR.out.1 HR.out.2).mono ?_
      rintro e w2 ⟨rfl, hb2⟩
      have hB2 := Blk.bel (Blk.set3 hB1) hb2
      have HB2 := Lib.hid (bthen (below_set3 HB1.out (Nat.le_refl _) _ _ _) hb2)
      clear hb2 hq c0 c1 c2 d0 d1 d2 f0 f1 f2 hB1 hb
      have hcat : strOfNums (padD (a / 10 ^ (19 * j) % 10000000000000000000) 19) ++ strOfNums (padD a (19 * j)) = strOfNums (padD a (19 * (j + 1))) := by rw [str_app, HM.out]
      have hz1 : (strOfNums (padD (a / 10 ^ (19 * j) % 10000000000000000000) 19)).size = 19 := by rw [strOfNums_size, MText.padD_length]
      have hz2 : (strOfNums (padD a (19 * j))).size = 19 * j := by rw [strOfNums_size, MText.padD_length]
      have hz3 : (strOfNums (padD a (19 * (j + 1)))).size = 19 * (j + 1) := by rw [strOfNums_size, MText.padD_length]
      obtain ⟨S, hS⟩ : ∃ S, strOfNums (padD a (19 * (j + 1))) = S := ⟨_, rfl⟩
      rw [hS] at hcat hz3
      have HS := Lib.hid hS
      clear hS
      generalize strOfNums (padD (a / 10 ^ (19 * j) % 10000000000000000000) 19) = D at *
      obtain ⟨T, hT⟩ : ∃ T, strOfNums (padD a (19 * j)) = T := ⟨_, rfl⟩
      rw [hT] at hcat hz2 ⊢
      have HT := Lib.hid hT
      clear hT
      have hz1' : D.size ≤ 19 := by omega
      have hz2' : T.size ≤ 57 := by omega
      have HZ := Lib.hid (And.intro hz2 hz3)
      clear hz1 hz2 hz3
      go_wp2_with fail
      refine ⟨⟨j + 1, by rw [HS.out], Lib.hid (by omega), HB2, hB2⟩, ?_⟩
      show 100 - S.size < 100 - (strOfNums (padD a (19 * j))).size
      rw [HT.out]
      obtain ⟨h1, h2⟩ := HZ.out
      omega

end Go.Proofs.YtakkifedcbhgfaaDoor.K
