/- A wide number's digits, as the reference has them. -/
import Derived.Test.YtakkifedcbhgfaaDoorBase
import Derived.Handy
import Derived.Test.YtakkifedcbhgfaaDoorWLaw01
namespace Go.Proofs.YtakkifedcbhgfaaDoor.K
open Go Go.RowKit Go.Proofs.YtakkifedcbhgfaaDoorW.PrintWords Go.Proofs.YtakkifedcbhgfaaDoorW.PrintLast Go.Proofs.YtakkifedcbhgfaaDoorW.PrintMore
set_option linter.unusedVariables false
set_option linter.unusedSimpArgs false
open Go.Proofs.YtakkifedcbhgfaaDoor.MWide (bt W64 U192 addV subV addOk subOk cry sumO bor difO cmpV width)
open Go.Proofs.YtakkifedcbhgfaaDoor.MText (padD dec strip numOf parseOk parseV canon digs)
theorem dig_slice (r : Nat) (h : r < 10) : (⟨#[48, 49, 50, 51, 52, 53, 54, 55, 56, 57]⟩ : ByteArray).extract r (r + 1) = strOfNums [48 + (r : Int)] := by
  have : ∀ r : Fin 10, (⟨#[48, 49, 50, 51, 52, 53, 54, 55, 56, 57]⟩ : ByteArray).extract r.val (r.val + 1) = strOfNums [48 + (r.val : Int)] := by decide +kernel
  exact this ⟨r, h⟩
set_option maxHeartbeats 1000000 in
set_option maxRecDepth 100000 in
theorem refText_calls (k : Nat) : ∀ (a : Int) (w : World), a.toNat ≤ k → U192 a →
    Calls Tryd.prog 23 #[.agg #[.int .u64 (MWide.w0 a), .int .u64 (MWide.w1 a), .int .u64 (MWide.w2 a)]] w fun e w' => e = .returned (.string (strOfNums (dec a))) ∧ Bel w w' := by
  induction k using Nat.strongRecOn with
  | _ k ih =>
    intro a w hk ha
    have hd := MText.dec_rec ha.1 (Int.lt_trans ha.2 MText.top58)
    have ha10 : U192 (a / 10) := by unfold U192 at *; omega
    have hr0 : 0 ≤ a % 10 ∧ a % 10 < 10 := by omega
    obtain ⟨r, hr⟩ : ∃ r : Nat, a % 10 = r := ⟨(a % 10).toNat, by omega⟩
    have hr10 : r < 10 := by omega
    rw [hr] at hd
    have HT := Lib.hid (fun w => tenth_calls a w ha)
    rw [hr] at HT
    have hs := dig_slice r hr10
    have hq := fun w => eq3 24 u24 (MWide.w0 (a / 10)) (MWide.w1 (a / 10)) (MWide.w2 (a / 10)) 0 0 0 w
    have he := eqU ha10 (b := 0) ⟨by decide, by decide⟩
    rw [show MWide.w0 0 = 0 from rfl, show MWide.w1 0 = 0 from rfl, show MWide.w2 0 = 0 from rfl] at he
    rw [he] at hq
    by_cases hz : a / 10 = 0
    · rw [if_pos hz] at hd
      rw [show (a / 10 == 0) = true by rw [hz]; rfl] at hq
      have HD := Lib.hid hd
      clear he hd hz ih hk ha ha10 hr0 hr
      go_enter Tryd.func23, Tryd.ntmps23
      go_wp2_with fail
      refine (HT.out _).mono ?_
      rintro e w1 ⟨rfl, hb1⟩
      have HB1 : Hid (Below w.heap.size w w1) := Lib.hid (bthen (by repeat (first | exact Below.refl _ _ | refine Below.drew ?_ | refine Below.alloc ?_ (by simp <;> omega) _)) hb1)
      clear hb1
      go_wp2_with fail
      go_ret
      exact ⟨by rw [HD.out]; rfl, HB1.out.alloc HB1.out.size _⟩
    · rw [if_neg hz] at hd
      rw [show (a / 10 == 0) = false by rw [beq_eq_false_iff_ne]; exact hz] at hq
      have hh1 := ha.1
      have hh2 := ha10.1
      have HI := Lib.hid (fun w => ih (a / 10).toNat (by omega) (a / 10) w (Nat.le_refl _) ha10)
      have hl1 := MText.dec_length ha10.1 (Int.lt_trans ha10.2 MText.top58)
      have hcat : strOfNums (dec (a / 10)) ++ strOfNums [48 + (r : Int)] = strOfNums (dec a) := by rw [str_app, hd]
      have hz1 : (strOfNums (dec (a / 10))).size ≤ 58 := by rw [strOfNums_size]; exact hl1
      have hz2 : (strOfNums [48 + (r : Int)]).size ≤ 1 := by rw [strOfNums_size]; simp
      obtain ⟨D, hD⟩ : ∃ D, strOfNums (dec (a / 10)) = D := ⟨_, rfl⟩
      obtain ⟨E, hE⟩ : ∃ D, strOfNums [48 + (r : Int)] = D := ⟨_, rfl⟩
      obtain ⟨F, hF⟩ : ∃ D, strOfNums (dec a) = D := ⟨_, rfl⟩
      rw [hD] at HI hcat hz1
      rw [hE] at hcat hz2 hs
      rw [hF] at hcat ⊢
      clear he hd hz ih hk ha ha10 hr0 hr hl1 hD hE hF
      go_enter Tryd.func23, Tryd.ntmps23
      go_wp2_with fail
      refine (HT.out _).mono ?_
      rintro e w1 ⟨rfl, hb1⟩
      have HB1 : Hid (Below w.heap.size w w1) := Lib.hid (bthen (by repeat (first | exact Below.refl _ _ | refine Below.drew ?_ | refine Below.alloc ?_ (by simp <;> omega) _)) hb1)
      clear hb1
      go_wp2_with fail
      refine (HI.out _).mono ?_
      rintro e w2 ⟨rfl, hb2⟩
      have HB2 : Hid (Below w.heap.size w w2) := Lib.hid (bthen (HB1.out.alloc HB1.out.size _) hb2)
      clear hb2
      go_wp2_with fail
      go_ret
      exact ⟨rfl, HB2.out⟩

end Go.Proofs.YtakkifedcbhgfaaDoor.K
