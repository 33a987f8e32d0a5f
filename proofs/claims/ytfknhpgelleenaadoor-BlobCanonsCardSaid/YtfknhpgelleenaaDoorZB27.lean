/- What a claim leans on, part 27, cut by a program out of the texts WPeek2. -/
import Derived.Handy
import Derived.Lib.Bytes
import Derived.IntWalk
import Derived.Deep.RegionLaw
import Derived.Test.YtfknhpgelleenaaDoorZB4
import Derived.Test.YtfknhpgelleenaaDoorZB8
import Derived.Test.YtfknhpgelleenaaDoorZB12
section
namespace Go.Proofs.YtfknhpgelleenaaDoor.K
open Go Go.RowKit Go.Proofs.YtfknhpgelleenaaDoorW.PrintWords Go.Proofs.YtfknhpgelleenaaDoorW.PrintLast Go.Proofs.YtfknhpgelleenaaDoorW.PrintMore
set_option linter.unusedVariables false
set_option linter.unusedSimpArgs false
open Go.Proofs.YtfknhpgelleenaaDoor.MPeek
theorem nums_ofNat : ∀ {l : List Int}, bytesOk l → (l.map fun n => UInt8.ofNat n.toNat).map (fun b : UInt8 => (b.toNat : Int)) = l
  | [], _ => rfl
  | a :: l, h => by
    have ha := h a (by simp)
    have h2 := nums_ofNat (l := l) (fun x hx => h x (by simp [hx]))
    simp only [List.map_cons, h2, List.cons.injEq, and_true]
    show (((UInt8.ofNat a.toNat).toNat : Nat) : Int) = a
    rw [UInt8.toNat_ofNat']
    omega
theorem str_is {l : List Int} (hl : bytesOk l) (m : List UInt8) : ((strOfNums l).toList == m) = decide (l = m.map (fun b => (b.toNat : Int))) := by
  rw [Lib.strOfNums_toList]
  show ((l.map fun n => UInt8.ofNat n.toNat) == m) = _
  by_cases h : l = m.map (fun b => (b.toNat : Int))
  · have h2 : (l.map fun n => UInt8.ofNat n.toNat) = m := by
      rw [h, List.map_map]
      have : (fun n : Int => UInt8.ofNat n.toNat) ∘ (fun b : UInt8 => (b.toNat : Int)) = id := by funext b; simp
      rw [this, List.map_id]
    rw [h2]
    simp [h]
  · have h2 : (l.map fun n => UInt8.ofNat n.toNat) ≠ m := fun e => h (by rw [← e, nums_ofNat hl])
    simp [h, h2]
theorem bits_flags (f : Int) (h : 0 ≤ f ∧ f < 256) : (Go.bits .andNot .u8 f 19 != 0) = (!decide (f = f % 2 + 2 * (f / 2 % 2) + 16 * (f / 16 % 2))) ∧ (Go.bits .and .u8 f 2 != 0) = bitB f 2 ∧ (Go.bits .and .u8 f 16 != 0) = bitB f 16 ∧ (Go.bits .and .u8 f 1 != 0) = bitB f 1 := by
  have hall : ∀ n : Fin 256, (Go.bits .andNot .u8 ((n.val : Nat) : Int) 19 != 0) = (!decide (((n.val : Nat) : Int) = ((n.val : Nat) : Int) % 2 + 2 * (((n.val : Nat) : Int) / 2 % 2) + 16 * (((n.val : Nat) : Int) / 16 % 2))) ∧ (Go.bits .and .u8 ((n.val : Nat) : Int) 2 != 0) = bitB ((n.val : Nat) : Int) 2 ∧ (Go.bits .and .u8 ((n.val : Nat) : Int) 16 != 0) = bitB ((n.val : Nat) : Int) 16 ∧ (Go.bits .and .u8 ((n.val : Nat) : Int) 1 != 0) = bitB ((n.val : Nat) : Int) 1 := by decide +kernel
  have := hall ⟨f.toNat, by omega⟩
  simpa [Int.toNat_of_nonneg h.1] using this
set_option maxHeartbeats 2000000 in
set_option maxRecDepth 100000 in
theorem wrong_3 (w : World) (A : Option Addr) (c : Nat) (l : List Int) (h : CB w A l) (hc : l.length ≤ c) (hb : bytesOk l) (ht : l.length = 3) :
    Calls Tryd.prog 102 #[.slice A l.length c] w fun e w' => e = .returned (.bool (wrongS l)) ∧ Bel w w' := by
  have HC := Lib.hid h
  have HBY := Lib.hid hb
  have hm := h.2.1
  have hl : (l.take 3).length = 3 := by rw [List.length_take]; omega
  have hcv : ∀ W, Bel w W → (convert 49 9 (.slice A 3 c)).run Tryd.prog W = .ok (.string (strOfNums (l.take 3))) W := fun W hb => by
    have := CB.str (c := c) ((HC.out.below hb).take 3 (by omega))
    rw [hl] at this
    exact this
  have cv1 := hcv w (Bel.refl w)
  have cv2 := hcv w.drew (Bel.drew w)
  have hst := str_is (l := l.take 3) (fun x hx => HBY.out x (List.mem_of_mem_take hx)) [71, 80, 0]
  have hnc : (3 : Int) ≤ (c : Int) := by omega
  have hnc2 : 3 ≤ c := by omega
  have hex : (ByteArray.mk #[71, 80, 0]).extract 0 3 = ⟨#[71, 80, 0]⟩ := by first | rfl | decide +kernel
  have HL : Hid (wrongS l = if l.take 3 = magic.take 3 then false else true) := Lib.hid (by
    unfold wrongS
    rw [ht, if_pos (show 3 ≤ 3 by omega)])
  obtain ⟨r, hr⟩ : ∃ r, wrongS l = r := ⟨_, rfl⟩
  rw [hr] at HL
  rw [hr, ht]
  have e3 : l.take 3 = l.take 3 := by first | rfl | rw [List.take_of_length_le (by omega), List.take_of_length_le (by omega)]
  have HE := Lib.hid e3
  by_cases hmg : l.take 3 = magic.take 3
  · have hst2 : ((strOfNums (l.take 3)).toList == [71, 80, 0]) = true := by rw [hst]; simpa [magic] using hmg
    have HRR : Hid (r = false) := Lib.hid (by rw [HL.out, HE.out, if_pos hmg])
    clear hst hmg hl hcv hr e3 ht hm
    go_enter Tryd.func102, Tryd.ntmps102
    go_upto_region 2 with (fail)
    go_region_law (fail)
    all_goals
      go_wp2
      go_ret
      exact ⟨by first | (rw [HRR.out]; done) | (rw [HRR.out]; rfl) | simp [HRR.out, Act.put], Bel.drew _⟩
  · have hst2 : ((strOfNums (l.take 3)).toList == [71, 80, 0]) = false := by rw [hst]; simpa [magic] using hmg
    have HRR : Hid (r = true) := Lib.hid (by rw [HL.out, HE.out, if_neg hmg])
    clear hst hmg hl hcv hr e3 ht hm
    go_enter Tryd.func102, Tryd.ntmps102
    go_upto_region 2 with (fail)
    go_region_law (fail)
    all_goals
      go_wp2
      go_ret
      exact ⟨by first | (rw [HRR.out]; done) | (rw [HRR.out]; rfl) | simp [HRR.out, Act.put], Bel.drew _⟩
set_option maxHeartbeats 2000000 in
set_option maxRecDepth 100000 in
theorem wrong_2 (w : World) (A : Option Addr) (c : Nat) (l : List Int) (h : CB w A l) (hc : l.length ≤ c) (hb : bytesOk l) (ht : l.length = 2) :
    Calls Tryd.prog 102 #[.slice A l.length c] w fun e w' => e = .returned (.bool (wrongS l)) ∧ Bel w w' := by
  have HC := Lib.hid h
  have HBY := Lib.hid hb
  have hm := h.2.1
  have hl : (l.take 2).length = 2 := by rw [List.length_take]; omega
  have hcv : ∀ W, Bel w W → (convert 49 9 (.slice A 2 c)).run Tryd.prog W = .ok (.string (strOfNums (l.take 2))) W := fun W hb => by
    have := CB.str (c := c) ((HC.out.below hb).take 2 (by omega))
    rw [hl] at this
    exact this
  have cv1 := hcv w (Bel.refl w)
  have cv2 := hcv w.drew (Bel.drew w)
  have hst := str_is (l := l.take 2) (fun x hx => HBY.out x (List.mem_of_mem_take hx)) [71, 80]
  have hnc : (2 : Int) ≤ (c : Int) := by omega
  have hnc2 : 2 ≤ c := by omega
  have hex : (ByteArray.mk #[71, 80, 0]).extract 0 2 = ⟨#[71, 80]⟩ := by first | rfl | decide +kernel
  have HL : Hid (wrongS l = if l.take 3 = magic.take 2 then false else true) := Lib.hid (by
    unfold wrongS
    rw [ht, if_pos (show 2 ≤ 3 by omega)])
  obtain ⟨r, hr⟩ : ∃ r, wrongS l = r := ⟨_, rfl⟩
  rw [hr] at HL
  rw [hr, ht]
  have e3 : l.take 3 = l.take 2 := by first | rfl | rw [List.take_of_length_le (by omega), List.take_of_length_le (by omega)]
  have HE := Lib.hid e3
  by_cases hmg : l.take 2 = magic.take 2
  · have hst2 : ((strOfNums (l.take 2)).toList == [71, 80]) = true := by rw [hst]; simpa [magic] using hmg
    have HRR : Hid (r = false) := Lib.hid (by rw [HL.out, HE.out, if_pos hmg])
    clear hst hmg hl hcv hr e3 ht hm
    go_enter Tryd.func102, Tryd.ntmps102
    go_upto_region 2 with (fail)
    go_region_law (fail)
    all_goals
      go_wp2
      go_ret
      exact ⟨by first | (rw [HRR.out]; done) | (rw [HRR.out]; rfl) | simp [HRR.out, Act.put], Bel.drew _⟩
  · have hst2 : ((strOfNums (l.take 2)).toList == [71, 80]) = false := by rw [hst]; simpa [magic] using hmg
    have HRR : Hid (r = true) := Lib.hid (by rw [HL.out, HE.out, if_neg hmg])
    clear hst hmg hl hcv hr e3 ht hm
    go_enter Tryd.func102, Tryd.ntmps102
    go_upto_region 2 with (fail)
    go_region_law (fail)
    all_goals
      go_wp2
      go_ret
      exact ⟨by first | (rw [HRR.out]; done) | (rw [HRR.out]; rfl) | simp [HRR.out, Act.put], Bel.drew _⟩
set_option maxHeartbeats 2000000 in
set_option maxRecDepth 100000 in
theorem wrong_1 (w : World) (A : Option Addr) (c : Nat) (l : List Int) (h : CB w A l) (hc : l.length ≤ c) (hb : bytesOk l) (ht : l.length = 1) :
    Calls Tryd.prog 102 #[.slice A l.length c] w fun e w' => e = .returned (.bool (wrongS l)) ∧ Bel w w' := by
  have HC := Lib.hid h
  have HBY := Lib.hid hb
  have hm := h.2.1
  have hl : (l.take 1).length = 1 := by rw [List.length_take]; omega
  have hcv : ∀ W, Bel w W → (convert 49 9 (.slice A 1 c)).run Tryd.prog W = .ok (.string (strOfNums (l.take 1))) W := fun W hb => by
    have := CB.str (c := c) ((HC.out.below hb).take 1 (by omega))
    rw [hl] at this
    exact this
  have cv1 := hcv w (Bel.refl w)
  have cv2 := hcv w.drew (Bel.drew w)
  have hst := str_is (l := l.take 1) (fun x hx => HBY.out x (List.mem_of_mem_take hx)) [71]
  have hnc : (1 : Int) ≤ (c : Int) := by omega
  have hnc2 : 1 ≤ c := by omega
  have hex : (ByteArray.mk #[71, 80, 0]).extract 0 1 = ⟨#[71]⟩ := by first | rfl | decide +kernel
  have HL : Hid (wrongS l = if l.take 3 = magic.take 1 then false else true) := Lib.hid (by
    unfold wrongS
    rw [ht, if_pos (show 1 ≤ 3 by omega)])
  obtain ⟨r, hr⟩ : ∃ r, wrongS l = r := ⟨_, rfl⟩
  rw [hr] at HL
  rw [hr, ht]
  have e3 : l.take 3 = l.take 1 := by first | rfl | rw [List.take_of_length_le (by omega), List.take_of_length_le (by omega)]
  have HE := Lib.hid e3
  by_cases hmg : l.take 1 = magic.take 1
  · have hst2 : ((strOfNums (l.take 1)).toList == [71]) = true := by rw [hst]; simpa [magic] using hmg
    have HRR : Hid (r = false) := Lib.hid (by rw [HL.out, HE.out, if_pos hmg])
    clear hst hmg hl hcv hr e3 ht hm
    go_enter Tryd.func102, Tryd.ntmps102
    go_upto_region 2 with (fail)
    go_region_law (fail)
    all_goals
      go_wp2
      go_ret
      exact ⟨by first | (rw [HRR.out]; done) | (rw [HRR.out]; rfl) | simp [HRR.out, Act.put], Bel.drew _⟩
  · have hst2 : ((strOfNums (l.take 1)).toList == [71]) = false := by rw [hst]; simpa [magic] using hmg
    have HRR : Hid (r = true) := Lib.hid (by rw [HL.out, HE.out, if_neg hmg])
    clear hst hmg hl hcv hr e3 ht hm
    go_enter Tryd.func102, Tryd.ntmps102
    go_upto_region 2 with (fail)
    go_region_law (fail)
    all_goals
      go_wp2
      go_ret
      exact ⟨by first | (rw [HRR.out]; done) | (rw [HRR.out]; rfl) | simp [HRR.out, Act.put], Bel.drew _⟩
set_option maxHeartbeats 2000000 in
set_option maxRecDepth 100000 in
theorem wrong_0 (w : World) (A : Option Addr) (c : Nat) (l : List Int) (h : CB w A l) (hc : l.length ≤ c) (hb : bytesOk l) (ht : l.length = 0) :
    Calls Tryd.prog 102 #[.slice A l.length c] w fun e w' => e = .returned (.bool (wrongS l)) ∧ Bel w w' := by
  have HC := Lib.hid h
  have HBY := Lib.hid hb
  have hm := h.2.1
  have hl : (l.take 0).length = 0 := by rw [List.length_take]; omega
  have hcv : ∀ W, Bel w W → (convert 49 9 (.slice A 0 c)).run Tryd.prog W = .ok (.string (strOfNums (l.take 0))) W := fun W hb => by
    have := CB.str (c := c) ((HC.out.below hb).take 0 (by omega))
    rw [hl] at this
    exact this
  have cv1 := hcv w (Bel.refl w)
  have cv2 := hcv w.drew (Bel.drew w)
  have hst := str_is (l := l.take 0) (fun x hx => HBY.out x (List.mem_of_mem_take hx)) []
  have hez : (strOfNums []).toList.isEmpty = true := by first | rfl | decide +kernel
  have hnc : (0 : Int) ≤ (c : Int) := by omega
  have hnc2 : 0 ≤ c := by omega
  have hex : (ByteArray.mk #[71, 80, 0]).extract 0 0 = ⟨#[]⟩ := by first | rfl | decide +kernel
  have HL : Hid (wrongS l = if l.take 3 = magic.take 0 then false else true) := Lib.hid (by
    unfold wrongS
    rw [ht, if_pos (show 0 ≤ 3 by omega)])
  obtain ⟨r, hr⟩ : ∃ r, wrongS l = r := ⟨_, rfl⟩
  rw [hr] at HL
  rw [hr, ht]
  have e3 : l.take 3 = l.take 0 := by first | rfl | rw [List.take_of_length_le (by omega), List.take_of_length_le (by omega)]
  have HE := Lib.hid e3
  by_cases hmg : l.take 0 = magic.take 0
  · have hst2 : ((strOfNums (l.take 0)).toList == []) = true := by rw [hst]; simp [magic]
    have HRR : Hid (r = false) := Lib.hid (by rw [HL.out, HE.out, if_pos hmg])
    clear hst hmg hl hcv hr e3 ht hm
    go_enter Tryd.func102, Tryd.ntmps102
    go_upto_region 2 with (fail)
    go_region_law (fail)
    all_goals
      go_wp2
      go_ret
      exact ⟨by first | (rw [HRR.out]; done) | (rw [HRR.out]; rfl) | simp [HRR.out, Act.put], Bel.drew _⟩
  · exact absurd rfl hmg
set_option maxHeartbeats 2000000 in
set_option maxRecDepth 100000 in
theorem wrong_4 (w : World) (A : Option Addr) (c : Nat) (l : List Int) (h : CB w A l) (hc : l.length ≤ c) (hb : bytesOk l) (ht : 4 ≤ l.length) :
    Calls Tryd.prog 102 #[.slice A l.length c] w fun e w' => e = .returned (.bool (wrongS l)) ∧ Bel w w' := by
  have HC := Lib.hid h
  have HBY := Lib.hid hb
  have hm := h.2.1
  have hl : (l.take 3).length = 3 := by rw [List.length_take]; omega
  have hcv : ∀ W, Bel w W → (convert 49 9 (.slice A 3 c)).run Tryd.prog W = .ok (.string (strOfNums (l.take 3))) W := fun W hb => by
    have := CB.str (c := c) ((HC.out.below hb).take 3 (by omega))
    rw [hl] at this
    exact this
  have cv1 := hcv w (Bel.refl w)
  have cv2 := hcv w.drew (Bel.drew w)
  have hst := str_is (l := l.take 3) (fun x hx => HBY.out x (List.mem_of_mem_take hx)) [71, 80, 0]
  have hnc : (3 : Int) ≤ (c : Int) := by omega
  have hnc2 : 3 ≤ c := by omega
  have hex : (ByteArray.mk #[71, 80, 0]).extract 0 3 = ⟨#[71, 80, 0]⟩ := by first | rfl | decide +kernel
  obtain ⟨x3, hx3⟩ : ∃ x, l.getD 3 0 = x := ⟨_, rfl⟩
  have hxr : 0 ≤ x3 ∧ x3 < 256 := by
    rw [← hx3, List.getD_eq_getElem?_getD, List.getElem?_eq_getElem (show 3 < l.length by omega)]
    exact hb _ (List.getElem_mem _)
  have HL : Hid (wrongS l = if l.take 3 = magic then flagBad x3 else true) := Lib.hid (by
    unfold wrongS
    rw [show magic.take l.length = magic from List.take_of_length_le (by simp [magic]; omega), hx3, if_neg (show ¬ l.length ≤ 3 by omega)])
  obtain ⟨ad, hA, hcell⟩ := h.at_ 3 (by omega)
  subst hA
  obtain ⟨ad0, hA0, hcell0⟩ := h.at_ 0 (by omega)
  obtain rfl := Option.some.inj hA0
  obtain ⟨b, off, rfl, hlt⟩ := add_none hcell0
  rw [add_mid, hx3] at hcell
  obtain ⟨t, htt⟩ : ∃ t, l.length = t := ⟨_, rfl⟩
  rw [htt] at hm ht ⊢
  have ht3 : (3 : Int) < (t : Int) := by omega
  have ht4 : ¬ (t : Int) ≤ 3 := by omega
  obtain ⟨r, hr⟩ : ∃ r, wrongS l = r := ⟨_, rfl⟩
  rw [hr] at HL ⊢
  by_cases hmg : l.take 3 = magic
  · have hst2 : ((strOfNums (l.take 3)).toList == [71, 80, 0]) = true := by rw [hst]; simpa [magic] using hmg
    obtain ⟨b1, b2, b3, -⟩ := bits_flags x3 hxr
    obtain ⟨v1, hv1⟩ : ∃ v, (Go.bits .andNot .u8 x3 19 != 0) = v := ⟨_, rfl⟩
    obtain ⟨v2, hv2⟩ : ∃ v, (Go.bits .and .u8 x3 2 != 0) = v := ⟨_, rfl⟩
    obtain ⟨v3, hv3⟩ : ∃ v, (Go.bits .and .u8 x3 16 != 0) = v := ⟨_, rfl⟩
    have HRR : Hid (r = (v1 || (v2 && v3))) := Lib.hid (by
      rw [HL.out, if_pos hmg]
      unfold flagBad
      rw [← b1, ← b2, ← b3, hv1, hv2, hv3])
    clear hst hmg hl hcv hr ht hm b1 b2 b3 hx3 htt hcell0 hA0 h hb hxr
    cases v1 <;> cases v2 <;> cases v3
    all_goals
      go_enter Tryd.func102, Tryd.ntmps102
      go_upto_region 2 with (fail)
      go_region_law (fail)
      all_goals
        go_wp2
        go_ret
        exact ⟨by first | (rw [HRR.out]; done) | (rw [HRR.out]; rfl) | simp [HRR.out, Act.put], Bel.drew _⟩
  · have hst2 : ((strOfNums (l.take 3)).toList == [71, 80, 0]) = false := by rw [hst]; simpa [magic] using hmg
    have HRR : Hid (r = true) := Lib.hid (by rw [HL.out, if_neg hmg])
    clear hst hmg hl hcv hr ht hm hx3 htt hcell0 hA0 h hb hxr
    go_enter Tryd.func102, Tryd.ntmps102
    go_upto_region 2 with (fail)
    go_region_law (fail)
    all_goals
      go_wp2
      go_ret
      exact ⟨by first | (rw [HRR.out]; done) | (rw [HRR.out]; rfl) | simp [HRR.out, Act.put], Bel.drew _⟩
/-- blob.wrong -/
theorem wrong_calls (w : World) (A : Option Addr) (c : Nat) (l : List Int) (h : CB w A l) (hc : l.length ≤ c) (hb : bytesOk l) :
    Calls Tryd.prog 102 #[.slice A l.length c] w fun e w' => e = .returned (.bool (wrongS l)) ∧ Bel w w' := by
  by_cases h4 : 4 ≤ l.length
  · exact wrong_4 w A c l h hc hb h4
  rcases (by omega : l.length = 0 ∨ l.length = 1 ∨ l.length = 2 ∨ l.length = 3) with e | e | e | e
  · exact wrong_0 w A c l h hc hb e
  · exact wrong_1 w A c l h hc hb e
  · exact wrong_2 w A c l h hc hb e
  · exact wrong_3 w A c l h hc hb e
end Go.Proofs.YtfknhpgelleenaaDoor.K
end
