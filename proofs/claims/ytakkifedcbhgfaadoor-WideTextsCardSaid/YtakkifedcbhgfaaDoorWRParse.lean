/- The reference's Parse: what it calls for. -/
import Derived.Test.YtakkifedcbhgfaaDoorBase
import Derived.Handy
import Derived.Test.YtakkifedcbhgfaaDoorWParse
import Derived.Test.YtakkifedcbhgfaaDoorWLaw01c
namespace Go.Proofs.YtakkifedcbhgfaaDoor.K
open Go Go.RowKit Go.Proofs.YtakkifedcbhgfaaDoorW.PrintWords Go.Proofs.YtakkifedcbhgfaaDoorW.PrintLast Go.Proofs.YtakkifedcbhgfaaDoorW.PrintMore
set_option linter.unusedVariables false
set_option linter.unusedSimpArgs false
open Go.Proofs.YtakkifedcbhgfaaDoor.MWide (bt W64 U192 addV subV addOk subOk cry sumO bor difO cmpV width)
open Go.Proofs.YtakkifedcbhgfaaDoor.MText (padD dec strip numOf parseOk parseV canon digs)
theorem bad_zero {l : List Int} (h0 : l[0]? = some 48) (h : 1 < l.length) : parseOk l = false := by
  rw [Bool.eq_false_iff]
  intro hp
  obtain ⟨_, _, hh⟩ := ((MText.parse_iff l).1 hp).1
  rcases hh with hh | hh
  · omega
  · apply hh
    rw [List.head?_eq_getElem?]; exact h0
theorem bad_big10 {l : List Int} {k : Nat} {c : Int} (h : l[k]? = some c) (hd : digs (l.take k)) (hc : 48 ≤ c) (hb : 6277101735386680763835789423207666416102355444464034512896 ≤ 10 * numOf (l.take k)) : parseOk l = false :=
  bad_big (k := k + 1) (by rw [num_next h]; omega)
theorem kcz {w w' : World} {g : Nat} {a b c : Value} (hb : Bel w w') (hh : w.cell? ⟨g, 0, none⟩ = some a ∧ w.cell? ⟨g, 1, none⟩ = some b ∧ w.cell? ⟨g, 2, none⟩ = some c) :
    w'.cell? ⟨g, 0, none⟩ = some a ∧ w'.cell? ⟨g, 1, none⟩ = some b ∧ w'.cell? ⟨g, 2, none⟩ = some c := ⟨kc hb hh.1, kc hb hh.2.1, kc hb hh.2.2⟩
theorem kcz_set3 {w : World} {g j : Nat} {a b c x y z : Value} (hg : g ≠ j) (hh : w.cell? ⟨g, 0, none⟩ = some a ∧ w.cell? ⟨g, 1, none⟩ = some b ∧ w.cell? ⟨g, 2, none⟩ = some c) :
    let W := ((w.setCell ⟨j, 0, none⟩ x).setCell ⟨j, 1, none⟩ y).setCell ⟨j, 2, none⟩ z
    W.cell? ⟨g, 0, none⟩ = some a ∧ W.cell? ⟨g, 1, none⟩ = some b ∧ W.cell? ⟨g, 2, none⟩ = some c := ⟨cell_set3_ne hg hh.1, cell_set3_ne hg hh.2.1, cell_set3_ne hg hh.2.2⟩
/-- What so many times a number come to, as far as there is room. -/
def SumSt (z v : Int) (j : Nat) (ok : Bool) : Prop := (ok = true ∧ z = j * v ∧ j * v < 6277101735386680763835789423207666416102355444464034512896) ∨ (ok = false ∧ 6277101735386680763835789423207666416102355444464034512896 ≤ j * v)
set_option maxHeartbeats 4000000 in
set_option maxRecDepth 100000 in
theorem refParse_calls (s : ByteArray) (w : World) (hs : s.size ≤ 9223372036854775807) :
    Calls Tryd.prog 21 #[.string s] w fun e w' => e = .returned (.tuple #[.agg #[.int .u64 (MWide.w0 (parseV (bytesOf s))), .int .u64 (MWide.w1 (parseV (bytesOf s))), .int .u64 (MWide.w2 (parseV (bytesOf s)))], .bool (parseOk (bytesOf s))]) ∧ Bel w w' := by
  have hno : parseOk (bytesOf s) = false → parseV (bytesOf s) = 0 := fun h => by unfold parseV; rw [if_neg (by rw [h]; decide)]
  have HNO := Lib.hid hno
  have hbl := bytesOf_length s
  clear hno
  by_cases h0 : s.size < 1
  · have hp : parseOk (bytesOf s) = false := by
      have : bytesOf s = [] := List.eq_nil_of_length_eq_zero (by omega)
      rw [this]; rfl
    have HP := Lib.hid hp
    clear hp hbl
    go_enter Tryd.func21, Tryd.ntmps21
    go_wp2
    refine bodyPost_ret (v := .tuple #[.agg #[.int .u64 (MWide.w0 (parseV (bytesOf s))), .int .u64 (MWide.w1 (parseV (bytesOf s))), .int .u64 (MWide.w2 (parseV (bytesOf s)))], .bool (parseOk (bytesOf s))]) ?_ rfl ⟨rfl, by repeat (first | exact Below.refl _ _ | refine Below.drew ?_ | refine Below.alloc ?_ (by simp <;> omega) _)⟩
    rw [HP.out, HNO.out HP.out]
    simp [results, Tryd.results21, go_sem]
    exact ⟨rfl, rfl, rfl⟩
  by_cases h60 : 60 < s.size
  · have hp : parseOk (bytesOf s) = false := by
      rw [Bool.eq_false_iff]; intro h
      have := ((MText.parse_iff _).1 h).2.1
      omega
    have HP := Lib.hid hp
    clear hp hbl
    go_enter Tryd.func21, Tryd.ntmps21
    go_wp2
    refine bodyPost_ret (v := .tuple #[.agg #[.int .u64 (MWide.w0 (parseV (bytesOf s))), .int .u64 (MWide.w1 (parseV (bytesOf s))), .int .u64 (MWide.w2 (parseV (bytesOf s)))], .bool (parseOk (bytesOf s))]) ?_ rfl ⟨rfl, by repeat (first | exact Below.refl _ _ | refine Below.drew ?_ | refine Below.alloc ?_ (by simp <;> omega) _)⟩
    rw [HP.out, HNO.out HP.out]
    simp [results, Tryd.results21, go_sem]
    exact ⟨rfl, rfl, rfl⟩
  have HBL := Lib.hid hbl
  clear hbl
  go_enter Tryd.func21, Tryd.ntmps21
  go_wp2
  go_loopw [6] (fun i wr => ∃ k : Nat, k ≤ s.size ∧ i = .int .i64 k ∧ Hid (digs ((bytesOf s).take k)) ∧ Hid (numOf ((bytesOf s).take k) < 6277101735386680763835789423207666416102355444464034512896) ∧ Hid (0 < k → s.size = 1 ∨ (bytesOf s)[0]? ≠ some 48) ∧ Hid (Below w.heap.size w wr) ∧ Blk wr w.heap.size #[.int .u64 0, .int .u64 0, .int .u64 0] 24 ∧ Blk wr (w.heap.size + 1) #[.int .u64 (MWide.w0 (numOf ((bytesOf s).take k))), .int .u64 (MWide.w1 (numOf ((bytesOf s).take k))), .int .u64 (MWide.w2 (numOf ((bytesOf s).take k)))] 24 ∧ Blk wr (w.heap.size + 1 + 1) #[.int .u64 10, .int .u64 0, .int .u64 0] 24) (fun i _ => s.size - (intOf i).toNat)
  case atStart =>
    refine ⟨0, by omega, rfl, Lib.hid (fun x hx => by simp at hx), Lib.hid (by rw [List.take_zero]; decide), Lib.hid (fun h => by omega), Lib.hid (by repeat (first | exact Below.refl _ _ | refine Below.drew ?_ | refine Below.alloc ?_ (by simp <;> omega) _)), ?_, ?_, ?_⟩
    · exact ((Blk.new w _ _).alloc _).alloc _
    · exact (Blk.new_at (by simp) _ _).alloc _
    · exact Blk.new_at (by simp) _ _
  case round =>
    obtain ⟨k, hk, rfl, HD, HT, HH, HBel, hr, ho, ht⟩ := hrel
    obtain ⟨r0, r1, r2⟩ := hr.cells3
    obtain ⟨o0, o1, o2⟩ := ho.cells3
    obtain ⟨t0, t1, t2⟩ := ht.cells3
    have f0 := hr.froz 0; have f1 := hr.froz 1; have f2 := hr.froz 2
    by_cases hp : k < s.size
    · have hbk := bytes_get s k hp
      obtain ⟨c, hc⟩ : ∃ c, (s[k]'hp).toNat = c := ⟨_, rfl⟩
      rw [hc] at hbk
      have HBK := Lib.hid hbk
      clear hbk
      by_cases hlo : c < 48
      · have HP : Hid (parseOk (bytesOf s) = false) := Lib.hid (bad_char HBK.out (by omega))
        have b1 : decide (((s[k]'hp).toNat : Int) < 48) = true := by rw [hc]; exact decide_eq_true (by omega)
        clear hc hlo
        go_wp2
        refine bodyPost_ret (v := .tuple #[.agg #[.int .u64 (MWide.w0 (parseV (bytesOf s))), .int .u64 (MWide.w1 (parseV (bytesOf s))), .int .u64 (MWide.w2 (parseV (bytesOf s)))], .bool (parseOk (bytesOf s))]) ?_ rfl ⟨rfl, below_set3 HBel.out (Nat.le_refl _) _ _ _⟩
        rw [HP.out, HNO.out HP.out]
        obtain ⟨q0, q1, q2⟩ := (Blk.set3 hr (x' := .int .u64 0) (y' := .int .u64 0) (z' := .int .u64 0)).cells3
        simp [results, Tryd.results21, go_sem, q0, q1, q2]
        exact ⟨rfl, rfl, rfl⟩

      by_cases hhi : 57 < c
      · have HP : Hid (parseOk (bytesOf s) = false) := Lib.hid (bad_char HBK.out (by omega))
        have b1 : decide (((s[k]'hp).toNat : Int) < 48) = false := by rw [hc]; exact decide_eq_false (by omega)
        have b2 : decide (57 < ((s[k]'hp).toNat : Int)) = true := by rw [hc]; exact decide_eq_true (by omega)
        clear hc hlo hhi
        go_wp2
        refine bodyPost_ret (v := .tuple #[.agg #[.int .u64 (MWide.w0 (parseV (bytesOf s))), .int .u64 (MWide.w1 (parseV (bytesOf s))), .int .u64 (MWide.w2 (parseV (bytesOf s)))], .bool (parseOk (bytesOf s))]) ?_ rfl ⟨rfl, below_set3 HBel.out (Nat.le_refl _) _ _ _⟩
        rw [HP.out, HNO.out HP.out]
        obtain ⟨q0, q1, q2⟩ := (Blk.set3 hr (x' := .int .u64 0) (y' := .int .u64 0) (z' := .int .u64 0)).cells3
        simp [results, Tryd.results21, go_sem, q0, q1, q2]
        exact ⟨rfl, rfl, rfl⟩

      have b1 : decide (((s[k]'hp).toNat : Int) < 48) = false := by rw [hc]; exact decide_eq_false (by omega)
      have b2 : decide (57 < ((s[k]'hp).toNat : Int)) = false := by rw [hc]; exact decide_eq_false (by omega)
      by_cases hbad : k = 0 ∧ c = 48 ∧ 1 < s.size
      · obtain ⟨hk0, hc48, hsz⟩ := hbad
        have HP : Hid (parseOk (bytesOf s) = false) := Lib.hid (bad_zero (by have := HBK.out; rw [hk0, hc48] at this; exact this) (by rw [HBL.out]; exact hsz))
        have b3 : ((k : Int) == 0) = true := by rw [hk0]; rfl
        have b4 : (((s[k]'hp).toNat : Int) == 48) = true := by rw [hc, hc48]; rfl
        clear hc hlo hhi hk0 hc48
        go_wp2
        refine bodyPost_ret (v := .tuple #[.agg #[.int .u64 (MWide.w0 (parseV (bytesOf s))), .int .u64 (MWide.w1 (parseV (bytesOf s))), .int .u64 (MWide.w2 (parseV (bytesOf s)))], .bool (parseOk (bytesOf s))]) ?_ rfl ⟨rfl, below_set3 HBel.out (Nat.le_refl _) _ _ _⟩
        rw [HP.out, HNO.out HP.out]
        obtain ⟨q0, q1, q2⟩ := (Blk.set3 hr (x' := .int .u64 0) (y' := .int .u64 0) (z' := .int .u64 0)).cells3
        simp [results, Tryd.results21, go_sem, q0, q1, q2]
        exact ⟨rfl, rfl, rfl⟩

      have hdg := Lib.hid (digs_next HBK.out HD.out (by omega))
      have hnum := num_next HBK.out
      have hnn := MText.numOf_nonneg HD.out
      have hHH : Hid (0 < k + 1 → s.size = 1 ∨ (bytesOf s)[0]? ≠ some 48) := Lib.hid (fun _ => by
        by_cases hk0 : 0 < k
        · exact HH.out hk0
        · have hk0' : k = 0 := by omega
          by_cases hsz : s.size = 1
          · exact .inl hsz
          · right
            have h := HBK.out
            rw [hk0'] at h
            rw [h]
            intro h2
            have h3 := Option.some.inj h2
            exact hbad ⟨hk0', by omega, by omega⟩)
      have hover : 6277101735386680763835789423207666416102355444464034512896 ≤ 10 * numOf ((bytesOf s).take k) → parseOk (bytesOf s) = false := fun h => bad_big10 HBK.out HD.out (by omega) h
      obtain ⟨v, hv⟩ : ∃ v, numOf ((bytesOf s).take k) = v := ⟨_, rfl⟩
      rw [hv] at ho o0 o1 o2 hnum hnn HT hover
      have hV : Hid (U192 v) := Lib.hid ⟨hnn, HT.out⟩
      have HNUM := Lib.hid hnum
      have HOV := Lib.hid hover
      have hg : k ≠ 0 ∨ (k = 0 ∧ c ≠ 48) ∨ (k = 0 ∧ c = 48 ∧ s.size = 1) := by
        by_cases hk0 : k = 0
        · by_cases hc48 : c = 48
          · exact .inr (.inr ⟨hk0, hc48, by
              have : ¬ 1 < s.size := fun h => hbad ⟨hk0, hc48, h⟩
              omega⟩)
          · exact .inr (.inl ⟨hk0, hc48⟩)
        · exact .inl hk0
      clear hv hnum hover hbad
      have hfacts : (((k : Int) == 0) = false) ∨ ((((k : Int) == 0) = true) ∧ ((((s[k]'hp).toNat : Int) == 48) = false)) ∨ ((((k : Int) == 0) = true) ∧ ((((s[k]'hp).toNat : Int) == 48) = true) ∧ (decide (1 < (s.size : Int)) = false)) := by
        rcases hg with h | ⟨h, h2⟩ | ⟨h, h2, h3⟩
        · left; rw [beq_eq_false_iff_ne]; omega
        · right; left; refine ⟨by rw [h]; rfl, ?_⟩; rw [hc, beq_eq_false_iff_ne]; omega
        · right; right; exact ⟨by rw [h]; rfl, by rw [hc, h2]; rfl, decide_eq_false (by omega)⟩
      have HC := Lib.hid hc
      clear hg hc
      rcases hfacts with b3 | ⟨b3, b4⟩ | ⟨b3, b4, b5⟩
      all_goals
        go_upto_region 11 with (fail)
        have S0 := Blk.new wr #[.int .u64 0, .int .u64 0, .int .u64 0] 24
        have hr1 := hr.alloc (.cells #[.int .u64 0, .int .u64 0, .int .u64 0] 24)
        have ho1 := ho.alloc (.cells #[.int .u64 0, .int .u64 0, .int .u64 0] 24)
        have ht1 := ht.alloc (.cells #[.int .u64 0, .int .u64 0, .int .u64 0] 24)
        have HB1 := Lib.hid (HBel.out.alloc HBel.out.size (.cells #[.int .u64 0, .int .u64 0, .int .u64 0] 24))
        have hg1 : w.heap.size + 1 + 1 < wr.heap.size := ht.lt
        have hg0 : w.heap.size ≤ wr.heap.size := by omega
        obtain ⟨W, hW⟩ : ∃ W, wr.alloc (.cells #[.int .u64 0, .int .u64 0, .int .u64 0] 24) = W := ⟨_, rfl⟩
        rw [hW] at S0 hr1 ho1 ht1 HB1 ⊢
        obtain ⟨g, hgg⟩ : ∃ g, wr.heap.size = g := ⟨_, rfl⟩
        rw [hgg] at S0 hg1 hg0 ⊢
        clear hW hgg r0 r1 r2 o0 o1 o2 t0 t1 t2 f0 f1 f2 hr ho ht HBel
        go_wp2_with fail
        go_loopw [8, 9] (fun okv jv W' => ∃ j : Nat, j ≤ 10 ∧ jv = .int .u64 j ∧ Hid (Below w.heap.size w W') ∧ Blk W' w.heap.size #[.int .u64 0, .int .u64 0, .int .u64 0] 24 ∧ Blk W' (w.heap.size + 1) #[.int .u64 (MWide.w0 v), .int .u64 (MWide.w1 v), .int .u64 (MWide.w2 v)] 24 ∧ Blk W' (w.heap.size + 1 + 1) #[.int .u64 10, .int .u64 0, .int .u64 0] 24 ∧ ∃ ok z, okv = .bool ok ∧ Blk W' g #[.int .u64 (MWide.w0 z), .int .u64 (MWide.w1 z), .int .u64 (MWide.w2 z)] 24 ∧ Hid (SumSt z v j ok)) (fun _ jv _ => 10 - (intOf jv).toNat)
        case atStart => exact ⟨0, by omega, rfl, HB1, hr1, ho1, ht1, true, 0, rfl, S0, Lib.hid (.inl ⟨rfl, by simp, by simp⟩)⟩
        case round =>
          obtain ⟨j, hj, rfl, HBJ, hr, ho, ht, ok, z, rfl, hz, HZ⟩ := hrel
          obtain ⟨r0, r1, r2⟩ := hr.cells3
          obtain ⟨o0, o1, o2⟩ := ho.cells3
          obtain ⟨t0, t1, t2⟩ := ht.cells3
          obtain ⟨z0, z1, z2⟩ := hz.cells3
          have f0 := hr.froz 0; have f1 := hr.froz 1; have f2 := hr.froz 2
          cases ok with
          | false =>
            have hbig : 6277101735386680763835789423207666416102355444464034512896 ≤ 10 * v := by
              rcases HZ.out with ⟨h, _⟩ | ⟨_, h⟩
              · cases h
              · have h2 : (j : Int) * v ≤ 10 * v := Int.mul_le_mul_of_nonneg_right (by omega) hV.out.1
                omega
            have HP := Lib.hid (HOV.out hbig)
            clear hbig
            by_cases hj10 : j < 10
            all_goals
              go_wp2
              refine bodyPost_ret (v := .tuple #[.agg #[.int .u64 (MWide.w0 (parseV (bytesOf s))), .int .u64 (MWide.w1 (parseV (bytesOf s))), .int .u64 (MWide.w2 (parseV (bytesOf s)))], .bool (parseOk (bytesOf s))]) ?_ rfl ⟨rfl, below_set3 HBJ.out (Nat.le_refl _) _ _ _⟩
              rw [HP.out, HNO.out HP.out]
              obtain ⟨q0, q1, q2⟩ := (Blk.set3 hr (x' := .int .u64 0) (y' := .int .u64 0) (z' := .int .u64 0)).cells3
              simp [results, Tryd.results21, go_sem, q0, q1, q2]
              exact ⟨rfl, rfl, rfl⟩

          | true =>
            have hzz : z = j * v ∧ j * v < 6277101735386680763835789423207666416102355444464034512896 := by
              rcases HZ.out with ⟨_, h⟩ | ⟨h, _⟩
              · exact h
              · cases h
            have hjv0 : 0 ≤ (j : Int) * v := Int.mul_nonneg (by omega) hV.out.1
            by_cases hj10 : j < 10
            · have hs1 : ((j + 1 : Nat) : Int) * v = j * v + v := by rw [Int.natCast_add, Int.add_mul]; simp
              have HS1 := Lib.hid hs1
              have hzu : U192 z := ⟨by omega, by omega⟩
              have HA := Lib.hid (fun w => refAdd_calls z v w hzu hV.out)
              by_cases hov : z + v < 6277101735386680763835789423207666416102355444464034512896
              · have hok : addOk z v = true := by unfold addOk; exact decide_eq_true hov
                have hav : addV z v = z + v := by unfold addV; rw [if_pos hok]
                rw [hok, hav] at HA
                have HN : Hid (SumSt (z + v) v (j + 1) true) := Lib.hid (.inl ⟨rfl, by rw [hs1]; omega, by rw [hs1]; omega⟩)
                clear hzz hs1 hzu hov hok hav HZ hjv0
                go_wp2_with fail
                refine (HA.out _).mono ?_
                rintro e W3 ⟨rfl, hb3⟩
                have hz3 := hz.bel hb3
                have HB3 := Lib.hid (bthen HBJ.out hb3)
                have hr3 := hr.bel hb3
                have ho3 := ho.bel hb3
                have ht3 := ht.bel hb3
                clear hb3 r0 r1 r2 o0 o1 o2 t0 t1 t2 z0 z1 z2 f0 f1 f2
                obtain ⟨z0, z1, z2⟩ := hz3.cells3
                have f0 := hz3.froz 0; have f1 := hz3.froz 1; have f2 := hz3.froz 2
                go_wp2_with fail
                go_roundw
                case rel => exact ⟨j + 1, by omega, by go_num, Lib.hid (below_set3 HB3.out hg0 _ _ _), hr3.set3_ne (by omega), ho3.set3_ne (by omega), ht3.set3_ne (by omega), true, z + v, rfl, hz3.set3, HN⟩
                case measure => simp [intOf]; omega
              · have hok : addOk z v = false := by unfold addOk; exact decide_eq_false hov
                have hav : addV z v = 0 := by unfold addV; rw [if_neg (by rw [hok]; decide)]
                rw [hok, hav] at HA
                have HN : Hid (SumSt 0 v (j + 1) false) := Lib.hid (.inr ⟨rfl, by rw [hs1]; omega⟩)
                clear hzz hs1 hzu hov hok hav HZ hjv0
                go_wp2_with fail
                refine (HA.out _).mono ?_
                rintro e W3 ⟨rfl, hb3⟩
                have hz3 := hz.bel hb3
                have HB3 := Lib.hid (bthen HBJ.out hb3)
                have hr3 := hr.bel hb3
                have ho3 := ho.bel hb3
                have ht3 := ht.bel hb3
                clear hb3 r0 r1 r2 o0 o1 o2 t0 t1 t2 z0 z1 z2 f0 f1 f2
                obtain ⟨z0, z1, z2⟩ := hz3.cells3
                have f0 := hz3.froz 0; have f1 := hz3.froz 1; have f2 := hz3.froz 2
                go_wp2_with fail
                go_roundw
                case rel => exact ⟨j + 1, by omega, by go_num, Lib.hid (below_set3 HB3.out hg0 _ _ _), hr3.set3_ne (by omega), ho3.set3_ne (by omega), ht3.set3_ne (by omega), false, 0, rfl, hz3.set3, HN⟩
                case measure => simp [intOf]; omega
            · have hj' : j = 10 := by omega
              subst hj'
              go_upto_region 17 with (fail)
              obtain ⟨hz1, hz2⟩ := hzz
              have hd64 : W64 ((c : Int) - 48) := ⟨by omega, by omega⟩
              have hzu : U192 z := ⟨by omega, by omega⟩
              have HA := Lib.hid (fun w => refAdd_calls z ((c : Int) - 48) w hzu (MWide.u64_u hd64))
              rw [MWide.w0_64' hd64, MWide.w1_64' hd64, MWide.w2_64' hd64] at HA
              have hch : Hid (((s[k]'hp).toNat : Int) = c) := Lib.hid (by rw [HC.out])
              have hc48 : 48 ≤ ((s[k]'hp).toNat : Int) := by rw [hch.out]; omega
              have hc57 : ((s[k]'hp).toNat : Int) ≤ 57 := by rw [hch.out]; omega
              rw [← hch.out] at HA
              have hnx : numOf ((bytesOf s).take (k + 1)) = z + (((s[k]'hp).toNat : Int) - 48) := by rw [HNUM.out, hch.out]; omega
              obtain ⟨ok2, hok2⟩ : ∃ x, addOk z (((s[k]'hp).toNat : Int) - 48) = x := ⟨_, rfl⟩
              obtain ⟨z3, hz3⟩ : ∃ x, addV z (((s[k]'hp).toNat : Int) - 48) = x := ⟨_, rfl⟩
              rw [hok2, hz3] at HA
              have HNX := Lib.hid hnx
              have HOK2 := Lib.hid hok2
              have HZ3 := Lib.hid hz3
              clear hz1 hz2 hd64 hzu hnx hok2 hz3 HZ hjv0
              have HW : Hid (IntKind.u64.wrap (IntKind.u8.wrap (((s[k]'hp).toNat : Int) - 48)) = ((s[k]'hp).toNat : Int) - 48) := Lib.hid (by rw [IntKind.wrap_u64, IntKind.wrap_u8]; omega)
              have hS0 := And.intro z0 (And.intro z1 z2)
              go_region_held3 (fun w' => w'.cell? ⟨g, 0, none⟩ = some (.int .u64 (MWide.w0 z)) ∧ w'.cell? ⟨g, 1, none⟩ = some (.int .u64 (MWide.w1 z)) ∧ w'.cell? ⟨g, 2, none⟩ = some (.int .u64 (MWide.w2 z))) (first | with_reducible exact kcz hb (by assumption) | with_reducible exact kcz (Bel.drew _) hS0 | with_reducible exact kcz_set3 (by omega) (by assumption))
                (first
                  | (go_at_call 35; rw [HW.out]; refine (HA.out _).mono ?_; rintro e w' ⟨rfl, hb⟩; have O3 := Blk.bel (Blk.drew ho) hb; obtain ⟨o0, o1, o2⟩ := O3.cells3; have p0 := O3.froz 0; have p1 := O3.froz 1; have p2 := O3.froz 2))
              all_goals
                rename_i hheld
                clear hheld
                have HB4 := Lib.hid (bthen HBJ.out.drew hb)
                have hr4 := (Blk.bel (Blk.drew hr) hb).set3_ne (j := w.heap.size + 1) (by omega) (x' := .int .u64 (MWide.w0 z3)) (y' := .int .u64 (MWide.w1 z3)) (z' := .int .u64 (MWide.w2 z3))
                have ht4 := (Blk.bel (Blk.drew ht) hb).set3_ne (j := w.heap.size + 1) (by omega) (x' := .int .u64 (MWide.w0 z3)) (y' := .int .u64 (MWide.w1 z3)) (z' := .int .u64 (MWide.w2 z3))
                have ho4 := O3.set3 (x' := .int .u64 (MWide.w0 z3)) (y' := .int .u64 (MWide.w1 z3)) (z' := .int .u64 (MWide.w2 z3))
                have HB5 := Lib.hid (below_set3 (g := w.heap.size + 1) HB4.out (by omega) (.int .u64 (MWide.w0 z3)) (.int .u64 (MWide.w1 z3)) (.int .u64 (MWide.w2 z3)))
                obtain ⟨W4, hW4⟩ : ∃ W, ((w'.setCell ⟨w.heap.size + 1, 0, none⟩ (.int .u64 (MWide.w0 z3))).setCell ⟨w.heap.size + 1, 1, none⟩ (.int .u64 (MWide.w1 z3))).setCell ⟨w.heap.size + 1, 2, none⟩ (.int .u64 (MWide.w2 z3)) = W := ⟨_, rfl⟩
                rw [hW4] at hr4 ht4 ho4 HB5 ⊢
                clear hW4 o0 o1 o2 p0 p1 p2 O3 hb HB4 r0 r1 r2 t0 t1 t2 z0 z1 z2 f0 f1 f2 hS0 hr ho ht hz HBJ HA HW
                cases ok2 with
                | true =>
                  have hsum : z + (((s[k]'hp).toNat : Int) - 48) < 6277101735386680763835789423207666416102355444464034512896 := of_decide_eq_true HOK2.out
                  have hz3n : z3 = numOf ((bytesOf s).take (k + 1)) := by
                    rw [← HZ3.out, HNX.out]; unfold addV; rw [if_pos HOK2.out]
                  have HT2 : Hid (numOf ((bytesOf s).take (k + 1)) < 6277101735386680763835789423207666416102355444464034512896) := Lib.hid (by rw [HNX.out]; exact hsum)
                  rw [hz3n] at ho4
                  clear hsum hz3n HNX HOK2 HZ3
                  go_wp2_with fail
                  go_roundw
                  case rel => exact ⟨k + 1, by omega, by go_num, hdg, HT2, hHH, HB5, hr4, ho4, ht4⟩
                  case measure => simp [intOf]; omega
                | false =>
                  have hsum : 6277101735386680763835789423207666416102355444464034512896 ≤ z + (((s[k]'hp).toNat : Int) - 48) := by
                    have := of_decide_eq_false HOK2.out
                    omega
                  have HP : Hid (parseOk (bytesOf s) = false) := Lib.hid (bad_big (k := k + 1) (by rw [HNX.out]; exact hsum))
                  obtain ⟨r0, r1, r2⟩ := hr4.cells3
                  have f0 := hr4.froz 0; have f1 := hr4.froz 1; have f2 := hr4.froz 2
                  clear hsum HNX HOK2 HZ3
                  go_wp2_with fail
                  refine bodyPost_ret (v := .tuple #[.agg #[.int .u64 (MWide.w0 (parseV (bytesOf s))), .int .u64 (MWide.w1 (parseV (bytesOf s))), .int .u64 (MWide.w2 (parseV (bytesOf s)))], .bool (parseOk (bytesOf s))]) ?_ rfl ⟨rfl, below_set3 HB5.out (Nat.le_refl _) _ _ _⟩
                  rw [HP.out, HNO.out HP.out]
                  obtain ⟨q0, q1, q2⟩ := (Blk.set3 hr4 (x' := .int .u64 0) (y' := .int .u64 0) (z' := .int .u64 0)).cells3
                  simp [results, Tryd.results21, go_sem, q0, q1, q2]
                  exact ⟨rfl, rfl, rfl⟩
    · have hkk : k = s.size := by omega
      subst hkk
      have hall : (bytesOf s).take s.size = bytesOf s := List.take_of_length_le (by rw [HBL.out]; omega)
      rw [hall] at HD HT ho o0 o1 o2
      have hok : parseOk (bytesOf s) = true := by
        refine (MText.parse_iff _).2 ⟨⟨?_, HD.out, ?_⟩, by rw [HBL.out]; omega, HT.out⟩
        · intro h
          have h1 := HBL.out
          rw [h] at h1
          simp at h1
          omega
        · rcases HH.out (by omega) with h | h
          · left; rw [HBL.out]; exact h
          · right; rw [List.head?_eq_getElem?]; exact h
      have hpv : parseV (bytesOf s) = numOf (bytesOf s) := by unfold parseV; rw [if_pos hok]
      have HOK := Lib.hid hok
      have HPV := Lib.hid hpv
      clear hall hok hpv
      go_wp2
      refine bodyPost_ret (v := .tuple #[.agg #[.int .u64 (MWide.w0 (parseV (bytesOf s))), .int .u64 (MWide.w1 (parseV (bytesOf s))), .int .u64 (MWide.w2 (parseV (bytesOf s)))], .bool (parseOk (bytesOf s))]) ?_ rfl ⟨rfl, below_set3 HBel.out (Nat.le_refl _) _ _ _⟩
      rw [HOK.out, HPV.out]
      obtain ⟨q0, q1, q2⟩ := (hr.set3 (x' := .int .u64 (MWide.w0 (numOf (bytesOf s)))) (y' := .int .u64 (MWide.w1 (numOf (bytesOf s)))) (z' := .int .u64 (MWide.w2 (numOf (bytesOf s))))).cells3
      simp [results, Tryd.results21, go_sem, q0, q1, q2]

end Go.Proofs.YtakkifedcbhgfaaDoor.K
