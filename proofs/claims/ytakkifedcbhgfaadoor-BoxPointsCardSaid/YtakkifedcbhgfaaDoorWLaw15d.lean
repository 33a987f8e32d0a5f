/- The law BoxOf. -/
import Derived.Test.YtakkifedcbhgfaaDoorKB
import Derived.Handy
import Derived.Test.YtakkifedcbhgfaaDoorWBox10
import Derived.Test.YtakkifedcbhgfaaDoorWLive15
namespace Go.Proofs.YtakkifedcbhgfaaDoor.K
open Go Go.RowKit Go.Proofs.YtakkifedcbhgfaaDoorW.PrintWords Go.Proofs.YtakkifedcbhgfaaDoorW.PrintLast Go.Proofs.YtakkifedcbhgfaaDoorW.PrintMore
set_option linter.unusedVariables false
set_option linter.unusedSimpArgs false
open Go.Proofs.YtakkifedcbhgfaaDoor.MShape (Sh flats)
theorem ShB.isSh {B k : Nat} (hk : B ≤ k) {W : World} : ∀ (d : Nat) {c : Value × Value × Value} {s : Sh}, ShB B W d c s → IsSh k W d c s.flat
  | 0, _, _, hs => hs.elim
  | d + 1, c, .mk kind pts ps, ⟨h1, ⟨a1, p1, e1, _, m1, x1⟩, cs, h3, ⟨a2, p2, e2, _, m2, x2⟩, h5⟩ => by
    have hz : (cs.zip (ps.map Sh.flat)).map (·.1) = cs := by rw [List.map_fst_zip]; rw [List.length_map]; omega
    have hz2 : (cs.zip (ps.map Sh.flat)).map (·.2) = ps.map Sh.flat := by rw [List.map_snd_zip]; rw [List.length_map]; omega
    have hf : ∀ l : List Sh, (l.map Sh.flat).flatten = flats l := fun l => by
      induction l with
      | nil => rfl
      | cons a l ih => simp [flats, ih]
    have hP1 : PtsAt k W c.2.1 pts := ⟨a1, p1, e1, m1, fun i hi => by
      obtain ⟨b, off, e, hb, hc⟩ := x1 i hi
      exact ⟨b, off, e, by omega, hc⟩⟩
    have hP2 : PartsAt k W c.2.2 cs := ⟨a2, p2, e2, m2, fun i hi => by
      obtain ⟨b, off, e, hb, hc⟩ := x2 i hi
      exact ⟨b, off, e, by omega, hc⟩⟩
    refine ⟨kind, pts, cs.zip (ps.map Sh.flat), h1, hP1, by rw [hz]; exact hP2, fun p hp => ?_, ?_⟩
    · obtain ⟨i, hi, rfl⟩ := List.mem_iff_getElem.1 hp
      rw [List.length_zip, List.length_map] at hi
      have hi1 : i < cs.length := by omega
      have hi2 : i < ps.length := by omega
      rw [List.getElem_zip, List.getElem_map]
      exact ShB.isSh hk d (h5 i cs[i] ps[i] (List.getElem?_eq_getElem hi1) (List.getElem?_eq_getElem hi2))
    · rw [hz2, hf]; unfold Sh.flat; rfl
theorem boxOf_is (D B : Nat) (s : Sh) (c : Value × Value × Value) (r : MBox.Bx) (hr : boxOf s.flat = r) (w : World) (hB : B ≤ w.heap.size) (hs : ShB B w D c s) :
    Calls Tryd.prog 28 #[.agg #[c.1, c.2.1, c.2.2]] w fun e w' => e = .returned (.agg #[.bool r.no, .int .i64 r.lx, .int .i64 r.ly, .int .i64 r.hx, .int .i64 r.hy]) ∧ Bel w w' := by
  subst hr
  exact boxOf_calls w c D s.flat (fun k hk => ShB.isSh (by omega) D hs)
theorem kSB {wl w w' : World} {g : Nat} {a b c : Value} (hb : Bel w w') (hs : w.cell? ⟨g, 0, none⟩ = some a ∧ w.cell? ⟨g, 1, none⟩ = some b ∧ w.cell? ⟨g, 2, none⟩ = some c ∧ Bel wl w) :
    w'.cell? ⟨g, 0, none⟩ = some a ∧ w'.cell? ⟨g, 1, none⟩ = some b ∧ w'.cell? ⟨g, 2, none⟩ = some c ∧ Bel wl w' := ⟨kc hb hs.1, kc hb hs.2.1, kc hb hs.2.2.1, bthen hs.2.2.2 hb⟩
theorem bel_of {wl w : World} {g : Nat} {a b c : Value} (hs : w.cell? ⟨g, 0, none⟩ = some a ∧ w.cell? ⟨g, 1, none⟩ = some b ∧ w.cell? ⟨g, 2, none⟩ = some c ∧ Bel wl w) : Bel wl w := hs.2.2.2
set_option maxHeartbeats 8000000 in
set_option maxRecDepth 100000 in
theorem BoxOf_calls {w : World} (cs : Array Value) (s : Sh) (hK : KSh.K w s cs.toList) (hq : shOk s) (A : Option Addr) (c : Nat) (l : List (Bool × (Int × Int) × (Int × Int))) (hC : KBx.C w A l.length l) (hc : l.length ≤ c) (hq' : (∀ x ∈ l, True ∧ ((Lit.int .i64 x.2.1.1).wf = true ∧ (Lit.int .i64 x.2.1.2).wf = true) ∧ ((Lit.int .i64 x.2.2.1).wf = true ∧ (Lit.int .i64 x.2.2.2).wf = true)) ∧ l.length ≤ 9223372036854775807) :
    Calls Tryd.prog 6 #[.agg cs, .slice A l.length c] w fun e w' => e = .returned (.bool true) ∧ Below w.heap.size w w' := by
  obtain ⟨D, c3, ec, hs⟩ := hK
  obtain rfl : cs = #[c3.1, c3.2.1, c3.2.2] := Array.toList_inj.1 ec
  have hlm := hq'.2
  have HL := Lib.hid lives15
  have HLt := Lib.hid (fun W h1 h2 => rLight_calls D s c3 W w.heap.size h1 h2)
  have HO1 := Lib.hid (fun W h1 h2 => boxOf_is D w.heap.size s c3 _ rfl W h1 h2)
  have HO2 : Hid (MShape.light s = true → ∀ W, w.heap.size ≤ W.heap.size → ShB w.heap.size W D c3 s → Calls Tryd.prog 29 #[.agg #[c3.1, c3.2.1, c3.2.2]] W fun e w' => e = .returned (.agg #[.bool (boxOf s.flat).no, .int .i64 (boxOf s.flat).lx, .int .i64 (boxOf s.flat).ly, .int .i64 (boxOf s.flat).hx, .int .i64 (boxOf s.flat).hy]) ∧ Bel W w') := Lib.hid (fun hl W h1 h2 => refOf_calls D s c3 W w.heap.size h1 h2 (by have := (MShape.light_is hl).1; omega))
  have HSH := Lib.hid hs
  have HA1 : Hid (∀ W, Bel w W → Calls Tryd.prog 30 #[.slice A l.length c] W fun e w' => e = .returned (.agg #[.bool (boxAll l).no, .int .i64 (boxAll l).lx, .int .i64 (boxAll l).ly, .int .i64 (boxAll l).hx, .int .i64 (boxAll l).hy]) ∧ Bel W w') := Lib.hid (fun W hb => allB_calls A c l W (Kd.C_below hC hb) hc)
  have HA2 : Hid (∀ W, Bel w W → Calls Tryd.prog 31 #[.slice A l.length c] W fun e w' => e = .returned (.agg #[.bool (boxAll l).no, .int .i64 (boxAll l).lx, .int .i64 (boxAll l).ly, .int .i64 (boxAll l).hx, .int .i64 (boxAll l).hy]) ∧ Bel W w') := Lib.hid (fun W hb => refAllB_calls A c l W (Kd.C_below hC hb) hc)
  obtain ⟨kd, a, n, m, a', n', m', rfl⟩ := hs.forms
  dsimp only at HLt HO1 HO2 ⊢
  have q1 := eqB (boxOf s.flat) (boxOf s.flat)
  have q2 := eqB (boxAll l) (boxAll l)
  rw [MBox.same_refl] at q1 q2
  obtain ⟨ba, hba⟩ : ∃ b, boxAll l = b := ⟨_, rfl⟩
  rw [hba] at HA1 HA2 q2
  obtain ⟨bo, hbo⟩ : ∃ b, boxOf s.flat = b := ⟨_, rfl⟩
  rw [hbo] at HO1 HO2 q1
  clear hba hbo hs hq hq' hC ec
  have Sb := Blk.new w #[.int .i64 kd, .slice a n m, .slice a' n' m'] 46
  have HB : Hid (Below w.heap.size w (w.alloc (.cells #[.int .i64 kd, .slice a n m, .slice a' n' m'] 46))) := Lib.hid (by repeat (first | exact Below.refl _ _ | refine Below.alloc ?_ (by simp <;> omega) _))
  obtain ⟨lt, hlt⟩ : ∃ b, MShape.light s = b := ⟨_, rfl⟩
  rw [hlt] at HLt HO2
  clear hlt
  go_enter Tryd.func6, Tryd.ntmps6
  go_upto_region 1 with (fail)
  obtain ⟨W, hW⟩ : ∃ W, w.alloc (.cells #[.int .i64 kd, .slice a n m, .slice a' n' m'] 46) = W := ⟨_, rfl⟩
  rw [hW] at Sb HB ⊢
  clear hW
  obtain ⟨s0, s1, s2⟩ := Blk.cells3 Sb
  have HCL := Lib.hid (HLt.out W HB.out.size (HSH.out.keep (KeepB.bel HB.out)))
  have LV : Hid (∀ W, Bel w W → Calls Tryd.prog 27 #[] W fun e w' => e = .returned (.bool true) ∧ Bel w w') := Lib.hid (fun W hb => (HL.out W).mono fun e w' h => ⟨h.1, bthen hb h.2⟩)
  clear HLt
  have early : Hid (∀ w', Bel w w' → True) := Lib.hid (fun _ _ => trivial)
  cases lt with
  | false =>
    go_wp2_with (first
      | (go_at_call 27; refine (HL.out _).mono ?_; rintro e w9 ⟨rfl, hb9⟩; have HB9 := Lib.hid (bthen HB2.out hb9); clear hb9)
      | (go_at_call 26; refine (HCL.out).mono ?_; rintro e w2 ⟨rfl, hb2⟩; have HB2 := Lib.hid (bthen HB.out hb2); clear hb2))
    go_ret
    exact ⟨rfl, HB9.out⟩
  | true =>
    by_cases h1 : 100 < l.length
    · have h1' : (100 : Int) < (l.length : Int) := by omega
      go_wp2_with (first
        | (go_at_call 27; refine (HL.out _).mono ?_; rintro e w9 ⟨rfl, hb9⟩; have HB9 := Lib.hid (bthen HB2.out hb9); clear hb9)
        | (go_at_call 26; refine (HCL.out).mono ?_; rintro e w2 ⟨rfl, hb2⟩; have HB2 := Lib.hid (bthen HB.out hb2); clear hb2))
      go_ret
      exact ⟨rfl, HB9.out⟩
    · have h1' : ¬ (100 : Int) < (l.length : Int) := by omega
      go_upto_region 3 with (go_at_call 26; refine (HCL.out).mono ?_; rintro e W2 ⟨rfl, hb2⟩; have HB2 := Lib.hid (bthen HB.out hb2); have S2 := Blk.bel Sb hb2; clear hb2)
      clear s0 s1 s2
      obtain ⟨s0, s1, s2⟩ := Blk.cells3 S2
      have HO2' := Lib.hid (HO2.out (by first | rfl | trivial))
      have hS0 := And.intro s0 (And.intro s1 (And.intro s2 (Bel.refl W2)))
      have kO : Hid (∀ X, Bel W2 X → w.heap.size ≤ X.heap.size ∧ ShB w.heap.size X D (.int .i64 kd, .slice a n m, .slice a' n' m') s) := Lib.hid (fun X hX => ⟨(bthen HB2.out hX).size, HSH.out.keep (KeepB.bel (bthen HB2.out hX))⟩)
      have kA : Hid (∀ X, Bel W2 X → Bel w X) := Lib.hid (fun X hX => bthen HB2.out hX)
      have F1 : Hid (∀ X, Bel W2 X → Calls Tryd.prog 28 #[.agg #[.int .i64 kd, .slice a n m, .slice a' n' m']] X fun e w' => e = .returned (.agg #[.bool bo.no, .int .i64 bo.lx, .int .i64 bo.ly, .int .i64 bo.hx, .int .i64 bo.hy]) ∧ Bel X w') := Lib.hid (fun X hX => HO1.out X (kO.out X hX).1 (kO.out X hX).2)
      have F2 : Hid (∀ X, Bel W2 X → Calls Tryd.prog 29 #[.agg #[.int .i64 kd, .slice a n m, .slice a' n' m']] X fun e w' => e = .returned (.agg #[.bool bo.no, .int .i64 bo.lx, .int .i64 bo.ly, .int .i64 bo.hx, .int .i64 bo.hy]) ∧ Bel X w') := Lib.hid (fun X hX => HO2'.out X (kO.out X hX).1 (kO.out X hX).2)
      go_wp2_with fail
      first | go_region_held3 (fun w' => w'.cell? ⟨w.heap.size, 0, none⟩ = some (.int .i64 kd) ∧ w'.cell? ⟨w.heap.size, 1, none⟩ = some (.slice a n m) ∧ w'.cell? ⟨w.heap.size, 2, none⟩ = some (.slice a' n' m') ∧ Bel W2 w') (first | with_reducible assumption | with_reducible exact kSB hb (by assumption) | with_reducible exact kSB (Bel.drew _) hS0)
        (first
        | (go_at_call 28; refine (F1.out _ (by first | exact Bel.drew _ | exact bel_of (by assumption))).mono ?_; rintro e w' ⟨rfl, hb⟩)
        | (go_at_call 29; refine (F2.out _ (by first | exact Bel.drew _ | exact bel_of (by assumption))).mono ?_; rintro e w' ⟨rfl, hb⟩)
        | (go_at_call 30; refine (HA1.out _ (kA.out _ (by first | exact Bel.drew _ | exact bel_of (by assumption)))).mono ?_; rintro e w' ⟨rfl, hb⟩)
        | (go_at_call 31; refine (HA2.out _ (kA.out _ (by first | exact Bel.drew _ | exact bel_of (by assumption)))).mono ?_; rintro e w' ⟨rfl, hb⟩)
        | (go_at_call 27; refine (HL.out _).mono ?_; rintro e w' ⟨rfl, hb⟩)) | fail
      all_goals
        rename_i hheld
        have HB9 := Lib.hid (bthen HB2.out hheld.2.2.2)
        clear hheld hS0
        go_wp2
        go_ret
        exact ⟨by first | rfl | simp, HB9.out⟩

end Go.Proofs.YtakkifedcbhgfaaDoor.K
