/- The law BoxPoints. -/
import Derived.Test.YtakkifedcbhgfaaDoorKB
import Derived.Handy
import Derived.Test.YtakkifedcbhgfaaDoorWBox10
import Derived.Test.YtakkifedcbhgfaaDoorWLive15
import Derived.Test.YtakkifedcbhgfaaDoorWLaw15d
import Derived.Test.YtakkifedcbhgfaaDoorKX2
namespace Go.Proofs.YtakkifedcbhgfaaDoor.K
open Go Go.RowKit Go.Proofs.YtakkifedcbhgfaaDoorW.PrintWords Go.Proofs.YtakkifedcbhgfaaDoorW.PrintLast Go.Proofs.YtakkifedcbhgfaaDoorW.PrintMore
set_option linter.unusedVariables false
set_option linter.unusedSimpArgs false
open Go.Proofs.YtakkifedcbhgfaaDoor.MShape (Sh flats)
open Go.Proofs.YtakkifedcbhgfaaDoor.MBox (mn_iff mx_iff)
/-- The box around a point. -/
def ptB (p : Int × Int) : MBox.Bx := ⟨false, p.1, p.2, p.1, p.2⟩
theorem has_pt (p : Int × Int) : MBox.has (ptB p) = true := by rw [MBox.has_iff]; exact ⟨rfl, Int.le_refl _, Int.le_refl _⟩
/-- Around just these points. -/
structure Around (b : MBox.Bx) (l : List (Int × Int)) : Prop where
  no : b.no = false
  all : ∀ p ∈ l, b.lx ≤ p.1 ∧ p.1 ≤ b.hx ∧ b.ly ≤ p.2 ∧ p.2 ≤ b.hy
  fa : ∃ p ∈ l, p.1 = b.lx
  fb : ∃ p ∈ l, p.2 = b.ly
  fc : ∃ p ∈ l, p.1 = b.hx
  fd : ∃ p ∈ l, p.2 = b.hy
theorem Around.has {b : MBox.Bx} {l : List (Int × Int)} (h : Around b l) : MBox.has b = true := by
  rw [MBox.has_iff]
  obtain ⟨p, hp, _⟩ := h.fa
  have := h.all p hp
  exact ⟨h.no, by omega, by omega⟩
theorem around_one (p : Int × Int) : Around (MBox.union MBox.noneB (ptB p)) [p] := by
  have e : MBox.union MBox.noneB (ptB p) = ptB p := by unfold MBox.union; rw [if_neg (by simp [MBox.has_none]), if_pos (has_pt p)]
  rw [e]
  exact ⟨rfl, fun q hq => by obtain rfl := List.mem_singleton.1 hq; unfold ptB; simp, ⟨p, by simp, rfl⟩, ⟨p, by simp, rfl⟩, ⟨p, by simp, rfl⟩, ⟨p, by simp, rfl⟩⟩
theorem around_snoc {b : MBox.Bx} {l : List (Int × Int)} (h : Around b l) (p : Int × Int) : Around (MBox.union b (ptB p)) (l ++ [p]) := by
  have e : MBox.union b (ptB p) = MBox.both b (ptB p) := by unfold MBox.union; rw [if_pos h.has, if_pos (has_pt p)]
  rw [e]
  have m1 := mn_iff b.lx p.1; have m2 := mn_iff b.ly p.2; have m3 := mx_iff b.hx p.1; have m4 := mx_iff b.hy p.2
  obtain ⟨qa, ha, ea⟩ := h.fa; obtain ⟨qb, hb, eb⟩ := h.fb; obtain ⟨qc, hc, ec⟩ := h.fc; obtain ⟨qd, hd, ed⟩ := h.fd
  refine ⟨rfl, fun q hq => ?_, ?_, ?_, ?_, ?_⟩
  · rcases List.mem_append.1 hq with hq | hq
    · have := h.all q hq
      unfold MBox.both ptB; simp only; omega
    · obtain rfl := List.mem_singleton.1 hq
      unfold MBox.both ptB; simp only; omega
  · rcases m1.2.2 with e1 | e1
    · exact ⟨qa, by simp [ha], by unfold MBox.both ptB; simp only; omega⟩
    · exact ⟨p, by simp, by unfold MBox.both ptB; simp only; omega⟩
  · rcases m2.2.2 with e1 | e1
    · exact ⟨qb, by simp [hb], by unfold MBox.both ptB; simp only; omega⟩
    · exact ⟨p, by simp, by unfold MBox.both ptB; simp only; omega⟩
  · rcases m3.2.2 with e1 | e1
    · exact ⟨qc, by simp [hc], by unfold MBox.both ptB; simp only; omega⟩
    · exact ⟨p, by simp, by unfold MBox.both ptB; simp only; omega⟩
  · rcases m4.2.2 with e1 | e1
    · exact ⟨qd, by simp [hd], by unfold MBox.both ptB; simp only; omega⟩
    · exact ⟨p, by simp, by unfold MBox.both ptB; simp only; omega⟩
theorem around_fold (m : List (Int × Int)) : ∀ (b : MBox.Bx) (l : List (Int × Int)), Around b l → Around (m.foldl (fun b p => MBox.union b ⟨false, p.1, p.2, p.1, p.2⟩) b) (l ++ m) := by
  induction m with
  | nil => intro b l h; simpa using h
  | cons p m ih => intro b l h; have := ih _ _ (around_snoc h p); rw [List.append_assoc] at this; exact this
theorem around_of {l : List (Int × Int)} (h : l ≠ []) : Around (boxOf l) l := by
  cases l with
  | nil => exact absurd rfl h
  | cons p m => exact around_fold m _ _ (around_one p)
theorem around_meets {b : MBox.Bx} {l : List (Int × Int)} (h : Around b l) (p : Int × Int) (hp : p ∈ l) : MBox.meets b ⟨false, p.1, p.2, p.1, p.2⟩ = true := by
  have := h.all p hp
  rw [MBox.meets_iff]
  exact ⟨h.has, has_pt p, by simp only; omega⟩
def anyB (f : Int × Int → Bool) (l : List (Int × Int)) : Bool := l.any f
theorem anyB_snoc (f : Int × Int → Bool) {l : List (Int × Int)} {k : Nat} (h : k < l.length) : anyB f (l.take (k + 1)) = (anyB f (l.take k) || f l[k]) := by unfold anyB; rw [take_one h, List.any_append, List.any_cons, List.any_nil, Bool.or_false]
theorem anyB_of {f : Int × Int → Bool} {l : List (Int × Int)} (h : ∃ p ∈ l, f p = true) : anyB f l = true := by unfold anyB; rw [List.any_eq_true]; exact h
theorem kBB {wl w w' : World} {g : Nat} {b : MBox.Bx} (hb : Bel w w') (hs : w.cell? ⟨g, 0, none⟩ = some (.bool b.no) ∧ w.cell? ⟨g, 1, none⟩ = some (.int .i64 b.lx) ∧ w.cell? ⟨g, 2, none⟩ = some (.int .i64 b.ly) ∧ w.cell? ⟨g, 3, none⟩ = some (.int .i64 b.hx) ∧ w.cell? ⟨g, 4, none⟩ = some (.int .i64 b.hy) ∧ Bel wl w) : w'.cell? ⟨g, 0, none⟩ = some (.bool b.no) ∧ w'.cell? ⟨g, 1, none⟩ = some (.int .i64 b.lx) ∧ w'.cell? ⟨g, 2, none⟩ = some (.int .i64 b.ly) ∧ w'.cell? ⟨g, 3, none⟩ = some (.int .i64 b.hx) ∧ w'.cell? ⟨g, 4, none⟩ = some (.int .i64 b.hy) ∧ Bel wl w' := ⟨kc hb hs.1, kc hb hs.2.1, kc hb hs.2.2.1, kc hb hs.2.2.2.1, kc hb hs.2.2.2.2.1, bthen hs.2.2.2.2.2 hb⟩
set_option maxHeartbeats 8000000 in
set_option maxRecDepth 100000 in
theorem BoxPoints_calls {w : World} (cs : Array Value) (s : Sh) (hK : KSh.K w s cs.toList) (hq : shOk s) :
    Calls Tryd.prog 7 #[.agg cs] w fun e w' => e = .returned (.bool true) ∧ Below w.heap.size w w' := by
  obtain ⟨D, c3, ec, hs⟩ := hK
  obtain rfl : cs = #[c3.1, c3.2.1, c3.2.2] := Array.toList_inj.1 ec
  have HL := Lib.hid lives15
  have HLt := Lib.hid (fun W h1 h2 => rLight_calls D s c3 W w.heap.size h1 h2)
  have HO1 := Lib.hid (fun W h1 h2 => boxOf_is D w.heap.size s c3 _ rfl W h1 h2)
  have HO2 : Hid (MShape.light s = true → ∀ W, w.heap.size ≤ W.heap.size → ShB w.heap.size W D c3 s → Calls Tryd.prog 32 #[.agg #[c3.1, c3.2.1, c3.2.2]] W fun e w' => ∃ v, e = .returned v ∧ RPt W w' v s.flat ∧ Bel W w') := Lib.hid (fun hl W h1 h2 => rAll_calls D s c3 W w.heap.size h1 h2 (by have := (MShape.light_is hl).1; omega))
  have HSH := Lib.hid hs
  obtain ⟨kd, a, n, m, a', n', m', rfl⟩ := hs.forms
  dsimp only at HLt HO1 HO2 ⊢
  obtain ⟨l, hl⟩ : ∃ l, s.flat = l := ⟨_, rfl⟩
  rw [hl] at HO1 HO2
  clear hs hq ec hl
  have Sb := Blk.new w #[.int .i64 kd, .slice a n m, .slice a' n' m'] 46
  have HB : Hid (Below w.heap.size w (w.alloc (.cells #[.int .i64 kd, .slice a n m, .slice a' n' m'] 46))) := Lib.hid (by repeat (first | exact Below.refl _ _ | refine Below.alloc ?_ (by simp <;> omega) _))
  obtain ⟨lt, hlt⟩ : ∃ b, MShape.light s = b := ⟨_, rfl⟩
  rw [hlt] at HLt HO2
  clear hlt
  go_enter Tryd.func7, Tryd.ntmps7
  go_upto_region 1 with (fail)
  obtain ⟨W, hW⟩ : ∃ W, w.alloc (.cells #[.int .i64 kd, .slice a n m, .slice a' n' m'] 46) = W := ⟨_, rfl⟩
  rw [hW] at Sb HB ⊢
  clear hW
  obtain ⟨s0, s1, s2⟩ := Blk.cells3 Sb
  have HCL := Lib.hid (HLt.out W HB.out.size (HSH.out.keep (KeepB.bel HB.out)))
  clear HLt
  cases lt with
  | false =>
    go_wp2_with (first
      | (go_at_call 27; refine (HL.out _).mono ?_; rintro e w9 ⟨rfl, hb9⟩; have HB9 := Lib.hid (bthen HB2.out hb9); clear hb9)
      | (go_at_call 26; refine (HCL.out).mono ?_; rintro e w2 ⟨rfl, hb2⟩; have HB2 := Lib.hid (bthen HB.out hb2); clear hb2))
    go_ret
    exact ⟨rfl, HB9.out⟩
  | true =>
    have HO2b := Lib.hid (HO2.out (by first | rfl | trivial))
    clear HO2
    go_upto_region 3 with (go_at_call 26; refine (HCL.out).mono ?_; rintro e W2 ⟨rfl, hb2⟩; have HB := Lib.hid (bthen HB.out hb2); have Sb := Blk.bel Sb hb2; clear hb2)
    clear s0 s1 s2
    obtain ⟨s0, s1, s2⟩ := Blk.cells3 Sb
    have F1 := Lib.hid (HO1.out W2 HB.out.size (HSH.out.keep (KeepB.bel HB.out)))
    go_wp2_with fail
    refine (F1.out).mono ?_
    rintro e w3 ⟨rfl, hb3⟩
    have HB := Lib.hid (bthen HB.out hb3)
    have Sb := Blk.bel Sb hb3
    clear hb3 s0 s1 s2 F1 HO1
    go_upto_region 4 with (fail)
    obtain ⟨b, hbx⟩ : ∃ b, boxOf l = b := ⟨_, rfl⟩
    rw [hbx]
    have Bb := Blk.new w3 #[.bool b.no, .int .i64 b.lx, .int .i64 b.ly, .int .i64 b.hx, .int .i64 b.hy] 52
    have Sb := Blk.alloc Sb (.cells #[.bool b.no, .int .i64 b.lx, .int .i64 b.ly, .int .i64 b.hx, .int .i64 b.hy] 52)
    have HB := Lib.hid (HB.out.alloc HB.out.size (.cells #[.bool b.no, .int .i64 b.lx, .int .i64 b.ly, .int .i64 b.hx, .int .i64 b.hy] 52))
    have hg3 := HB.out.size
    obtain ⟨w4, hW⟩ : ∃ W, w3.alloc (.cells #[.bool b.no, .int .i64 b.lx, .int .i64 b.ly, .int .i64 b.hx, .int .i64 b.hy] 52) = W := ⟨_, rfl⟩
    rw [hW] at Bb Sb HB hg3 ⊢
    obtain ⟨gb, hg⟩ : ∃ g, w3.heap.size = g := ⟨_, rfl⟩
    rw [hg] at Bb ⊢
    clear hW hg
    obtain ⟨s0, s1, s2⟩ := Blk.cells3 Sb
    have F2 := Lib.hid (HO2b.out w4 HB.out.size (HSH.out.keep (KeepB.bel HB.out)))
    go_upto_region 5 with (go_at_call 32; refine (F2.out).mono ?_; rintro e w5 ⟨v5, rfl, hr5, hb5⟩; have HR5 := Lib.hid hr5; obtain ⟨A5, c5, rfl, hc5, hC5⟩ := hr5.reads; have HL5 := Lib.hid hC5.2.1; have hbg5 := Lib.hid (Nat.lt_of_lt_of_le (Blk.lt Bb) hb5.size); have Bb := Blk.bel Bb hb5; have HB5x := Lib.hid (Nat.le_trans hg3 hb5.size); have HB := Lib.hid (bthen HB.out hb5); clear hr5 hC5 hb5)
    have hl63 : l.length ≤ 9223372036854775807 := HL5.out
    clear s0 s1 s2 Sb F2 HO2b
    by_cases hl0 : l = []
    · subst hl0
      have hbn : b = MBox.noneB := hbx.symm
      subst hbn
      clear hbx hl63
      obtain ⟨b0, b1, b2, b3, b4⟩ := Blk.cells5 Bb
      have q1 := eqB MBox.noneB MBox.noneB
      rw [MBox.same_refl] at q1
      go_upto_region 6 with (fail)
      have hS0 := And.intro b0 (And.intro b1 (And.intro b2 (And.intro b3 (And.intro b4 (Bel.refl w5)))))
      go_wp2_with fail
      first | go_region_held3 (fun w' => w'.cell? ⟨gb, 0, none⟩ = some (.bool MBox.noneB.no) ∧ w'.cell? ⟨gb, 1, none⟩ = some (.int .i64 MBox.noneB.lx) ∧ w'.cell? ⟨gb, 2, none⟩ = some (.int .i64 MBox.noneB.ly) ∧ w'.cell? ⟨gb, 3, none⟩ = some (.int .i64 MBox.noneB.hx) ∧ w'.cell? ⟨gb, 4, none⟩ = some (.int .i64 MBox.noneB.hy) ∧ Bel w5 w') (first | with_reducible assumption | with_reducible exact kBB hb (by assumption) | with_reducible exact kBB (Bel.drew _) hS0)
        (first
        | (go_at_call 33; refine (none_calls _).mono ?_; rintro e w' ⟨rfl, hb⟩)
        | (go_at_call 27; refine (HL.out _).mono ?_; rintro e w' ⟨rfl, hb⟩)) | fail
      all_goals
        rename_i hheld
        have HB9 := Lib.hid (bthen HB.out hheld.2.2.2.2.2)
        clear hheld hS0
        go_wp2
        go_ret
        exact ⟨by first | rfl | simp, HB9.out⟩
    · have har := around_of hl0
      rw [hbx] at har
      have hAR := Lib.hid har
      have hlp : 0 < l.length := List.length_pos_iff.2 hl0
      have hlz : ((l.length : Int) == 0) = false := by simp; omega
      clear har hl0 hbx
      go_upto_region 8 with (fail)
      have O := Blk.new w5 #[.bool false, .bool false, .bool false, .bool false] 58
      have Bb := Blk.alloc Bb (.cells #[.bool false, .bool false, .bool false, .bool false] 58)
      have HB := Lib.hid (HB.out.alloc HB.out.size (.cells #[.bool false, .bool false, .bool false, .bool false] 58))
      have HR6 : Hid (Kd.R KPt 50 (w5.alloc (.cells #[.bool false, .bool false, .bool false, .bool false] 58)) w4.heap.size (fun k => k ≠ w5.heap.size) (.slice A5 l.length c5) l) := Lib.hid (Kd.R_below (Kd.R_mono (Kd.R_bound HR5.out) (fun k hk => by have := hk.2.2.1; omega)) ((Bel.refl w5).alloc (Nat.le_refl _) _))
      have hgo := HB5x.out
      have hgb5 := hbg5.out
      obtain ⟨w6, hW⟩ : ∃ W, w5.alloc (.cells #[.bool false, .bool false, .bool false, .bool false] 58) = W := ⟨_, rfl⟩
      rw [hW] at O Bb HB HR6 ⊢
      obtain ⟨gon, hg⟩ : ∃ g, w5.heap.size = g := ⟨_, rfl⟩
      rw [hg] at O HR6 hgo hgb5 ⊢
      clear hW hg HR5
      have O6 := Lib.hid O
      have B6 := Lib.hid Bb
      clear O Bb
      have hbo : gb ≠ gon := by omega
      go_wp2_with fail
      go_loopw [27] (fun i wr => ∃ (k : Nat), i = .int .i64 k ∧ k ≤ l.length ∧ Hid (Below w.heap.size w wr) ∧ Hid (Kd.R KPt 50 wr w4.heap.size (fun k => k ≠ gon) (.slice A5 l.length c5) l) ∧ Hid (Blk wr gon #[.bool (anyB (fun p => p.1 == b.lx) (l.take k)), .bool (anyB (fun p => p.2 == b.ly) (l.take k)), .bool (anyB (fun p => p.1 == b.hx) (l.take k)), .bool (anyB (fun p => p.2 == b.hy) (l.take k))] 58) ∧ Hid (Blk wr gb #[.bool b.no, .int .i64 b.lx, .int .i64 b.ly, .int .i64 b.hx, .int .i64 b.hy] 52)) (fun i _ => l.length - (intOf i).toNat)
      case atStart => exact ⟨0, rfl, by omega, HB, HR6, O6, B6⟩
      case round =>
        obtain ⟨k, rfl, hk, HBk, HRk, HO, HBb⟩ := hrel
        by_cases hlt : k < l.length
        · obtain ⟨A', c', e', hcc, hCk⟩ := Kd.R_reads HRk.out
          obtain ⟨a9, c9, e9, _, _, hx9⟩ := CPt.pts hCk (Nat.le_refl _)
          obtain ⟨bb, off, e8, hbB, x0, x1⟩ := hx9 k hlt
          injection e' with e5 e6 e7
          injection e9 with e3 e4 e2
          subst e5
          subst e3
          subst e8
          have sa := anyB_snoc (fun p => p.1 == b.lx) hlt
          have sb := anyB_snoc (fun p => p.2 == b.ly) hlt
          have sc := anyB_snoc (fun p => p.1 == b.hx) hlt
          have sd := anyB_snoc (fun p => p.2 == b.hy) hlt
          have hmt := around_meets hAR.out l[k] (List.getElem_mem hlt)
          obtain ⟨x, hx⟩ : ∃ x, l[k] = x := ⟨_, rfl⟩
          rw [hx] at x0 x1 sa sb sc sd hmt
          try dsimp only at sa sb sc sd
          obtain ⟨q0, hq0⟩ : ∃ q, anyB (fun p => p.1 == b.lx) (l.take k) = q := ⟨_, rfl⟩
          obtain ⟨q1, hq1⟩ : ∃ q, anyB (fun p => p.2 == b.ly) (l.take k) = q := ⟨_, rfl⟩
          obtain ⟨q2, hq2⟩ : ∃ q, anyB (fun p => p.1 == b.hx) (l.take k) = q := ⟨_, rfl⟩
          obtain ⟨q3, hq3⟩ : ∃ q, anyB (fun p => p.2 == b.hy) (l.take k) = q := ⟨_, rfl⟩
          rw [hq0, hq1, hq2, hq3] at HO
          rw [hq0] at sa
          rw [hq1] at sb
          rw [hq2] at sc
          rw [hq3] at sd
          have SS := Lib.hid (And.intro sa (And.intro sb (And.intro sc sd)))
          have HMT : Hid (∀ W, Calls Tryd.prog 34 #[.agg #[.bool b.no, .int .i64 b.lx, .int .i64 b.ly, .int .i64 b.hx, .int .i64 b.hy], .agg #[.bool false, .int .i64 x.1, .int .i64 x.2, .int .i64 x.1, .int .i64 x.2]] W fun e w' => e = .returned (.bool true) ∧ Bel W w') := Lib.hid (fun W => by have := meets_calls b ⟨false, x.1, x.2, x.1, x.2⟩ W; rw [hmt] at this; exact this)
          have hgO := HO.out.lt
          clear hx hx9 hCk hcc e6 e7 e4 e2 sa sb sc sd hmt hq0 hq1 hq2 hq3
          have P := Blk.new wr #[.int .i64 x.1, .int .i64 x.2] 50
          have O := HO.out.alloc (.cells #[.int .i64 x.1, .int .i64 x.2] 50)
          have Bb := HBb.out.alloc (.cells #[.int .i64 x.1, .int .i64 x.2] 50)
          have HB7 := Lib.hid (HBk.out.alloc HBk.out.size (.cells #[.int .i64 x.1, .int .i64 x.2] 50))
          have HR7 := Lib.hid (Kd.R_alloc HRk.out (.cells #[.int .i64 x.1, .int .i64 x.2] 50))
          clear HO HBb HBk HRk
          go_upto_region 11 with (fail)
          obtain ⟨w7, hW⟩ : ∃ X, wr.alloc (.cells #[.int .i64 x.1, .int .i64 x.2] 50) = X := ⟨_, rfl⟩
          rw [hW] at P O Bb HB7 HR7 ⊢
          obtain ⟨gp, hg⟩ : ∃ g, wr.heap.size = g := ⟨_, rfl⟩
          rw [hg] at P hgO hbB ⊢
          clear hW hg x0 x1
          have hpo : gp ≠ gon := by omega
          obtain ⟨b0, b1, b2, b3, b4⟩ := Blk.cells5 Bb
          have p0 : w7.cell? ⟨gp, 0, none⟩ = some (.int .i64 x.1) := Blk.cell P 0 rfl
          have p1 : w7.cell? ⟨gp, 1, none⟩ = some (.int .i64 x.2) := Blk.cell P 1 rfl
          go_upto_region 13 with (go_at_call 34; refine (HMT.out _).mono ?_; rintro e w8 ⟨rfl, hb8⟩; have O8 := Blk.bel O hb8; have B8 := Blk.bel Bb hb8; have P8 := Blk.bel P hb8; have HB8 := Lib.hid (bthen HB7.out hb8); have HR8 := Lib.hid (Kd.R_below HR7.out hb8); clear hb8 b0 b1 b2 b3 b4 p0 p1)
          clear O Bb P HB7 HR7
          have O := O8
          have Bb := B8
          have P := P8
          clear O8 B8 P8
          go_upto_region 13 with (fail)
          obtain ⟨b0, b1, b2, b3, b4⟩ := Blk.cells5 Bb
          obtain ⟨o0, o1, o2, o3⟩ := Blk.cells4 O
          have p0 : w8.cell? ⟨gp, 0, none⟩ = some (.int .i64 x.1) := Blk.cell P 0 rfl
          have p1 : w8.cell? ⟨gp, 1, none⟩ = some (.int .i64 x.2) := Blk.cell P 1 rfl
          have of := O.froz 0
          go_cut [] (fun w' => Blk w' gon #[.bool (q0 || (x.1 == b.lx)), .bool q1, .bool q2, .bool q3] 58 ∧ Hid (w8.grownBy w' (some gon)))
          case first =>
            cases q0
            all_goals
              go_wp2
              go_meet
              exact ⟨O.set 0 _, Lib.hid (grown_set gon 0 _)⟩
          obtain ⟨O2, hgr⟩ := hcut
          have Bb2 := Blk.grow1 Bb hgr.out hbo
          have P2 := Blk.grow1 P hgr.out hpo
          have HB2 := Lib.hid (Below.grown HB8.out hgr.out HB8.out.size (fun j e => by cases e; omega))
          have HR2 := Lib.hid (Kd.R_grown HR8.out hgr.out (fun k hk e => hk (Option.some.inj e)))
          clear b0 b1 b2 b3 b4 o0 o1 o2 o3 p0 p1 of O Bb P HB8 HR8 hgr
          obtain ⟨z0, hW⟩ : ∃ X, wc = X := ⟨_, rfl⟩
          rw [hW] at O2 Bb2 P2 HB2 HR2 ⊢
          clear hW
          have O := O2
          have Bb := Bb2
          have P := P2
          have HB8 := HB2
          have HR8 := HR2
          clear O2 Bb2 P2 HB2 HR2
          go_upto_region 14 with (fail)
          obtain ⟨b0, b1, b2, b3, b4⟩ := Blk.cells5 Bb
          obtain ⟨o0, o1, o2, o3⟩ := Blk.cells4 O
          have p0 : z0.cell? ⟨gp, 0, none⟩ = some (.int .i64 x.1) := Blk.cell P 0 rfl
          have p1 : z0.cell? ⟨gp, 1, none⟩ = some (.int .i64 x.2) := Blk.cell P 1 rfl
          have of := O.froz 1
          go_cut [] (fun w' => Blk w' gon #[.bool (q0 || (x.1 == b.lx)), .bool (q1 || (x.2 == b.ly)), .bool q2, .bool q3] 58 ∧ Hid (z0.grownBy w' (some gon)))
          case first =>
            cases q1
            all_goals
              go_wp2
              go_meet
              exact ⟨O.set 1 _, Lib.hid (grown_set gon 1 _)⟩
          obtain ⟨O2, hgr⟩ := hcut
          have Bb2 := Blk.grow1 Bb hgr.out hbo
          have P2 := Blk.grow1 P hgr.out hpo
          have HB2 := Lib.hid (Below.grown HB8.out hgr.out HB8.out.size (fun j e => by cases e; omega))
          have HR2 := Lib.hid (Kd.R_grown HR8.out hgr.out (fun k hk e => hk (Option.some.inj e)))
          clear b0 b1 b2 b3 b4 o0 o1 o2 o3 p0 p1 of O Bb P HB8 HR8 hgr
          obtain ⟨z1, hW⟩ : ∃ X, wc = X := ⟨_, rfl⟩
          rw [hW] at O2 Bb2 P2 HB2 HR2 ⊢
          clear hW
          have O := O2
          have Bb := Bb2
          have P := P2
          have HB8 := HB2
          have HR8 := HR2
          clear O2 Bb2 P2 HB2 HR2
          go_upto_region 15 with (fail)
          obtain ⟨b0, b1, b2, b3, b4⟩ := Blk.cells5 Bb
          obtain ⟨o0, o1, o2, o3⟩ := Blk.cells4 O
          have p0 : z1.cell? ⟨gp, 0, none⟩ = some (.int .i64 x.1) := Blk.cell P 0 rfl
          have p1 : z1.cell? ⟨gp, 1, none⟩ = some (.int .i64 x.2) := Blk.cell P 1 rfl
          have of := O.froz 2
          go_cut [] (fun w' => Blk w' gon #[.bool (q0 || (x.1 == b.lx)), .bool (q1 || (x.2 == b.ly)), .bool (q2 || (x.1 == b.hx)), .bool q3] 58 ∧ Hid (z1.grownBy w' (some gon)))
          case first =>
            cases q2
            all_goals
              go_wp2
              go_meet
              exact ⟨O.set 2 _, Lib.hid (grown_set gon 2 _)⟩
          obtain ⟨O2, hgr⟩ := hcut
          have Bb2 := Blk.grow1 Bb hgr.out hbo
          have P2 := Blk.grow1 P hgr.out hpo
          have HB2 := Lib.hid (Below.grown HB8.out hgr.out HB8.out.size (fun j e => by cases e; omega))
          have HR2 := Lib.hid (Kd.R_grown HR8.out hgr.out (fun k hk e => hk (Option.some.inj e)))
          clear b0 b1 b2 b3 b4 o0 o1 o2 o3 p0 p1 of O Bb P HB8 HR8 hgr
          obtain ⟨z2, hW⟩ : ∃ X, wc = X := ⟨_, rfl⟩
          rw [hW] at O2 Bb2 P2 HB2 HR2 ⊢
          clear hW
          have O := O2
          have Bb := Bb2
          have P := P2
          have HB8 := HB2
          have HR8 := HR2
          clear O2 Bb2 P2 HB2 HR2
          go_upto_region 16 with (fail)
          obtain ⟨b0, b1, b2, b3, b4⟩ := Blk.cells5 Bb
          obtain ⟨o0, o1, o2, o3⟩ := Blk.cells4 O
          have p0 : z2.cell? ⟨gp, 0, none⟩ = some (.int .i64 x.1) := Blk.cell P 0 rfl
          have p1 : z2.cell? ⟨gp, 1, none⟩ = some (.int .i64 x.2) := Blk.cell P 1 rfl
          have of := O.froz 3
          have hgon : w.heap.size ≤ gon := by omega
          cases q3
          all_goals
            go_wp2
            go_roundw
            case rel => exact ⟨k + 1, by go_num, by omega, Lib.hid (below_set HB8.out (g := gon) (i := 3) hgon _), Lib.hid (Kd.R_grown HR8.out (grown_set gon 3 _) (fun k hk e => hk (Option.some.inj e))), Lib.hid (by rw [SS.out.1, SS.out.2.1, SS.out.2.2.1, SS.out.2.2.2]; exact O.set 3 _), Lib.hid (Blk.grow1 Bb (grown_set gon 3 _) hbo)⟩
            case measure => (simp [intOf] <;> omega)
        · have : k = l.length := by omega
          subst this
          have e0 : anyB (fun p => p.1 == b.lx) (l.take l.length) = true := by rw [List.take_length]; exact anyB_of (by obtain ⟨p, hp, e⟩ := hAR.out.fa; exact ⟨p, hp, by simp [e]⟩)
          have e1 : anyB (fun p => p.2 == b.ly) (l.take l.length) = true := by rw [List.take_length]; exact anyB_of (by obtain ⟨p, hp, e⟩ := hAR.out.fb; exact ⟨p, hp, by simp [e]⟩)
          have e2 : anyB (fun p => p.1 == b.hx) (l.take l.length) = true := by rw [List.take_length]; exact anyB_of (by obtain ⟨p, hp, e⟩ := hAR.out.fc; exact ⟨p, hp, by simp [e]⟩)
          have e3 : anyB (fun p => p.2 == b.hy) (l.take l.length) = true := by rw [List.take_length]; exact anyB_of (by obtain ⟨p, hp, e⟩ := hAR.out.fd; exact ⟨p, hp, by simp [e]⟩)
          rw [e0, e1, e2, e3] at HO
          clear e0 e1 e2 e3 hlt hk
          obtain ⟨o0, o1, o2, o3⟩ := Blk.cells4 HO.out
          go_wp2_with (go_at_call 27; refine (HL.out _).mono ?_; rintro e w9 ⟨rfl, hb9⟩; have HB9 := Lib.hid (bthen HBk.out hb9); clear hb9)
          go_ret
          exact ⟨by first | rfl | simp, HB9.out⟩

end Go.Proofs.YtakkifedcbhgfaaDoor.K
