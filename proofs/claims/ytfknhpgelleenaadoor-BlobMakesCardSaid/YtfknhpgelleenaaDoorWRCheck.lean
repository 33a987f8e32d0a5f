/- The reference's Check. -/
import Derived.Test.YtfknhpgelleenaaDoorKB
import Derived.Handy
import Derived.Test.YtfknhpgelleenaaDoorWShp
import Derived.Test.YtfknhpgelleenaaDoorMShape3
import Derived.Test.YtfknhpgelleenaaDoorWRRight
import Derived.Test.YtfknhpgelleenaaDoorWPts
import Derived.Test.YtfknhpgelleenaaDoorWLight
namespace Go.Proofs.YtfknhpgelleenaaDoor.K
open Go Go.RowKit Go.Proofs.YtfknhpgelleenaaDoorW.PrintWords Go.Proofs.YtfknhpgelleenaaDoorW.PrintLast Go.Proofs.YtfknhpgelleenaaDoorW.PrintMore
set_option linter.unusedVariables false
set_option linter.unusedSimpArgs false
open Go.Proofs.YtfknhpgelleenaaDoor.MShape (Sh flats)
set_option maxHeartbeats 4000000 in
set_option maxRecDepth 100000 in
theorem rcheck_calls (D : Nat) (s : Sh) (c : Value × Value × Value) (w : World) (B : Nat) (hB : B ≤ w.heap.size) (hs : ShB B w D c s) :
    Calls Tryd.prog 42 #[.agg #[c.1, c.2.1, c.2.2]] w fun e w' => e = .returned (.int .i64 (MShape.check s)) ∧ Bel w w' := by
  have HO := Lib.hid (fun W h1 h2 => rOf_calls D s c W B h1 h2)
  have HRI := Lib.hid (fun W h1 h2 => rright_calls D s c W B h1 h2)
  have HRA := Lib.hid (fun W h1 h2 h3 => rAll_calls D s c W B h1 h2 h3)
  have HS := Lib.hid hs
  have hkk := ShB.kind hs
  obtain ⟨kd, e1, e2, e3, e4, e5, e6, rfl⟩ := hs.forms
  dsimp only at HO HRI HRA HS hkk ⊢
  have hkd : kd = s.kind := by injection hkk
  have HKD := Lib.hid hkd
  have HBB := Lib.hid hB
  clear hs hB hkk hkd
  obtain ⟨⟨P, Q, E⟩, hcn⟩ : ∃ x, MShape.count s = x := ⟨_, rfl⟩
  have HCN := Lib.hid hcn
  rw [hcn] at HO
  have hck : (if 16 < E then 10 else if 4000 < P ∨ 1000 < Q then 12 else if (MShape.isKind s.kind && MShape.right s) = false then 9 else if s.flat.any MShape.nowhere = true then 11 else 0) = MShape.check s := by unfold MShape.check; rw [hcn]
  obtain ⟨ck, hck0⟩ : ∃ k, MShape.check s = k := ⟨_, rfl⟩
  rw [hck0] at hck ⊢
  clear hck0
  have HCK := Lib.hid hck
  clear hcn hck
  have S := Blk.new w #[.int .i64 kd, .slice e1 e2 e3, .slice e4 e5 e6] 25
  have HB : Hid (Bel w (w.alloc (.cells #[.int .i64 kd, .slice e1 e2 e3, .slice e4 e5 e6] 25))) := Lib.hid ((Bel.refl w).alloc (Nat.le_refl _) _)
  go_enter Tryd.func42, Tryd.ntmps42
  go_upto_region 1 with (fail)
  obtain ⟨W1, hW⟩ : ∃ X, w.alloc (.cells #[.int .i64 kd, .slice e1 e2 e3, .slice e4 e5 e6] 25) = X := ⟨_, rfl⟩
  rw [hW] at S HB ⊢
  obtain ⟨gs, hg⟩ : ∃ X, w.heap.size = X := ⟨_, rfl⟩
  rw [hg] at S ⊢
  clear hW hg
  obtain ⟨s0, s1, s2⟩ := Blk.cells3 S
  have HSB := Lib.hid S
  clear S
  have HC1 : Hid (Calls Tryd.prog 71 #[.agg #[.int .i64 kd, .slice e1 e2 e3, .slice e4 e5 e6]] W1 fun e w' => e = .returned (.agg #[.int .i64 P, .int .i64 Q, .int .i64 E]) ∧ Bel W1 w' ∧ cnOk ⟨P, Q, E⟩) := Lib.hid (HO.out W1 (by have := HB.out.size; have := HBB.out; omega) (HS.out.keep (KeepB.bel HB.out)))
  go_upto_region 2 with (go_at_call 71; refine (HC1.out).mono ?_; rintro e W2 ⟨rfl, hb2, -⟩)
  have HB2 := Lib.hid (bthen HB.out hb2)
  have HSB2 := Lib.hid (Blk.bel HSB.out hb2)
  clear s0 s1 s2 hb2 HC1
  have C := Blk.new W2 #[.int .i64 P, .int .i64 Q, .int .i64 E] 101
  have HB3 := Lib.hid (HB2.out.alloc HB2.out.size (.cells #[.int .i64 P, .int .i64 Q, .int .i64 E] 101))
  have S3 := Blk.alloc HSB2.out (.cells #[.int .i64 P, .int .i64 Q, .int .i64 E] 101)
  obtain ⟨W3, hW⟩ : ∃ X, W2.alloc (.cells #[.int .i64 P, .int .i64 Q, .int .i64 E] 101) = X := ⟨_, rfl⟩
  rw [hW] at C HB3 S3 ⊢
  obtain ⟨gc, hg⟩ : ∃ X, W2.heap.size = X := ⟨_, rfl⟩
  rw [hg] at C ⊢
  clear hW hg
  obtain ⟨c0, c1, c2⟩ := Blk.cells3 C
  obtain ⟨s0, s1, s2⟩ := Blk.cells3 S3
  have HS3 := Lib.hid S3
  clear C S3
  by_cases h1 : 16 < E
  · have hck := HCK.out
    rw [if_pos h1] at hck
    subst hck
    clear HCK
    go_wp2
    go_ret
    exact ⟨by first | rfl | simp, HB3.out⟩
  have hck := HCK.out
  rw [if_neg h1] at hck
  have HCK := Lib.hid hck
  clear hck
  by_cases h2 : 4000 < P
  · have hck := HCK.out
    rw [if_pos (.inl h2)] at hck
    subst hck
    clear HCK
    go_wp2
    go_ret
    exact ⟨by first | rfl | simp, HB3.out⟩
  by_cases h3 : 1000 < Q
  · have hck := HCK.out
    rw [if_pos (.inr h3)] at hck
    subst hck
    clear HCK
    go_wp2
    go_ret
    exact ⟨by first | rfl | simp, HB3.out⟩
  have hck := HCK.out
  rw [if_neg (fun h => h.elim h2 h3)] at hck
  have HCK := Lib.hid hck
  have HLI : Hid (s.flat.length ≤ 4000) := Lib.hid (by
    have hl : MShape.light s = true := by
      unfold MShape.light
      rw [HCN.out]
      simp only [Bool.and_eq_true, decide_eq_true_eq]
      omega
    exact (MShape.light_is hl).1)
  have hre := MShape.rcheck_eq s
  have HC4 := Lib.hid (HRI.out W3 (by have := HB3.out.size; have := HBB.out; omega) (HS.out.keep (KeepB.bel HB3.out)))
  obtain ⟨q, hq⟩ : ∃ q, MShape.rright s = q := ⟨_, rfl⟩
  rw [hq] at hre HC4
  rw [← HKD.out] at hre
  have HRE := Lib.hid hre
  clear hck hre hq
  by_cases h4 : kd < 1
  · have hck := HCK.out
    have h9 := HRE.out
    rw [decide_eq_true h4, Bool.true_or] at h9
    rw [← HKD.out, if_pos (by cases h : (MShape.isKind kd && MShape.right s) with | false => rfl | true => rw [h] at h9; cases h9)] at hck
    subst hck
    clear HCK
    clear h9
    go_wp2
    go_ret
    exact ⟨by first | rfl | simp, HB3.out⟩
  have h9 := HRE.out
  rw [decide_eq_false h4, Bool.false_or] at h9
  have HRE := Lib.hid h9
  clear h9
  cases q
  · have hck := HCK.out
    have h9 := HRE.out
    rw [← HKD.out, if_pos (by cases h : (MShape.isKind kd && MShape.right s) with | false => rfl | true => rw [h] at h9; cases h9)] at hck
    subst hck
    clear HCK
    clear h9
    go_wp2_with (go_at_call 72; refine (HC4.out).mono ?_; rintro e W4 ⟨rfl, hb4⟩)
    go_ret
    exact ⟨by first | rfl | simp, bthen HB3.out hb4⟩
  have hck := HCK.out
  have h9 := HRE.out
  rw [← HKD.out, if_neg (by intro e; rw [e] at h9; cases h9)] at hck
  have HCK := Lib.hid hck
  clear hck h9
  obtain ⟨fl, hfl⟩ : ∃ l, s.flat = l := ⟨_, rfl⟩
  rw [hfl] at HLI HRA HCK
  clear hfl
  have HR : Hid ((if fl.any MShape.nowhere = true then (11 : Int) else 0) = ck) := HCK
  clear HCK
  go_upto_region 8 with (go_at_call 72; refine (HC4.out).mono ?_; rintro e W4 ⟨rfl, hb4⟩)
  have HB4 := Lib.hid (bthen HB3.out hb4)
  have S4 := Blk.bel HS3.out hb4
  clear s0 s1 s2 c0 c1 c2 hb4
  obtain ⟨s0, s1, s2⟩ := Blk.cells3 S4
  have HC5 := Lib.hid (HRA.out W4 (by have := HB4.out.size; have := HBB.out; omega) (HS.out.keep (KeepB.bel HB4.out)) (by have := HLI.out; omega))
  clear S4
  go_wp2_with (go_at_call 29; refine (HC5.out).mono ?_; rintro e W5 ⟨v5, rfl, hr5, hb5⟩; obtain ⟨A5, c5, hv5, hc5, hC5⟩ := hr5.reads; subst hv5)
  have HB5 := Lib.hid (bthen HB4.out hb5)
  obtain ⟨a5, k5, f5, hcc, hmm, hx5⟩ := hC5.pts hc5
  injection f5 with f1 f2 f3
  subst f1 f3
  have HX := Lib.hid hx5
  have HMM := Lib.hid hmm
  clear hr5 hb5 hC5 hc5 hcc hmm hx5 f2 s0 s1 s2 h1 h2 h3 h4
  go_loopw [33] (fun i wr => ∃ (k : Nat), i = .int .i64 k ∧ k ≤ fl.length ∧ Hid (Bel W5 wr) ∧ Hid ((if (fl.drop k).any MShape.nowhere = true then 11 else 0) = ck)) (fun i _ => fl.length - (intOf i).toNat)
  case atStart => exact ⟨0, rfl, by omega, Lib.hid (Below.refl _ _), Lib.hid (by rw [List.drop_zero]; exact HR.out)⟩
  case round =>
    obtain ⟨k, rfl, hk, HBk, HRk⟩ := hrel
    by_cases hlt : k < fl.length
    · obtain ⟨b, off, rfl, hbb, x0, y0⟩ := HX.out k hlt
      have x0 := kc HBk.out x0
      have y0 := kc HBk.out y0
      have hrk := HRk.out
      rw [List.drop_eq_getElem_cons hlt, List.any_cons] at hrk
      obtain ⟨p, hp⟩ : ∃ p, fl[k] = p := ⟨_, rfl⟩
      rw [hp] at x0 y0 hrk
      obtain ⟨px, py⟩ := p
      dsimp only at x0 y0
      have hrk : (if ((px == -9223372036854775808 || py == -9223372036854775808) || (fl.drop (k + 1)).any MShape.nowhere) = true then 11 else 0) = ck := hrk
      have HRN := Lib.hid hrk
      have HLT := Lib.hid hlt
      have hmx : fl.length ≤ 9223372036854775807 := HMM.out
      clear hp hrk HRk
      go_upto_region 11 with (fail)
      have P5 := Blk.new wr #[.int .i64 px, .int .i64 py] 41
      have HB9 : Hid (Bel wr (wr.alloc (.cells #[.int .i64 px, .int .i64 py] 41))) := Lib.hid ((Bel.refl wr).alloc (Nat.le_refl _) _)
      obtain ⟨w9, hW⟩ : ∃ X, wr.alloc (.cells #[.int .i64 px, .int .i64 py] 41) = X := ⟨_, rfl⟩
      rw [hW] at P5 HB9 ⊢
      obtain ⟨gp, hg⟩ : ∃ X, wr.heap.size = X := ⟨_, rfl⟩
      rw [hg] at P5 ⊢
      clear hW hg x0 y0
      have p0 : w9.cell? ⟨gp, 0, none⟩ = some (.int .i64 px) := Blk.cell P5 0 rfl
      have p1 : w9.cell? ⟨gp, 1, none⟩ = some (.int .i64 py) := Blk.cell P5 1 rfl
      clear P5
      cases b1 : (px == -9223372036854775808) <;> cases b2 : (py == -9223372036854775808)
      all_goals
        rw [b1, b2] at HRN
        have Hb1 := Lib.hid b1
        have Hb2 := Lib.hid b2
        go_wp2
      · go_roundw
        case rel => exact ⟨k + 1, by go_num, by have := HLT.out; omega, Lib.hid (bthen HBk.out HB9.out), Lib.hid (by have h9 := HRN.out; rw [Bool.false_or, Bool.false_or] at h9; exact h9)⟩
        case measure => (have := HLT.out; simp [intOf] <;> omega)
      all_goals
        go_ret
        exact ⟨by have h9 := HRN.out; simp at h9; rw [← h9]; rfl, bthen HB5.out (bthen HBk.out HB9.out)⟩
    · have : k = fl.length := by omega
      subst this
      have hre : ck = 0 := by have := HRk.out; rw [List.drop_length] at this; simpa using this.symm
      subst hre
      clear hlt hk HRk HR
      go_wp2
      go_ret
      exact ⟨by first | rfl | simp, bthen HB5.out HBk.out⟩

end Go.Proofs.YtfknhpgelleenaaDoor.K
