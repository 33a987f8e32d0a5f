/- Points behind the bytes of wkb's writer. -/
import Derived.Test.YtfknhpgelleenaaDoorKB
import Derived.Handy
import Derived.Test.YtfknhpgelleenaaDoorWShp
import Derived.Test.YtfknhpgelleenaaDoorWWr1
namespace Go.Proofs.YtfknhpgelleenaaDoor.K
open Go Go.RowKit Go.Proofs.YtfknhpgelleenaaDoorW.PrintWords Go.Proofs.YtfknhpgelleenaaDoorW.PrintLast Go.Proofs.YtfknhpgelleenaaDoorW.PrintMore
set_option linter.unusedVariables false
set_option linter.unusedSimpArgs false
/-- A block that no writing touches. -/
def Fr (g b : Nat) (W : World) : Prop := g < W.heap.size ∧ b ≠ g ∧ some b ≠ rowB g W ∧ b < W.heap.size
theorem Fr.kr {g b : Nat} {W W' : World} (h : Fr g b W) (hk : Kr g W W') : Fr g b W' := by
  obtain ⟨h1, h2, h3, h4⟩ := h
  have s := hk.1
  refine ⟨by omega, h2, fun e => ?_, by omega⟩
  rcases (hk.2 h1).1 with e1 | ⟨q, e1, h5, _⟩
  · exact h3 (e.trans e1)
  · rw [e1] at e
    injection e with e
    omega
theorem Fr.blk {g b t : Nat} {W W' : World} {cs : Array Value} (h : Fr g b W) (hk : Kr g W W') (hb : Blk W b cs t) : Blk W' b cs t := (hk.2 h.1).2 b h.2.1 h.2.2.1 cs t (0, 0) hb
theorem Fr.new {w0 W : World} {g : Nat} {o : Bool} {l : List Int} (h : St w0 g o l W) (obj : Obj) : Fr g W.heap.size (W.alloc obj) := by
  obtain ⟨h1, h2, h3⟩ := h.row
  have e : rowB g (W.alloc obj) = rowB g W := by unfold rowB; rw [((Bel.refl W).alloc (Nat.le_refl _) obj).cell (p := ⟨g, 0, none⟩) h2]
  refine ⟨by simp; omega, by omega, fun e' => ?_, by simp⟩
  rw [e] at e'
  have := (h3 _ e'.symm).2
  omega
theorem Fr.bel {g b : Nat} {W W' : World} (h : Fr g b W) (hb : Bel W W') : Fr g b W' := h.kr (Kr.bel hb)
set_option maxHeartbeats 1000000 in
set_option maxRecDepth 100000 in
/-- A point behind the writer's bytes. -/
theorem point_calls (w0 : World) (g : Nat) (o : Bool) (l : List Int) (x y : Int) (W : World) (hs : St w0 g o l W) (hl : l.length + 25 < 140737488355328) :
    Calls Tryd.prog 84 #[.pointer (some ⟨g, 0, none⟩), .agg #[.int .i64 x, .int .i64 y]] W fun e W' => e = .returned (.tuple #[]) ∧ Hid (St w0 g o (l ++ MWkb.pt o (x, y)) W' ∧ Kr g W W') := by
  have HS := Lib.hid hs
  have HL := Lib.hid hl
  have S := Blk.new W #[.int .i64 x, .int .i64 y] 41
  have HF := Lib.hid (Fr.new hs (.cells #[.int .i64 x, .int .i64 y] 41))
  have HB : Hid (Bel W (W.alloc (.cells #[.int .i64 x, .int .i64 y] 41))) := Lib.hid ((Bel.refl W).alloc (Nat.le_refl _) _)
  clear hs hl
  go_enter Tryd.func84, Tryd.ntmps84
  go_upto_region 1 with (fail)
  obtain ⟨W1, hW⟩ : ∃ X, W.alloc (.cells #[.int .i64 x, .int .i64 y] 41) = X := ⟨_, rfl⟩
  rw [hW] at S HF HB ⊢
  obtain ⟨b, hb⟩ : ∃ X, W.heap.size = X := ⟨_, rfl⟩
  rw [hb] at S HF ⊢
  clear hW hb
  have s0 : W1.cell? ⟨b, 0, none⟩ = some (.int .i64 x) := Blk.cell S 0 rfl
  have HSS := Lib.hid S
  have HN1 := Lib.hid (num_calls w0 g o l x 8 W1 (HS.out.bel HB.out) (.inr rfl) (by have := HL.out; omega))
  clear S
  go_wp2_with (first
    | (go_at_call 83; refine (HN2.out).mono ?_; rintro e W3 ⟨rfl, h3⟩)
    | (go_at_call 83; refine (HN1.out).mono ?_; rintro e W2 ⟨rfl, h2⟩; have s1 : W2.cell? ⟨b, 1, none⟩ = some (.int .i64 y) := Blk.cell (HF.out.blk h2.out.2 HSS.out) 1 rfl; have HN2 := Lib.hid (num_calls w0 g o (l ++ MWkb.nm x 8 o) y 8 W2 h2.out.1 (.inr rfl) (by rw [List.length_append, MWkb.nm8]; have := HL.out; omega))))
  go_end0
  refine ⟨by first | rfl | simp, ?_, ((Kr.bel HB.out).trans h2.out.2).trans h3.out.2⟩
  have h9 := h3.out.1
  rw [List.append_assoc] at h9
  exact h9
set_option maxHeartbeats 1000000 in
set_option maxRecDepth 100000 in
/-- Points behind the writer's bytes. -/
theorem points_calls (w0 : World) (g : Nat) (o : Bool) (l : List Int) (v : Value) (pts : List (Int × Int)) (W : World) (hs : St w0 g o l W) (hp : PtsB w0.heap.size W v pts) (hl : l.length + (MWkb.run o pts).length + 9 < 140737488355328) :
    Calls Tryd.prog 85 #[.pointer (some ⟨g, 0, none⟩), v] W fun e W' => e = .returned (.tuple #[]) ∧ Hid (St w0 g o (l ++ MWkb.run o pts) W' ∧ Kr g W W') := by
  obtain ⟨a1, c1, rfl, _, hm1, hx1⟩ := hp
  have HX := Lib.hid hx1
  have HS := Lib.hid hs
  have HL := Lib.hid hl
  have HN1 := Lib.hid (num_calls w0 g o l pts.length 4 W hs (.inl rfl) (by omega))
  clear hs hx1 hl
  go_enter Tryd.func85, Tryd.ntmps85
  go_wp2_with (go_at_call 83; refine (HN1.out).mono ?_; rintro e W2 ⟨rfl, h2⟩)
  go_loopw [12] (fun i wr => ∃ (k : Nat), i = .int .i64 k ∧ k ≤ pts.length ∧ Hid (St w0 g o (l ++ (MWkb.nm pts.length 4 o ++ MWkb.ptsE o (pts.take k))) wr) ∧ Hid (Kr g W wr)) (fun i _ => pts.length - (intOf i).toNat)
  case atStart => exact ⟨0, rfl, by omega, Lib.hid (by rw [List.take_zero]; have := h2.out.1; simpa [MWkb.ptsE] using this), Lib.hid h2.out.2⟩
  case round =>
    obtain ⟨k, rfl, hk, HSk, HKk⟩ := hrel
    by_cases hlt : k < pts.length
    · obtain ⟨b, off, rfl, hb, x0, x1⟩ := HX.out k hlt
      have KB := RowOk.keepB HS.out.row HKk.out
      have x0 := KB.cell hb x0
      have x1 := KB.cell hb x1
      have htk := MWkb.ptsE_take (o := o) hlt
      have hle := MWkb.ptsE_take_le o pts (k + 1)
      obtain ⟨p, hp⟩ : ∃ p, pts[k] = p := ⟨_, rfl⟩
      rw [hp] at x0 x1 htk
      obtain ⟨px, py⟩ := p
      dsimp only at x0 x1
      have HTK := Lib.hid htk
      have HLT := Lib.hid hlt
      have S := Blk.new wr #[.int .i64 px, .int .i64 py] 41
      have HB : Hid (Bel wr (wr.alloc (.cells #[.int .i64 px, .int .i64 py] 41))) := Lib.hid ((Bel.refl wr).alloc (Nat.le_refl _) _)
      have HLL : Hid ((l ++ (MWkb.nm pts.length 4 o ++ MWkb.ptsE o (pts.take k))).length + 25 < 140737488355328) := Lib.hid (by
        rw [htk, List.length_append, MWkb.pt_len] at hle
        have := HL.out
        unfold MWkb.run at this
        rw [List.length_append] at this
        rw [List.length_append, List.length_append]
        omega)
      clear hp htk hle KB
      go_upto_region 4 with (fail)
      obtain ⟨w5, hW⟩ : ∃ X, wr.alloc (.cells #[.int .i64 px, .int .i64 py] 41) = X := ⟨_, rfl⟩
      rw [hW] at S HB ⊢
      obtain ⟨gp, hg⟩ : ∃ X, wr.heap.size = X := ⟨_, rfl⟩
      rw [hg] at S ⊢
      clear hW hg x0 x1
      have s0 : w5.cell? ⟨gp, 0, none⟩ = some (.int .i64 px) := Blk.cell S 0 rfl
      have s1 : w5.cell? ⟨gp, 1, none⟩ = some (.int .i64 py) := Blk.cell S 1 rfl
      have HPC := Lib.hid (point_calls w0 g o _ px py w5 (HSk.out.bel HB.out) HLL.out)
      clear S
      go_wp2_with (go_at_call 84; refine (HPC.out).mono ?_; rintro e w7 ⟨rfl, h7⟩)
      go_roundw
      case rel => exact ⟨k + 1, by go_num, by have := HLT.out; omega, Lib.hid (by rw [HTK.out]; have h9 := h7.out.1; rw [List.append_assoc, List.append_assoc] at h9; exact h9), Lib.hid ((HKk.out.trans (Kr.bel HB.out)).trans h7.out.2)⟩
      case measure => (have := HLT.out; simp [intOf] <;> omega)
    · have : k = pts.length := by omega
      subst this
      clear hlt hk
      go_wp2
      go_end0
      exact ⟨by first | rfl | simp, by have h9 := HSk.out; rw [List.take_length] at h9; exact h9, HKk.out⟩

end Go.Proofs.YtfknhpgelleenaaDoor.K
