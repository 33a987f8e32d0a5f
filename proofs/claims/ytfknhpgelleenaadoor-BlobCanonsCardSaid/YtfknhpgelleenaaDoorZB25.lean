/- What a claim leans on, part 25, cut by a program out of the texts WPeek1. -/
import Derived.Handy
import Derived.Test.YtfknhpgelleenaaDoorZB4
import Derived.Test.YtfknhpgelleenaaDoorZB8
import Derived.Test.YtfknhpgelleenaaDoorZB23
import Derived.Test.YtfknhpgelleenaaDoorZB24
section
namespace Go.Proofs.YtfknhpgelleenaaDoor.K
open Go Go.RowKit Go.Proofs.YtfknhpgelleenaaDoorW.PrintWords Go.Proofs.YtfknhpgelleenaaDoorW.PrintLast Go.Proofs.YtfknhpgelleenaaDoorW.PrintMore
set_option linter.unusedVariables false
set_option linter.unusedSimpArgs false
open Go.Proofs.YtfknhpgelleenaaDoor.MShape (Sh)
open Go.Proofs.YtfknhpgelleenaaDoor.MBox (Bx noneB zeroB good)
open Go.Proofs.YtfknhpgelleenaaDoor.MOct (getV many putL head be le)
open Go.Proofs.YtfknhpgelleenaaDoor.MPeek
open Go.Proofs.YtfknhpgelleenaaDoor.MRead (wrapI readS decodeS inI)
theorem getV_put4' (n : Int) (little : Bool) (rest : List Int) (h0 : 0 ≤ n) : getV (putL n 4 little ++ rest) 4 little = (n % 4294967296, true) := by
  have hm : many 4 = 4 := rfl
  have hl : (putL n 4 little).length = 4 := by rw [MOct.putL_length]; rfl
  unfold getV
  rw [if_neg (by rw [List.length_append, hl]; omega)]
  have e : head (putL n 4 little ++ rest) ((4 : Int).toNat) little = be n 4 := by
    show head (putL n 4 little ++ rest) 4 little = be n 4
    unfold head
    have e2 : (putL n 4 little ++ rest).take 4 = putL n 4 little := by rw [List.take_append_of_le_length (by omega), List.take_of_length_le (by omega)]
    rw [e2]
    unfold putL
    cases little
    · simp [hm]
    · simp only [if_true, hm]; exact MOct.le_reverse n 4
  rw [e, MOct.num_be n 4 h0]
  rfl
theorem srs_back {srs : Int} (h : srsOk srs = true) (o : Bool) (rest : List Int) : w32 (getV (MWkb.nm srs 4 o ++ rest) 4 o).1 = srs := by
  unfold srsOk at h
  simp only [Bool.and_eq_true, decide_eq_true_eq] at h
  unfold MWkb.nm
  rw [getV_put4' _ o rest (MWkb.u64_in srs).1]
  unfold w32 MWkb.u64
  omega
theorem flags_back (o B n : Bool) (h : (B && n) = false) : bitB (flagsV o B n) 1 = o ∧ bitB (flagsV o B n) 2 = B ∧ bitB (flagsV o B n) 16 = n ∧ flagBad (flagsV o B n) = false := by
  cases o <;> cases B <;> cases n <;> first | decide | exact absurd h (by decide)
theorem at8_corn (o : Bool) (a : List Int) (ha : a.length = 8) (b : Bx) (hb : b.ok) (rest : List Int) : boxAt o (a ++ (corn o b ++ rest)) = ⟨false, b.lx, b.ly, b.hx, b.hy⟩ := by
  obtain ⟨h1, h2, h3, h4⟩ := hb
  have e : ∀ (x : Int) (r : List Int), MBox.I64 x → wrapI (getV (MWkb.nm x 8 o ++ r) 8 o).1 = x := fun x r hx => by
    rw [MRead.getV_nm8]
    exact MRead.wrapI_u64 ⟨hx.1, by have := hx.2; omega⟩
  have d8 : ∀ (x : Int) (r : List Int), (MWkb.nm x 8 o ++ r).drop 8 = r := fun x r => by
    rw [List.drop_append_of_le_length (by rw [MWkb.nm8]; omega), List.drop_of_length_le (by rw [MWkb.nm8]; omega), List.nil_append]
  have da : ∀ k, (a ++ (corn o b ++ rest)).drop (8 + k) = (corn o b ++ rest).drop k := fun k => by
    rw [List.drop_append, List.drop_of_length_le (by omega), List.nil_append, ha, Nat.add_sub_cancel_left]
  have c0 : corn o b ++ rest = MWkb.nm b.lx 8 o ++ (MWkb.nm b.hx 8 o ++ (MWkb.nm b.ly 8 o ++ (MWkb.nm b.hy 8 o ++ rest))) := by unfold corn; simp
  unfold boxAt at8
  rw [show (8 : Nat) = 8 + 0 from rfl, show (24 : Nat) = 8 + (8 + 8) from rfl, show (16 : Nat) = 8 + 8 from rfl, show (32 : Nat) = 8 + (8 + (8 + 8)) from rfl, da, da, da, da, c0]
  simp only [List.drop_zero, ← List.drop_drop, d8, e _ _ h1, e _ _ h2, e _ _ h3, e _ _ h4]
theorem box_step {b : Bx} {q : Int × Int} (hq : inI q.1 ∧ inI q.2) (h : b.ok ∧ (b.no = false → MBox.has b = true)) : (MBox.union b ⟨false, q.1, q.2, q.1, q.2⟩).ok ∧ ((MBox.union b ⟨false, q.1, q.2, q.1, q.2⟩).no = false → MBox.has (MBox.union b ⟨false, q.1, q.2, q.1, q.2⟩) = true) := by
  obtain ⟨⟨a1, a2⟩, ⟨a3, a4⟩⟩ := hq
  have hk : (⟨false, q.1, q.2, q.1, q.2⟩ : Bx).ok := by unfold MBox.Bx.ok MBox.I64; simp only; omega
  have hh : MBox.has (⟨false, q.1, q.2, q.1, q.2⟩ : Bx) = true := by simp [MBox.has]
  exact ⟨MBox.union_ok h.1 hk, fun _ => by rw [MBox.has_union, hh, Bool.or_true]⟩
theorem box_fold : ∀ (l : List (Int × Int)) (b : Bx), (∀ q ∈ l, inI q.1 ∧ inI q.2) → (b.ok ∧ (b.no = false → MBox.has b = true)) → (l.foldl (fun b p => MBox.union b ⟨false, p.1, p.2, p.1, p.2⟩) b).ok ∧ ((l.foldl (fun b p => MBox.union b ⟨false, p.1, p.2, p.1, p.2⟩) b).no = false → MBox.has (l.foldl (fun b p => MBox.union b ⟨false, p.1, p.2, p.1, p.2⟩) b) = true)
  | [], b, _, h => h
  | q :: l, b, hl, h => box_fold l _ (fun x hx => hl x (by simp [hx])) (box_step (hl q (by simp)) h)
theorem boxOf_fine {l : List (Int × Int)} (h : ∀ q ∈ l, inI q.1 ∧ inI q.2) : (boxOf l).ok ∧ ((boxOf l).no = false → good (boxOf l) = true) := by
  obtain ⟨h1, h2⟩ := box_fold l noneB h ⟨MBox.noneB_ok, fun e => by cases e⟩
  refine ⟨h1, fun e => ?_⟩
  have := h2 e
  rw [MBox.has_iff] at this
  unfold good
  rw [if_neg (by rw [e]; decide)]
  simp only [Bool.and_eq_true, decide_eq_true_eq]
  exact ⟨this.2.1, this.2.2⟩
/-- What stands ahead of a shape. -/
def hdL (o B n : Bool) (srs : Int) (b : Bx) : List Int := 71 :: 80 :: 0 :: flagsV o B n :: (MWkb.nm srs 4 o ++ (if B = true then corn o b else []))
theorem hdL_len (o B n : Bool) (srs : Int) (b : Bx) : (hdL o B n srs b).length = if B = true then 40 else 8 := by
  unfold hdL
  simp only [List.length_cons, List.length_append, MWkb.nm4]
  cases B
  · rfl
  · simp [corn_len]
theorem blobL_eq (o bx : Bool) (srs : Int) (s : Sh) (b : Bx) : blobL o bx srs s b = hdL o (bx && !b.no) b.no srs b ++ MWkb.enc o s := by
  unfold blobL hdL
  simp
/-- A head, and the flags of a blob that begins so. -/
def hdH (o B n : Bool) (srs : Int) (b : Bx) : Hd := ⟨srs, o, B, n, if B = true then b else noneB⟩
theorem wrong_hd {o B n : Bool} (hBn : (B && n) = false) (r : List Int) : wrongS (71 :: 80 :: 0 :: flagsV o B n :: r) = false := by
  have hf := (flags_back o B n hBn).2.2.2
  unfold wrongS
  rw [if_pos (by simp [magic]), if_neg (by simp)]
  exact hf
theorem peek_hd {o B n : Bool} {srs : Int} {b : Bx} (hBn : (B && n) = false) (hs : srsOk srs = true) (hb : b.ok) (hn : B = true → b.no = false ∧ good b = true) (T : List Int) :
    peekS (hdL o B n srs b ++ T) = .ok (hdH o B n srs b) (hdL o B n srs b).length := by
  obtain ⟨f1, f2, f3, f4⟩ := flags_back o B n hBn
  have hl := hdL_len o B n srs b
  have e0 : hdL o B n srs b ++ T = 71 :: 80 :: 0 :: flagsV o B n :: (MWkb.nm srs 4 o ++ ((if B = true then corn o b else []) ++ T)) := by unfold hdL; simp
  have hlen : (hdL o B n srs b ++ T).length = (hdL o B n srs b).length + T.length := List.length_append
  have hw : wrongS (hdL o B n srs b ++ T) = false := by rw [e0]; exact wrong_hd hBn _
  have hg : (hdL o B n srs b ++ T).getD 3 0 = flagsV o B n := by rw [e0]; rfl
  have hd4 : (hdL o B n srs b ++ T).drop 4 = MWkb.nm srs 4 o ++ ((if B = true then corn o b else []) ++ T) := by rw [e0]; rfl
  have hh : headS (flagsV o B n) (hdL o B n srs b ++ T) = ⟨srs, o, B, n, noneB⟩ := by
    unfold headS
    rw [f1, f2, f3, hd4, srs_back hs]
  unfold peekS
  rw [hw, hg, hh, f2, f1, hlen, hl]
  cases B
  · rw [if_neg (by decide), if_neg (by simp), if_pos rfl]
    rfl
  · rw [if_neg (by decide), if_neg (by simp; omega), if_neg (by decide), if_neg (by simp)]
    obtain ⟨h1, h2⟩ := hn rfl
    have hbx : boxAt o (hdL o true n srs b ++ T) = b := by
      have e1 : hdL o true n srs b ++ T = (71 :: 80 :: 0 :: flagsV o true n :: MWkb.nm srs 4 o) ++ (corn o b ++ T) := by unfold hdL; simp
      rw [e1, at8_corn o _ (by simp [MWkb.nm4]) b hb T]
      exact MBox.Bx.ext' h1.symm rfl rfl rfl rfl
    rw [hbx, if_pos h2]
    rfl
theorem sameH_refl (h : Hd) : sameH h h = true := by unfold sameH; simp [MBox.same_refl]
theorem readS_enc {s : Sh} (h : MShape.check s = 0) (hI : MRead.inS s) (o : Bool) : readS (MWkb.enc o s) = (s, 0) := by
  have := MRead.back_decode h hI o []
  rw [List.append_nil] at this
  unfold readS
  rw [this, if_neg (by simp)]
theorem enc_head (o : Bool) (s : Sh) : decide ((MWkb.enc o s).headD 0 = 1) = o := by
  obtain ⟨k, pts, ps⟩ := s
  unfold MWkb.enc
  cases o <;> rfl
/-- A blob that is made is opened. -/
theorem open_blob {s : Sh} (h : MShape.check s = 0) (hI : MRead.inS s) {srs : Int} (hs : srsOk srs = true) (o bx : Bool) :
    openS boxOf (blobL o bx srs s (boxOf s.flat)) = .ok (hdH o (bx && !(boxOf s.flat).no) (boxOf s.flat).no srs (boxOf s.flat)) s := by
  obtain ⟨hb, hgd⟩ := boxOf_fine hI
  obtain ⟨b, hbe⟩ : ∃ b, boxOf s.flat = b := ⟨_, rfl⟩
  rw [hbe] at hb hgd ⊢
  rw [blobL_eq]
  unfold openS
  rw [peek_hd (by cases bx <;> cases b.no <;> rfl) hs hb (fun e => by
    have : b.no = false := by cases hn : b.no with | false => rfl | true => rw [hn] at e; simp at e
    exact ⟨this, hgd this⟩)]
  simp only [List.drop_append_of_le_length (Nat.le_refl _), List.drop_length, List.nil_append]
  rw [readS_enc h hI o, if_neg (by simp), enc_head]
  simp only
  rw [hbe, if_pos]
  exact sameH_refl _
theorem peek_ne {b : List Int} {c : Int} (h : peekS b = .bad c) : c ≠ 0 := by
  unfold peekS at h
  split at h
  · injection h with e; omega
  split at h
  · injection h with e; omega
  split at h
  · cases h
  split at h
  · injection h with e; omega
  split at h
  · cases h
  · injection h with e; omega
theorem peek_short {b : List Int} (h : b.length < 8) : ∃ c, peekS b = .bad c := by
  unfold peekS
  by_cases hw : wrongS b = true
  · rw [if_pos hw]; exact ⟨9, rfl⟩
  · rw [if_neg hw, if_pos h]; exact ⟨8, rfl⟩
theorem open_peek {F : List (Int × Int) → Bx} {b : List Int} {c : Int} (h : peekS b = .bad c) : openS F b = .bad c := by unfold openS; rw [h]
theorem open_cut {s : Sh} (h : MShape.check s = 0) (hI : MRead.inS s) {srs : Int} (hs : srsOk srs = true) (o bx : Bool) {m : Nat} (hm : m < (blobL o bx srs s (boxOf s.flat)).length) :
    ∃ c, c ≠ 0 ∧ openS boxOf ((blobL o bx srs s (boxOf s.flat)).take m) = .bad c := by
  obtain ⟨hb, hgd⟩ := boxOf_fine hI
  obtain ⟨b, hbe⟩ : ∃ b, boxOf s.flat = b := ⟨_, rfl⟩
  rw [hbe] at hb hgd hm ⊢
  rw [blobL_eq] at hm ⊢
  obtain ⟨B, hB⟩ : ∃ B, (bx && !b.no) = B := ⟨_, rfl⟩
  have hBn : (B && b.no) = false := by rw [← hB]; cases bx <;> cases b.no <;> rfl
  have hfine : B = true → b.no = false ∧ good b = true := fun e => by
    have : b.no = false := by rw [e] at hBn; simpa using hBn
    exact ⟨this, hgd this⟩
  rw [hB] at hm ⊢
  have hl := hdL_len o B b.no srs b
  by_cases h8 : m < 8
  · obtain ⟨c, hc⟩ := peek_short (b := (hdL o B b.no srs b ++ MWkb.enc o s).take m) (by rw [List.length_take]; omega)
    exact ⟨c, peek_ne hc, open_peek hc⟩
  by_cases hmh : m < (hdL o B b.no srs b).length
  · have hBt : B = true := by
      cases B with
      | true => rfl
      | false => rw [hl] at hmh; simp at hmh; omega
    obtain ⟨k, rfl⟩ : ∃ k, m = k + 4 := ⟨m - 4, by omega⟩
    have e0 : (hdL o B b.no srs b ++ MWkb.enc o s).take (k + 4) = 71 :: 80 :: 0 :: flagsV o B b.no :: ((MWkb.nm srs 4 o ++ (if B = true then corn o b else [])) ++ MWkb.enc o s).take k := by unfold hdL; simp [List.take_succ_cons]
    have hlen : ((hdL o B b.no srs b ++ MWkb.enc o s).take (k + 4)).length = k + 4 := by rw [List.length_take]; omega
    have hw : wrongS ((hdL o B b.no srs b ++ MWkb.enc o s).take (k + 4)) = false := by rw [e0]; exact wrong_hd hBn _
    have hg : ((hdL o B b.no srs b ++ MWkb.enc o s).take (k + 4)).getD 3 0 = flagsV o B b.no := by rw [e0]; rfl
    have f2 := (flags_back o B b.no hBn).2.1
    have hp : peekS ((hdL o B b.no srs b ++ MWkb.enc o s).take (k + 4)) = .bad 8 := by
      unfold peekS
      rw [hw, hg, hlen, f2, hBt, if_neg (by decide), if_neg (by omega), if_neg (by decide), if_pos (by rw [hl, if_pos hBt] at hmh; omega)]
    exact ⟨8, by decide, open_peek hp⟩
  · have e1 : (hdL o B b.no srs b ++ MWkb.enc o s).take m = hdL o B b.no srs b ++ (MWkb.enc o s).take (m - (hdL o B b.no srs b).length) := by
      rw [List.take_append, List.take_of_length_le (by omega)]
    have hcut := MRead.cut_decode h hI o (m := m - (hdL o B b.no srs b).length) (by rw [List.length_append] at hm; omega)
    have hr : (readS ((MWkb.enc o s).take (m - (hdL o B b.no srs b).length))).2 = 8 := by
      unfold readS
      rw [hcut, if_neg (by simp)]
    refine ⟨8, by decide, ?_⟩
    rw [e1]
    unfold openS
    rw [peek_hd hBn hs hb hfine]
    simp only [List.drop_append_of_le_length (Nat.le_refl _), List.drop_length, List.nil_append]
    rw [hr, if_pos (by decide)]
theorem open_more {s : Sh} (h : MShape.check s = 0) (hI : MRead.inS s) {srs : Int} (hs : srsOk srs = true) (o bx : Bool) (x : Int) :
    ∃ c, c ≠ 0 ∧ openS boxOf (blobL o bx srs s (boxOf s.flat) ++ [x]) = .bad c := by
  obtain ⟨hb, hgd⟩ := boxOf_fine hI
  obtain ⟨b, hbe⟩ : ∃ b, boxOf s.flat = b := ⟨_, rfl⟩
  rw [hbe] at hb hgd ⊢
  rw [blobL_eq, List.append_assoc]
  have hr := MRead.more_read h hI o x
  refine ⟨9, by decide, ?_⟩
  unfold openS
  rw [peek_hd (by cases bx <;> cases b.no <;> rfl) hs hb (fun e => by
    have : b.no = false := by cases hn : b.no with | false => rfl | true => rw [hn] at e; simp at e
    exact ⟨this, hgd this⟩)]
  simp only [List.drop_append_of_le_length (Nat.le_refl _), List.drop_length, List.nil_append]
  rw [hr, if_pos (by decide)]
end Go.Proofs.YtfknhpgelleenaaDoor.K
end
