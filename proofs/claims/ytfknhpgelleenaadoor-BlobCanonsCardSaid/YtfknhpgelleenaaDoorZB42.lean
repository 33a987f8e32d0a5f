/- What a claim leans on, part 42, cut by a program out of the texts WLies2. -/
import Derived.Handy
import Derived.Test.YtfknhpgelleenaaDoorZB4
import Derived.Test.YtfknhpgelleenaaDoorZB25
import Derived.Test.YtfknhpgelleenaaDoorZB41
section
namespace Go.Proofs.YtfknhpgelleenaaDoor.K
open Go Go.RowKit Go.Proofs.YtfknhpgelleenaaDoorW.PrintWords Go.Proofs.YtfknhpgelleenaaDoorW.PrintLast Go.Proofs.YtfknhpgelleenaaDoorW.PrintMore
set_option linter.unusedVariables false
set_option linter.unusedSimpArgs false
open Go.Proofs.YtfknhpgelleenaaDoor.MShape (Sh flats)
open Go.Proofs.YtfknhpgelleenaaDoor.MBox (Bx noneB zeroB good)
open Go.Proofs.YtfknhpgelleenaaDoor.MOct (getV many putL head be le num)
open Go.Proofs.YtfknhpgelleenaaDoor.MPeek
open Go.Proofs.YtfknhpgelleenaaDoor.MRead (wrapI readS decodeS inI inS)
theorem peek_two (o : Bool) {R : List Int} (hl : 36 ≤ R.length) :
    peekS (71 :: 80 :: 0 :: flagsV o true false :: R) = if good (boxAt o (71 :: 80 :: 0 :: flagsV o true false :: R)) = true then .ok ⟨w32 (getV R 4 o).1, o, true, false, boxAt o (71 :: 80 :: 0 :: flagsV o true false :: R)⟩ 40 else .bad 9 := by
  obtain ⟨f1, f2, f3, f4⟩ := flags_back o true false rfl
  have hw := wrong_hd (o := o) (B := true) (n := false) rfl R
  have hg : (71 :: 80 :: 0 :: flagsV o true false :: R).getD 3 0 = flagsV o true false := rfl
  have hlen : (71 :: 80 :: 0 :: flagsV o true false :: R : List Int).length = R.length + 4 := rfl
  have hh : headS (flagsV o true false) (71 :: 80 :: 0 :: flagsV o true false :: R) = ⟨w32 (getV R 4 o).1, o, true, false, noneB⟩ := by
    unfold headS
    rw [f1, f2, f3]
    rfl
  unfold peekS
  rw [hw, hg, hlen, f2, f1, hh, if_neg (by decide), if_neg (by omega), if_neg (by decide), if_neg (by omega)]
theorem peek_one (o n : Bool) {R : List Int} (hl : 4 ≤ R.length) :
    peekS (71 :: 80 :: 0 :: flagsV o false n :: R) = .ok ⟨w32 (getV R 4 o).1, o, false, n, noneB⟩ 8 := by
  obtain ⟨f1, f2, f3, f4⟩ := flags_back o false n rfl
  have hw := wrong_hd (o := o) (B := false) (n := n) rfl R
  have hg : (71 :: 80 :: 0 :: flagsV o false n :: R).getD 3 0 = flagsV o false n := rfl
  have hlen : (71 :: 80 :: 0 :: flagsV o false n :: R : List Int).length = R.length + 4 := rfl
  have hh : headS (flagsV o false n) (71 :: 80 :: 0 :: flagsV o false n :: R) = ⟨w32 (getV R 4 o).1, o, false, n, noneB⟩ := by
    unfold headS
    rw [f1, f2, f3]
    rfl
  unfold peekS
  rw [hw, hg, hlen, f2, hh, if_neg (by decide), if_neg (by omega), if_pos rfl]
theorem open_lie {l : List Int} {hd : Hd} {k : Nat} {s : Sh} {o : Bool} (hp : peekS l = .ok hd k) (hd0 : l.drop k = MWkb.enc o s) (h : MShape.check s = 0) (hI : inS s)
    (hne : hd.low ≠ o ∨ hd.em ≠ (boxOf s.flat).no ∨ hd.bx = true ∧ hd.box ≠ boxOf s.flat) : ∃ c, c ≠ 0 ∧ openS boxOf l = .bad c := by
  refine ⟨9, by decide, ?_⟩
  unfold openS
  rw [hp]
  simp only
  rw [hd0, readS_enc h hI o, if_neg (by simp), enc_head, if_neg]
  intro hh
  unfold sameH wantS at hh
  simp only [Bool.and_eq_true, beq_iff_eq] at hh
  obtain ⟨-, h2, -, h4, h5⟩ := hh
  rcases hne with h | h | ⟨h, h'⟩
  · exact h h2
  · exact h h4
  · rw [if_pos h, MBox.same_iff] at h5
    exact h' h5
theorem drop_hd (f : Int) (X T : List Int) (k : Nat) (hk : X.length + 4 = k) : (71 :: 80 :: 0 :: f :: (X ++ T)).drop k = T := by
  show List.drop k ((71 :: 80 :: 0 :: f :: X) ++ T) = T
  exact List.drop_left' hk
theorem blob_set3 (o bx : Bool) (srs : Int) (s : Sh) (b : Bx) (f : Int) : (blobL o bx srs s b).set 3 f = 71 :: 80 :: 0 :: f :: ((MWkb.nm srs 4 o ++ (if (bx && !b.no) = true then corn o b else [])) ++ MWkb.enc o s) := by
  rw [blobL_eq]
  unfold hdL
  simp
theorem len36 (o : Bool) (srs : Int) (b : Bx) (T : List Int) : 36 ≤ ((MWkb.nm srs 4 o ++ corn o b) ++ T).length := by
  simp only [List.length_append, MWkb.nm4, corn_len]; omega
theorem len4 (o : Bool) (srs : Int) (T : List Int) : 4 ≤ ((MWkb.nm srs 4 o ++ []) ++ T).length := by
  simp only [List.length_append, MWkb.nm4]; omega
/-- Another order. -/
theorem lie_low {s : Sh} (h : MShape.check s = 0) (hI : inS s) (srs : Int) (o bx : Bool) {b : Bx} (hbe : boxOf s.flat = b) :
    ∃ c, c ≠ 0 ∧ openS boxOf ((blobL o bx srs s b).set 3 (flagsV (!o) (bx && !b.no) b.no)) = .bad c := by
  rw [blob_set3]
  have hlo : (!o) ≠ o := by cases o <;> decide
  cases hn : b.no with
  | true =>
    rw [show (bx && !true) = false by cases bx <;> rfl, if_neg (by decide)]
    exact open_lie (peek_one (!o) true (len4 o srs _)) (drop_hd _ _ _ 8 (by simp [MWkb.nm4])) h hI (.inl hlo)
  | false =>
    cases bx with
    | false =>
      rw [if_neg (by decide)]
      exact open_lie (peek_one (!o) false (len4 o srs _)) (drop_hd _ _ _ 8 (by simp [MWkb.nm4])) h hI (.inl hlo)
    | true =>
      rw [show (true && !false) = true from rfl, if_pos rfl]
      have hp := peek_two (!o) (len36 o srs b (MWkb.enc o s))
      split at hp
      · exact open_lie hp (drop_hd _ _ _ 40 (by simp [MWkb.nm4, corn_len])) h hI (.inl hlo)
      · exact ⟨9, by decide, open_peek hp⟩
/-- Another emptiness. -/
theorem lie_none {s : Sh} (h : MShape.check s = 0) (hI : inS s) (srs : Int) (o bx : Bool) {b : Bx} (hbe : boxOf s.flat = b) :
    ∃ c, c ≠ 0 ∧ openS boxOf ((blobL o bx srs s b).set 3 (flagsV o (bx && !b.no) (!b.no))) = .bad c := by
  rw [blob_set3]
  cases hn : b.no with
  | true =>
    rw [show (bx && !true) = false by cases bx <;> rfl, if_neg (by decide)]
    refine open_lie (peek_one o (!true) (len4 o srs _)) (drop_hd _ _ _ 8 (by simp [MWkb.nm4])) h hI (.inr (.inl ?_))
    rw [hbe, hn]
    exact Bool.noConfusion
  | false =>
    cases bx with
    | false =>
      rw [if_neg (by decide)]
      refine open_lie (peek_one o (!false) (len4 o srs _)) (drop_hd _ _ _ 8 (by simp [MWkb.nm4])) h hI (.inr (.inl ?_))
      rw [hbe, hn]
      exact Bool.noConfusion
    | true =>
      have hf : flagBad (flagsV o true true) = true := by cases o <;> decide
      refine ⟨9, by decide, open_peek ?_⟩
      unfold peekS
      rw [if_pos]
      unfold wrongS
      rw [if_pos (by simp [magic]), if_neg (by simp)]
      exact hf
theorem corn_boxAt {o : Bool} {a C T : List Int} (ha : a.length = 8) (hC : C.length = 32) (hb : bytesOk C) (hT : bytesOk T) : corn o (boxAt o (a ++ (C ++ T))) = C := by
  obtain ⟨L, hL⟩ : ∃ L, C ++ T = L := ⟨_, rfl⟩
  have hbL : bytesOk L := hL ▸ bytesOk_append hb hT
  have hlen : 32 ≤ L.length := by rw [← hL, List.length_append]; omega
  have ht : L.take 32 = C := by rw [← hL, ← hC]; exact List.take_left' rfl
  rw [hL]
  have da : ∀ k, (a ++ L).drop (8 + k) = L.drop k := fun k => by
    rw [List.drop_append, List.drop_of_length_le (by omega), List.nil_append, ha, Nat.add_sub_cancel_left]
  have hk : ∀ k, k + 8 ≤ 32 → MWkb.nm (at8 o (a ++ L) (8 + k)) 8 o = (L.drop k).take 8 := fun k hk => by
    unfold at8
    rw [da]
    exact put_at8 (bytesOk_dropL hbL k) (by rw [List.length_drop]; omega) o
  have e32 : L.take 32 = L.take 8 ++ ((L.drop 8).take 8 ++ ((L.drop 16).take 8 ++ (L.drop 24).take 8)) := by
    rw [show (32 : Nat) = 8 + (8 + (8 + 8)) from rfl, List.take_add, List.take_add, List.take_add, List.drop_drop, List.drop_drop]
  rw [← ht, e32]
  have h0 := hk 0 (by omega)
  have h1 := hk 8 (by omega)
  have h2 := hk 16 (by omega)
  have h3 := hk 24 (by omega)
  unfold corn boxAt
  simp only
  rw [show (8 : Nat) = 8 + 0 from rfl] at h0
  rw [List.drop_zero] at h0
  exact congr (congrArg HAppend.hAppend h0) (congr (congrArg HAppend.hAppend h1) (congr (congrArg HAppend.hAppend h2) h3))
theorem bytes_corn (o : Bool) (b : Bx) : bytesOk (corn o b) := bytesOk_append (bytes_nm _ _ _) (bytesOk_append (bytes_nm _ _ _) (bytesOk_append (bytes_nm _ _ _) (bytes_nm _ _ _)))
/-- Another box. -/
theorem lie_box {s : Sh} (h : MShape.check s = 0) (hI : inS s) (srs : Int) (o : Bool) {b : Bx} (hbe : boxOf s.flat = b) (hno : b.no = false) {j : Nat} (hj : j < 32) {v : Int} (hv : 0 ≤ v ∧ v < 256) (hne : v ≠ (blobL o true srs s b).getD (8 + j) 0) :
    ∃ c, c ≠ 0 ∧ openS boxOf ((blobL o true srs s b).set (8 + j) v) = .bad c := by
  have e0 : blobL o true srs s b = (71 :: 80 :: 0 :: flagsV o true false :: MWkb.nm srs 4 o) ++ (corn o b ++ MWkb.enc o s) := by
    rw [blobL_eq, hno]; unfold hdL; simp
  have hal : (71 :: 80 :: 0 :: flagsV o true false :: MWkb.nm srs 4 o).length = 8 := by simp [MWkb.nm4]
  rw [e0] at hne ⊢
  have e1 : ((71 :: 80 :: 0 :: flagsV o true false :: MWkb.nm srs 4 o) ++ (corn o b ++ MWkb.enc o s)).set (8 + j) v = (71 :: 80 :: 0 :: flagsV o true false :: MWkb.nm srs 4 o) ++ ((corn o b).set j v ++ MWkb.enc o s) := by
    rw [List.set_append_right _ _ (by omega), hal, Nat.add_sub_cancel_left, List.set_append_left _ _ (by rw [corn_len]; omega)]
  have e2 : ((71 :: 80 :: 0 :: flagsV o true false :: MWkb.nm srs 4 o) ++ (corn o b ++ MWkb.enc o s)).getD (8 + j) 0 = (corn o b).getD j 0 := by
    rw [List.getD_eq_getElem?_getD, List.getD_eq_getElem?_getD, List.getElem?_append_right (by omega), hal, Nat.add_sub_cancel_left, List.getElem?_append_left (by rw [corn_len]; omega)]
  rw [e2] at hne
  rw [e1]
  have hcl : ((corn o b).set j v).length = 32 := by rw [List.length_set, corn_len]
  have hcb : bytesOk ((corn o b).set j v) := fun x hx => by
    rcases List.mem_or_eq_of_mem_set hx with hx | rfl
    · exact bytes_corn o b x hx
    · exact hv
  have hC := corn_boxAt (o := o) hal hcl hcb (bytes_enc o s)
  have hbx : boxAt o ((71 :: 80 :: 0 :: flagsV o true false :: MWkb.nm srs 4 o) ++ ((corn o b).set j v ++ MWkb.enc o s)) ≠ b := by
    intro e
    rw [e] at hC
    apply hne
    rw [hC, List.getD_eq_getElem?_getD, List.getElem?_set_self (by rw [corn_len]; omega)]
    rfl
  have hp := peek_two o (R := MWkb.nm srs 4 o ++ ((corn o b).set j v ++ MWkb.enc o s)) (by simp only [List.length_append, MWkb.nm4, hcl]; omega)
  have hp' : peekS ((71 :: 80 :: 0 :: flagsV o true false :: MWkb.nm srs 4 o) ++ ((corn o b).set j v ++ MWkb.enc o s)) = _ := hp
  split at hp'
  · refine open_lie (o := o) hp' ?_ h hI (.inr (.inr ⟨rfl, ?_⟩))
    · rw [← List.append_assoc]
      exact List.drop_left' (by rw [List.length_append, hal, hcl])
    · rw [hbe]
      exact hbx
  · exact ⟨9, by decide, open_peek hp'⟩
/-- A bit turned. -/
theorem xor_flag (o B n : Bool) : Go.bits .xor .u8 (flagsV o B n) 1 = flagsV (!o) B n ∧ Go.bits .xor .u8 (flagsV o B n) 16 = flagsV o B (!n) := by
  cases o <;> cases B <;> cases n <;> decide
theorem xor_bit {x : Int} (h : 0 ≤ x ∧ x < 256) {k : Nat} (hk : k < 8) : (0 ≤ Go.bits .xor .u8 x (2 ^ k) ∧ Go.bits .xor .u8 x (2 ^ k) < 256) ∧ Go.bits .xor .u8 x (2 ^ k) ≠ x := by
  have hall : ∀ n : Fin 256, ∀ k : Fin 8, (0 ≤ Go.bits .xor .u8 ((n.val : Nat) : Int) (2 ^ k.val) ∧ Go.bits .xor .u8 ((n.val : Nat) : Int) (2 ^ k.val) < 256) ∧ Go.bits .xor .u8 ((n.val : Nat) : Int) (2 ^ k.val) ≠ ((n.val : Nat) : Int) := by decide +kernel
  have := hall ⟨x.toNat, by omega⟩ ⟨k, hk⟩
  simpa only [Int.toNat_of_nonneg h.1] using this
theorem peek_parts {l : List Int} {hd : Hd} {k : Nat} (hp : peekS l = .ok hd k) : ∃ a b c f R, l = a :: b :: c :: f :: R ∧ 4 ≤ R.length ∧ hd.low = bitB f 1 ∧ hd.srs = w32 (getV R 4 (bitB f 1)).1 ∧ (k = 8 ∨ k = 40) := by
  have h8 : 8 ≤ l.length := by
    apply Nat.le_of_not_lt
    intro h
    obtain ⟨c, hc⟩ := peek_short h
    rw [hc] at hp
    cases hp
  match l, h8 with
  | a :: b :: c :: f :: R, h8 =>
    refine ⟨a, b, c, f, R, rfl, by simp at h8; omega, ?_⟩
    unfold peekS at hp
    split at hp
    · cases hp
    split at hp
    · cases hp
    split at hp
    · injection hp with e1 e2
      subst e1 e2
      exact ⟨rfl, rfl, .inl rfl⟩
    split at hp
    · cases hp
    split at hp
    · injection hp with e1 e2
      subst e1 e2
      exact ⟨rfl, rfl, .inr rfl⟩
    · cases hp
theorem peek_retag {a b c f : Int} {R : List Int} {hd : Hd} {k : Nat} {srs : Int} (hR : 4 ≤ R.length) (hp : peekS (a :: b :: c :: f :: R) = .ok hd k) (hs : srsOk srs = true) :
    peekS (a :: b :: c :: f :: (MWkb.nm srs 4 (bitB f 1) ++ R.drop 4)) = .ok { hd with srs := srs } k ∧ (a :: b :: c :: f :: (MWkb.nm srs 4 (bitB f 1) ++ R.drop 4)).drop k = (a :: b :: c :: f :: R).drop k := by
  have hlen : (MWkb.nm srs 4 (bitB f 1) ++ R.drop 4).length = R.length := by rw [List.length_append, MWkb.nm4, List.length_drop]; omega
  have hdr : ∀ j, (MWkb.nm srs 4 (bitB f 1) ++ R.drop 4).drop (4 + j) = R.drop (4 + j) := fun j => by
    rw [List.drop_append, List.drop_of_length_le (by rw [MWkb.nm4]; omega), List.nil_append, MWkb.nm4, Nat.add_sub_cancel_left, List.drop_drop]
  have hhd : headS f (a :: b :: c :: f :: (MWkb.nm srs 4 (bitB f 1) ++ R.drop 4)) = { headS f (a :: b :: c :: f :: R) with srs := srs } := by
    unfold headS
    have : (a :: b :: c :: f :: (MWkb.nm srs 4 (bitB f 1) ++ R.drop 4)).drop 4 = MWkb.nm srs 4 (bitB f 1) ++ R.drop 4 := rfl
    rw [this, srs_back hs]
  have hbox : boxAt (bitB f 1) (a :: b :: c :: f :: (MWkb.nm srs 4 (bitB f 1) ++ R.drop 4)) = boxAt (bitB f 1) (a :: b :: c :: f :: R) := by
    have e : ∀ j, at8 (bitB f 1) (a :: b :: c :: f :: (MWkb.nm srs 4 (bitB f 1) ++ R.drop 4)) (4 + j + 4) = at8 (bitB f 1) (a :: b :: c :: f :: R) (4 + j + 4) := fun j => by
      unfold at8
      show wrapI (getV ((MWkb.nm srs 4 (bitB f 1) ++ R.drop 4).drop (4 + j)) 8 _).1 = wrapI (getV (R.drop (4 + j)) 8 _).1
      rw [hdr]
    unfold boxAt
    rw [e 0, e 8, e 16, e 24]
  have hw : wrongS (a :: b :: c :: f :: (MWkb.nm srs 4 (bitB f 1) ++ R.drop 4)) = wrongS (a :: b :: c :: f :: R) := by
    unfold wrongS
    simp only [List.length_cons, hlen]
    rfl
  have hk : ∀ j, (a :: b :: c :: f :: (MWkb.nm srs 4 (bitB f 1) ++ R.drop 4)).drop (4 + j + 4) = (a :: b :: c :: f :: R).drop (4 + j + 4) := fun j => hdr j
  unfold peekS at hp ⊢
  have hg : ∀ X : List Int, (a :: b :: c :: f :: X).getD 3 0 = f := fun _ => rfl
  simp only [hw, hg, hhd, hbox, List.length_cons, hlen] at hp ⊢
  split at hp
  · cases hp
  rename_i c1
  rw [if_neg c1]
  split at hp
  · cases hp
  rename_i c2
  rw [if_neg c2]
  split at hp
  · rename_i c3
    rw [if_pos c3]
    injection hp with e1 e2
    subst e1 e2
    exact ⟨rfl, hk 0⟩
  rename_i c3
  rw [if_neg c3]
  split at hp
  · cases hp
  rename_i c4
  rw [if_neg c4]
  split at hp
  · rename_i c5
    rw [if_pos c5]
    injection hp with e1 e2
    subst e1 e2
    exact ⟨rfl, hk 32⟩
  · cases hp
/-- With another reference system. -/
def tagL (l : List Int) (srs : Int) (low : Bool) : List Int := l.take 4 ++ MWkb.nm srs 4 low ++ l.drop 8
theorem open_ok {F : List (Int × Int) → Bx} {l : List Int} {hd : Hd} {s : Sh} (h : openS F l = .ok hd s) : ∃ k, peekS l = .ok hd k ∧ (readS (l.drop k)).2 = 0 ∧ s = (readS (l.drop k)).1 ∧ sameH hd (wantS hd (decide ((l.drop k).headD 0 = 1)) (F s.flat)) = true := by
  unfold openS at h
  split at h
  · cases h
  rename_i hd' k hp
  split at h
  · cases h
  rename_i h1
  split at h
  · rename_i h2
    injection h with e1 e2
    subst e1 e2
    exact ⟨k, hp, Decidable.of_not_not h1, rfl, h2⟩
  · cases h
theorem sameH_srs (hd : Hd) (srs : Int) (low : Bool) (b : Bx) : sameH { hd with srs := srs } (wantS { hd with srs := srs } low b) = sameH hd (wantS hd low b) := by
  unfold sameH wantS
  simp
theorem open_retag {F : List (Int × Int) → Bx} {l : List Int} {hd : Hd} {s : Sh} {srs : Int} (h : openS F l = .ok hd s) (hs : srsOk srs = true) : openS F (tagL l srs hd.low) = .ok { hd with srs := srs } s := by
  obtain ⟨k, hp, h1, h2, h3⟩ := open_ok h
  obtain ⟨a, b, c, f, R, rfl, hR, hlo, -, -⟩ := peek_parts hp
  obtain ⟨p1, p2⟩ := peek_retag hR hp hs
  have e : tagL (a :: b :: c :: f :: R) srs hd.low = a :: b :: c :: f :: (MWkb.nm srs 4 (bitB f 1) ++ R.drop 4) := by rw [hlo]; rfl
  rw [e]
  unfold openS
  rw [p1]
  simp only
  rw [p2, if_neg (by rw [h1]; simp), ← h2, sameH_srs, if_pos h3]
theorem tag_len {F : List (Int × Int) → Bx} {l : List Int} {hd : Hd} {s : Sh} (srs : Int) (h : openS F l = .ok hd s) : (tagL l srs hd.low).length = l.length ∧ 8 ≤ l.length := by
  obtain ⟨k, hp, h1, h2, h3⟩ := open_ok h
  obtain ⟨a, b, c, f, R, rfl, hR, hlo, -, -⟩ := peek_parts hp
  unfold tagL
  simp only [List.length_append, MWkb.nm4, List.length_take, List.length_drop, List.length_cons]
  omega
theorem open_srs {F : List (Int × Int) → Bx} {l : List Int} {hd : Hd} {s : Sh} (h : openS F l = .ok hd s) : srsOk hd.srs = true := by
  obtain ⟨k, hp, h1, h2, h3⟩ := open_ok h
  obtain ⟨a, b, c, f, R, rfl, hR, hlo, hsr, -⟩ := peek_parts hp
  rw [hsr]
  exact w32_srs _
/-- And back. -/
theorem tag_back {F : List (Int × Int) → Bx} {l : List Int} {hd : Hd} {s : Sh} (srs : Int) (hb : bytesOk l) (h : openS F l = .ok hd s) : tagL (tagL l srs hd.low) hd.srs hd.low = l := by
  obtain ⟨k, hp, h1, h2, h3⟩ := open_ok h
  obtain ⟨a, b, c, f, R, rfl, hR, hlo, hsr, -⟩ := peek_parts hp
  have hbR : bytesOk R := fun x hx => hb x (by simp [hx])
  have e : ∀ X : List Int, tagL (a :: b :: c :: f :: X) hd.srs hd.low = a :: b :: c :: f :: (MWkb.nm hd.srs 4 hd.low ++ X.drop 4) := fun _ => rfl
  have e1 : tagL (a :: b :: c :: f :: R) srs hd.low = a :: b :: c :: f :: (MWkb.nm srs 4 hd.low ++ R.drop 4) := rfl
  rw [e1, e, List.drop_left' (MWkb.nm4 _ _), hlo, hsr, put_w32 hbR hR, List.take_append_drop]
/-- What is opened is a shape that may be. -/
theorem open_fine {F : List (Int × Int) → Bx} {l : List Int} {hd : Hd} {s : Sh} (hb : bytesOk l) (h : openS F l = .ok hd s) : MShape.check s = 0 ∧ inS s := by
  obtain ⟨k, hp, h1, h2, h3⟩ := open_ok h
  rw [h2]
  exact ⟨(MRead.read_is h1).1, read_in (bytesOk_dropL hb k) h1⟩
end Go.Proofs.YtfknhpgelleenaaDoor.K
end
