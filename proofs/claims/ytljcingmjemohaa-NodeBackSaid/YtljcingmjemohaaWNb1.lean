/- Laws of nodes and their bytes. -/
import Derived.Test.YtljcingmjemohaaKB
import Derived.Handy
import Derived.Test.YtljcingmjemohaaWNr1
namespace Go.Proofs.Ytljcingmjemohaa.K
open Go Go.RowKit Go.Proofs.YtljcingmjemohaaW.PrintWords Go.Proofs.YtljcingmjemohaaW.PrintLast Go.Proofs.YtljcingmjemohaaW.PrintMore
set_option linter.unusedVariables false
set_option linter.unusedSimpArgs false
open Go.Proofs.Ytljcingmjemohaa.MBox (Bx noneB has good)
open Go.Proofs.Ytljcingmjemohaa.MChoose (En En0)
open Go.Proofs.Ytljcingmjemohaa.MNd
open Go.Proofs.Ytljcingmjemohaa.MOct (getV many putL head be le num)
/-! ## bytes that are got, put again -/
theorem num_foldN (l : List Int) : ∀ x : Int, l.foldl (fun a b => a * 256 + b) x = x * 256 ^ l.length + num l := by
  induction l with
  | nil => intro x; simp [num]
  | cons a l ih =>
    intro x
    have h0 := ih (0 * 256 + a)
    show List.foldl _ (x * 256 + a) l = x * 256 ^ (l.length + 1) + List.foldl _ (0 * 256 + a) l
    rw [ih (x * 256 + a), h0, Int.pow_succ, Int.zero_mul, Int.zero_add, Int.add_mul, Int.mul_assoc, Int.mul_comm 256, Int.add_assoc]
theorem be_modN (k : Nat) : ∀ n m : Int, be (n + m * 256 ^ k) k = be n k := by
  induction k with
  | zero => intro n m; rfl
  | succ k ih =>
    intro n m
    have hP : (0 : Int) < 256 ^ k := Int.pow_pos (by decide)
    have e : n + m * 256 ^ (k + 1) = n + (m * 256) * 256 ^ k := by rw [Int.pow_succ, Int.mul_assoc, Int.mul_comm 256]
    rw [e]
    show ((n + (m * 256) * 256 ^ k) / 256 ^ k % 256) :: be (n + (m * 256) * 256 ^ k) k = (n / 256 ^ k % 256) :: be n k
    rw [ih n (m * 256), Int.add_mul_ediv_right _ _ (by omega)]
    congr 1
    omega
theorem be_numN : ∀ l : List Int, (∀ x ∈ l, 0 ≤ x ∧ x < 256) → be (num l) l.length = l
  | [], _ => rfl
  | a :: l, h => by
    have h1 := MOct.num_range l (fun x hx => h x (by simp [hx]))
    have ha := h a (by simp)
    have hP : (0 : Int) < 256 ^ l.length := Int.pow_pos (by decide)
    have e : num (a :: l) = num l + a * 256 ^ l.length := by
      show List.foldl _ (0 * 256 + a) l = _
      rw [num_foldN, Int.zero_mul, Int.zero_add, Int.add_comm]
    rw [e]
    show ((num l + a * 256 ^ l.length) / 256 ^ l.length % 256) :: be (num l + a * 256 ^ l.length) l.length = a :: l
    rw [be_modN, be_numN l (fun x hx => h x (by simp [hx])), Int.add_mul_ediv_right _ _ (by omega), Int.ediv_eq_zero_of_lt h1.1 h1.2]
    congr 1
    omega
theorem get8 {L : List Int} (hl : 8 ≤ L.length) (hb : bytesOk L) : (0 ≤ (getV L 8 false).1 ∧ (getV L 8 false).1 < 18446744073709551616) ∧ putL (getV L 8 false).1 8 false = L.take 8 := by
  have hv : (getV L 8 false).1 = num (head L 8 false) := by unfold getV; rw [if_neg (by omega)]; rfl
  have hlen := MOct.head_length L 8 false hl
  have hr := MOct.head_range L 8 false hb
  have h1 := MOct.num_range (head L 8 false) hr
  have h2 := be_numN (head L 8 false) hr
  rw [hlen] at h1 h2
  have e : (256 : Int) ^ 8 = 18446744073709551616 := by decide
  rw [e] at h1
  rw [hv]
  refine ⟨h1, ?_⟩
  unfold putL
  rw [if_neg (by decide)]
  exact h2
theorem put8_rd8 {L : List Int} (hl : 8 ≤ L.length) (hb : bytesOk L) : put8 (rd8 L) = L.take 8 := by
  obtain ⟨h1, h2⟩ := get8 hl hb
  have e : MOct.u64 (rd8 L) = (getV L 8 false).1 := by unfold MOct.u64 rd8 wrap64; omega
  unfold put8
  rw [e, h2]
theorem rd8_put8 {n : Int} (h : MBox.I64 n) (R : List Int) : rd8 (put8 n ++ R) = n := by
  unfold rd8 put8
  have hu := u64_lt n
  rw [MOct.getV_put (MOct.u64 n) false R hu.1 hu.2]
  unfold MBox.I64 at h
  simp only
  unfold MOct.u64 wrap64
  omega
theorem len8 {L : List Int} (h : L.length = 32) : L = L.take 8 ++ ((L.drop 8).take 8 ++ ((L.drop 16).take 8 ++ (L.drop 24).take 8)) := by
  have e32 : L.take 32 = L.take 8 ++ ((L.drop 8).take 8 ++ ((L.drop 16).take 8 ++ (L.drop 24).take 8)) := by
    rw [show (32 : Nat) = 8 + (8 + (8 + 8)) from rfl, List.take_add, List.take_add, List.take_add, List.drop_drop, List.drop_drop]
  rw [← e32, List.take_of_length_le (by omega)]
theorem parse_bytes {L : List Int} (h : L.length = 32) (hb : bytesOk L) (h0 : (parseV L).2 = 0) : has (parseV L).1 = true ∧ bytesV (parseV L).1 = L := by
  have hg : parseV L = (boxAt L, 0) := by
    unfold parseV at h0 ⊢
    rw [if_neg (by omega), if_neg (by omega)] at h0 ⊢
    split at h0
    · rename_i hg; rw [if_pos hg]
    · cases h0
  have hgd : good (boxAt L) = true := by
    unfold parseV at h0
    rw [if_neg (by omega), if_neg (by omega)] at h0
    split at h0
    · assumption
    · cases h0
  rw [hg]
  have hh : has (boxAt L) = true := by rw [← MBox.has_good, hgd]; rfl
  refine ⟨hh, ?_⟩
  have hn : ∀ k, k + 1 ≤ 4 → put8 (nthI L k) = (L.drop (8 * k)).take 8 := fun k hk => put8_rd8 (by rw [List.length_drop]; omega) (fun x hx => hb x (List.mem_of_mem_drop hx))
  unfold bytesV
  rw [if_pos hh]
  unfold boxAt
  simp only
  rw [hn 0 (by omega), hn 1 (by omega), hn 2 (by omega), hn 3 (by omega)]
  conv => rhs; rw [len8 h]
  simp
theorem bytes_parse {b : MBox.Bx} (hh : has b = true) (hok : b.ok) : parseV (bytesV b) = (b, 0) := by
  obtain ⟨h1, h2, h3, h4⟩ := hok
  have hi := (MBox.has_iff b).1 hh
  have e : bytesV b = put8 b.lx ++ (put8 b.hx ++ (put8 b.ly ++ put8 b.hy)) := by unfold bytesV; rw [if_pos hh]; simp
  have hlen : (bytesV b).length = 32 := by rw [e]; simp [put8_len]
  have d8 : ∀ (n : Int) (R : List Int) (k : Nat), (put8 n ++ R).drop (8 + k) = R.drop k := fun n R k => by
    rw [List.drop_append, List.drop_of_length_le (by rw [put8_len]; omega), List.nil_append, put8_len, Nat.add_sub_cancel_left]
  have n0 : nthI (bytesV b) 0 = b.lx := by rw [e]; exact rd8_put8 h1 _
  have n1 : nthI (bytesV b) 1 = b.hx := by
    unfold nthI; rw [e, show 8 * 1 = 8 + 0 from rfl, d8, List.drop_zero]; exact rd8_put8 h3 _
  have n2 : nthI (bytesV b) 2 = b.ly := by
    unfold nthI; rw [e, show 8 * 2 = 8 + (8 + 0) from rfl, d8, d8, List.drop_zero]; exact rd8_put8 h2 _
  have n3 : nthI (bytesV b) 3 = b.hy := by
    unfold nthI; rw [e, show 8 * 3 = 8 + (8 + (8 + 0)) from rfl, d8, d8, d8, List.drop_zero]
    have := rd8_put8 h4 []
    rw [List.append_nil] at this
    exact this
  have hb : boxAt (bytesV b) = b := by
    unfold boxAt
    rw [n0, n1, n2, n3]
    obtain ⟨no, lx, ly, hx, hy⟩ := b
    obtain rfl : no = false := hi.1
    rfl
  unfold parseV
  rw [if_neg (by omega), if_neg (by omega), hb, if_pos]
  have := MBox.has_good b
  rw [hh] at this
  simp only [Bool.and_eq_true] at this
  exact this.2
/-! ## nodes and their bytes -/
theorem ent_back {b : List Int} {k : Nat} (hb : bytesOk b) (hl : 2 + 40 * (k + 1) ≤ b.length) (hk : enOk b k = true) : entB (enAt b k) = (b.drop (2 + 40 * k)).take 40 := by
  have h0 : (parseV ((b.drop (10 + 40 * k)).take 32)).2 = 0 := by unfold enOk at hk; simpa using hk
  have hl32 : ((b.drop (10 + 40 * k)).take 32).length = 32 := by rw [List.length_take, List.length_drop]; omega
  obtain ⟨-, h2⟩ := parse_bytes hl32 (fun x hx => hb x (List.mem_of_mem_drop (List.mem_of_mem_take hx))) h0
  unfold entB enAt
  simp only
  rw [h2, put8_rd8 (by rw [List.length_drop]; omega) (fun x hx => hb x (List.mem_of_mem_drop hx))]
  have e : (b.drop (10 + 40 * k)) = (b.drop (2 + 40 * k)).drop 8 := by rw [List.drop_drop]; congr 1; omega
  rw [e, ← List.take_add]
theorem ents_back {b : List Int} (hb : bytesOk b) : ∀ k, 2 + 40 * k ≤ b.length → allOk b k = true → entsB (ensTo b k) = (b.drop 2).take (40 * k)
  | 0, _, _ => by simp [ensTo, entsB]
  | k + 1, hl, h => by
    unfold allOk at h
    simp only [Bool.and_eq_true] at h
    have ih := ents_back hb k (by omega) h.1
    have he := ent_back hb hl h.2
    rw [ensTo]
    unfold entsB at ih ⊢
    rw [List.flatMap_append, ih]
    simp only [List.flatMap_cons, List.flatMap_nil, List.append_nil]
    rw [he, show 40 * (k + 1) = 40 * k + 40 by omega, List.take_add, List.drop_drop]
/-- Bytes that are one lead back. -/
theorem parse_back {b : List Int} {lv : Int} {l : List En} (hb : bytesOk b) (h : parseN b = (lv, l, 0)) : bytesN lv l = b := by
  by_cases h1 : b.length < 2
  · rw [parse_short1 h1] at h; cases h
  have hr := hb _ (MOct.getD_mem b 1 (by omega))
  obtain ⟨N, hN⟩ : ∃ N, (b.getD 1 0).toNat = N := ⟨_, rfl⟩
  unfold parseN at h
  rw [hN] at h
  split at h
  · cases h
  split at h
  · cases h
  rename_i ho
  split at h
  · cases h
  rename_i hq
  injection h with e1 e2
  injection e2 with e2 e3
  subst e1 e2
  have hlen : b.length = 2 + 40 * N := by
    by_cases hc : b.length = 2 + 40 * N
    · exact hc
    · exact absurd (.inl hc) hq
  have hg : goodN (b.getD 0 0) (ensTo b N) = true := by
    cases hc : goodN (b.getD 0 0) (ensTo b N)
    · exact absurd (.inr hc) hq
    · rfl
  have ho' : allOk b N = true := by
    cases hc : allOk b N
    · exact absurd hc ho
    · rfl
  unfold bytesN
  rw [if_pos hg, ents_back hb N (by omega) ho', ensTo_len]
  have hN' : (N : Int) = b.getD 1 0 := by omega
  rw [hN', List.take_of_length_le (by rw [List.length_drop]; omega)]
  match b, h1 with
  | x :: y :: r, _ => rfl
  | [x], h1 => exact absurd (show [x].length < 2 by simp) h1
  | [], h1 => exact absurd (by decide) h1
/-- What entries may be: their numbers are a machine's. -/
def okEn (e : En) : Prop := MBox.I64 e.id ∧ e.bx.ok
theorem fine_has {l : List En} : ∀ {k : Nat}, fineTo l k = true → ∀ i, i < k → has (l.getD i En0).bx = true
  | 0, _, i, hi => by omega
  | k + 1, h, i, hi => by
    unfold fineTo at h
    simp only [Bool.and_eq_true] at h
    by_cases e : i = k
    · subst e; exact h.2.1
    · exact fine_has h.1 i (by omega)
theorem good_has {lv : Int} {l : List En} (h : goodN lv l = true) : ∀ e ∈ l, has e.bx = true := by
  intro e he
  obtain ⟨i, hi, rfl⟩ := List.getElem_of_mem he
  have hf : fineTo l l.length = true := by unfold goodN at h; simp only [Bool.and_eq_true] at h; exact h.1
  have := fine_has hf i hi
  rwa [getD_en hi] at this
theorem entB_len' {e : En} (h : has e.bx = true) : (entB e).length = 40 := by
  unfold entB bytesV
  rw [if_pos h]
  simp [put8_len]
theorem entsB_len' : ∀ {l : List En}, (∀ e ∈ l, has e.bx = true) → (entsB l).length = 40 * l.length
  | [], _ => rfl
  | e :: l, h => by
    have h1 := entsB_len' (l := l) (fun x hx => h x (by simp [hx]))
    have h2 := entB_len' (h e (by simp))
    unfold entsB at h1 ⊢
    simp only [List.flatMap_cons, List.length_append, List.length_cons, h1, h2]
    omega
theorem bytesN_len {lv : Int} {l : List En} (h : goodN lv l = true) : (bytesN lv l).length = 2 + 40 * l.length := by
  unfold bytesN
  rw [if_pos h, List.length_append, entsB_len' (good_has h)]
  rfl
theorem bytesOk_put8 (n : Int) : bytesOk (put8 n) := fun x hx => MOct.putL_range _ _ _ x hx
theorem bytesOk_ents : ∀ l : List En, bytesOk (entsB l)
  | [] => bytesOk_nil
  | e :: l => by
    have h1 := bytesOk_ents l
    have h2 : bytesOk (entB e) := by
      unfold entB bytesV
      split
      · exact bytesOk_append (bytesOk_put8 _) (bytesOk_append (bytesOk_append (bytesOk_append (bytesOk_put8 _) (bytesOk_put8 _)) (bytesOk_put8 _)) (bytesOk_put8 _))
      · exact bytesOk_append (bytesOk_put8 _) bytesOk_nil
    unfold entsB at h1 ⊢
    rw [List.flatMap_cons]
    exact bytesOk_append h2 h1
theorem bytesOk_N {lv : Int} {l : List En} : bytesOk (bytesN lv l) := by
  unfold bytesN
  split
  · rename_i h
    obtain ⟨h1, h2, h3⟩ := good_parts h
    refine bytesOk_append (fun x hx => ?_) (bytesOk_ents l)
    simp only [List.mem_cons, List.not_mem_nil, or_false] at hx
    rcases hx with rfl | rfl <;> omega
  · exact bytesOk_nil
theorem ents_at : ∀ {l : List En} {k : Nat} (hk : k < l.length) (R : List Int), (∀ e ∈ l, has e.bx = true) → ∃ R', (entsB l ++ R).drop (40 * k) = entB (l[k]'hk) ++ R'
  | e :: l, 0, hk, R, h => ⟨entsB l ++ R, by unfold entsB; simp⟩
  | e :: l, k + 1, hk, R, h => by
    obtain ⟨R', hR⟩ := ents_at (l := l) (k := k) (by simpa using hk) R (fun x hx => h x (by simp [hx]))
    refine ⟨R', ?_⟩
    have e1 : entsB (e :: l) ++ R = entB e ++ (entsB l ++ R) := by unfold entsB; simp
    have e2 : 40 * (k + 1) = (entB e).length + 40 * k := by rw [entB_len' (h e (by simp))]; omega
    rw [e1, e2, ← List.drop_drop, List.drop_left, hR]
    rfl
theorem en_back {b : List Int} {e : En} {k : Nat} {R : List Int} (h : b.drop (2 + 40 * k) = entB e ++ R) (hh : has e.bx = true) (hok : okEn e) : enAt b k = e ∧ enOk b k = true := by
  have e10 : b.drop (10 + 40 * k) = bytesV e.bx ++ R := by
    rw [show 10 + 40 * k = 2 + 40 * k + 8 by omega, ← List.drop_drop, h]
    unfold entB
    rw [List.append_assoc]
    exact List.drop_left' (put8_len _)
  have hl : (bytesV e.bx).length = 32 := by unfold bytesV; rw [if_pos hh]; simp [put8_len]
  have e32 : (b.drop (10 + 40 * k)).take 32 = bytesV e.bx := by rw [e10]; exact List.take_left' hl
  have hp := bytes_parse hh hok.2
  unfold enAt enOk
  rw [e32, hp, h]
  unfold entB
  rw [List.append_assoc, rd8_put8 hok.1]
  exact ⟨rfl, rfl⟩
theorem ens_back {b : List Int} {l : List En} {R : List Int} (h : b.drop 2 = entsB l ++ R) (hh : ∀ e ∈ l, has e.bx = true) (hok : ∀ e ∈ l, okEn e) : ∀ k, k ≤ l.length → ensTo b k = l.take k ∧ allOk b k = true
  | 0, _ => ⟨rfl, rfl⟩
  | k + 1, hk => by
    obtain ⟨i1, i2⟩ := ens_back h hh hok k (by omega)
    obtain ⟨R', hR⟩ := ents_at (l := l) (k := k) (by omega) R hh
    have hd : b.drop (2 + 40 * k) = entB (l[k]'(by omega)) ++ R' := by rw [← List.drop_drop, h, hR]
    obtain ⟨j1, j2⟩ := en_back hd (hh _ (List.getElem_mem _)) (hok _ (List.getElem_mem _))
    refine ⟨by rw [ensTo, i1, j1, List.take_succ_eq_append_getElem (by omega)], by rw [allOk, i2, j2]; rfl⟩
/-- A node that may be comes back from its bytes. -/
theorem bytes_back {lv : Int} {l : List En} (h : goodN lv l = true) (hok : ∀ e ∈ l, okEn e) : parseN (bytesN lv l) = (lv, l, 0) := by
  have hb : bytesN lv l = lv :: (l.length : Int) :: (entsB l ++ []) := by unfold bytesN; rw [if_pos h]; simp
  have hlen := bytesN_len h
  obtain ⟨h1, h2⟩ := ens_back (b := bytesN lv l) (l := l) (R := []) (by rw [hb]; rfl) (good_has h) hok l.length (Nat.le_refl _)
  rw [List.take_length] at h1
  have := parse_fine (b := bytesN lv l) (N := l.length) (by omega) (by rw [hb]; rfl) (by omega) h2 hlen (by rw [h1, hb]; exact h)
  rw [this, h1, hb]
  rfl
theorem bytes_cut {lv : Int} {l : List En} (h : goodN lv l = true) {m : Nat} (hm : m < (bytesN lv l).length) : parseN ((bytesN lv l).take m) = (0, [], 8) := by
  have hlen := bytesN_len h
  have hb : bytesN lv l = lv :: (l.length : Int) :: entsB l := by unfold bytesN; rw [if_pos h]; rfl
  have hl : ((bytesN lv l).take m).length = m := by rw [List.length_take]; omega
  by_cases h1 : m < 2
  · exact parse_short1 (by omega)
  · refine parse_short2 ?_
    obtain ⟨j, rfl⟩ : ∃ j, m = j + 2 := ⟨m - 2, by omega⟩
    have : ((bytesN lv l).take (j + 2)).getD 1 0 = l.length := by rw [hb]; rfl
    rw [this, hl]
    omega
theorem bytes_more {lv : Int} {l : List En} (h : goodN lv l = true) (x : Int) : parseN (bytesN lv l ++ [x]) = (0, [], 9) := by
  have hlen := bytesN_len h
  have hb : bytesN lv l = lv :: (l.length : Int) :: entsB l := by unfold bytesN; rw [if_pos h]; rfl
  have hl : (bytesN lv l ++ [x]).length = 2 + 40 * l.length + 1 := by rw [List.length_append, hlen]; rfl
  have hN : (bytesN lv l ++ [x]).getD 1 0 = (l.length : Int) := by rw [hb]; rfl
  cases ho : allOk (bytesN lv l ++ [x]) l.length
  · exact parse_box (by omega) hN (by omega) (Nat.le_refl _) ho
  · exact parse_end (by omega) hN (by omega) ho (.inl (by omega))
theorem holds_mono {a b x : MBox.Bx} (h : MBox.holds a x = true) : MBox.holds (MBox.union a b) x = true := by
  have h1 := MBox.holds_l a b
  rw [MBox.holds_iff] at h h1 ⊢
  rcases h with h | ⟨h2, h3, h4, h5, h6⟩
  · exact .inl h
  · rcases h1 with h1 | ⟨j2, j3, j4, j5, j6⟩
    · rw [h2] at h1; cases h1
    · exact .inr ⟨j2, by omega, by omega, by omega, by omega⟩
theorem bnd_holds (l : List En) : ∀ e ∈ l, MBox.holds (bnd l) e.bx = true := by
  have hk : ∀ k, k ≤ l.length → ∀ i (hi : i < k) (h2 : i < l.length), MBox.holds (bnd (l.take k)) (l[i]'h2).bx = true := by
    intro k
    induction k with
    | zero => intro _ i hi; omega
    | succ k ih =>
      intro hk i hi h2
      rw [bnd_take (by omega)]
      by_cases e : i = k
      · subst e; exact MBox.holds_r _ _
      · exact holds_mono (ih (by omega) i (by omega) h2)
  intro e he
  obtain ⟨i, hi, rfl⟩ := List.getElem_of_mem he
  have := hk l.length (Nat.le_refl _) i hi hi
  rwa [List.take_length] at this

end Go.Proofs.Ytljcingmjemohaa.K
