/- What a claim leans on, part 41, cut by a program out of the texts WLies1. -/
import Derived.Handy
import Derived.Test.YtfknhpgelleenaaDoorZB4
import Derived.Test.YtfknhpgelleenaaDoorZB25
section
namespace Go.Proofs.YtfknhpgelleenaaDoor.K
open Go Go.RowKit Go.Proofs.YtfknhpgelleenaaDoorW.PrintWords Go.Proofs.YtfknhpgelleenaaDoorW.PrintLast Go.Proofs.YtfknhpgelleenaaDoorW.PrintMore
set_option linter.unusedVariables false
set_option linter.unusedSimpArgs false
open Go.Proofs.YtfknhpgelleenaaDoor.MShape (Sh flats)
open Go.Proofs.YtfknhpgelleenaaDoor.MBox (Bx noneB zeroB good)
open Go.Proofs.YtfknhpgelleenaaDoor.MOct (getV many putL head be le num)
open Go.Proofs.YtfknhpgelleenaaDoor.MPeek
open Go.Proofs.YtfknhpgelleenaaDoor.MRead
theorem num_fold (l : List Int) : ∀ x : Int, l.foldl (fun a b => a * 256 + b) x = x * 256 ^ l.length + num l := by
  induction l with
  | nil => intro x; simp [num]
  | cons a l ih =>
    intro x
    have h0 := ih (0 * 256 + a)
    show List.foldl _ (x * 256 + a) l = x * 256 ^ (l.length + 1) + List.foldl _ (0 * 256 + a) l
    rw [ih (x * 256 + a), h0, Int.pow_succ, Int.zero_mul, Int.zero_add, Int.add_mul, Int.mul_assoc, Int.mul_comm 256, Int.add_assoc]
theorem be_mod (k : Nat) : ∀ n m : Int, be (n + m * 256 ^ k) k = be n k := by
  induction k with
  | zero => intro n m; rfl
  | succ k ih =>
    intro n m
    have hP : (0 : Int) < 256 ^ k := Int.pow_pos (by decide)
    have e : n + m * 256 ^ (k + 1) = n + (m * 256) * 256 ^ k := by rw [Int.pow_succ, Int.mul_assoc, Int.mul_comm 256]
    rw [e]
    show ((n + (m * 256) * 256 ^ k) / 256 ^ k % 256) :: be (n + (m * 256) * 256 ^ k) k = (n / 256 ^ k % 256) :: be n k
    rw [ih n (m * 256), Int.add_mul_ediv_right _ _ (by omega)]
    congr 1
    omega
theorem be_num : ∀ l : List Int, (∀ x ∈ l, 0 ≤ x ∧ x < 256) → be (num l) l.length = l
  | [], _ => rfl
  | a :: l, h => by
    have h1 := MOct.num_range l (fun x hx => h x (by simp [hx]))
    have ha := h a (by simp)
    have hP : (0 : Int) < 256 ^ l.length := Int.pow_pos (by decide)
    have e : num (a :: l) = num l + a * 256 ^ l.length := by
      show List.foldl _ (0 * 256 + a) l = _
      rw [num_fold, Int.zero_mul, Int.zero_add, Int.add_comm]
    rw [e]
    show ((num l + a * 256 ^ l.length) / 256 ^ l.length % 256) :: be (num l + a * 256 ^ l.length) l.length = a :: l
    rw [be_mod, be_num l (fun x hx => h x (by simp [hx])), Int.add_mul_ediv_right _ _ (by omega), Int.ediv_eq_zero_of_lt h1.1 h1.2]
    congr 1
    omega
theorem put_get {l : List Int} {k : Nat} (h1 : 1 ≤ k) (h8 : k ≤ 8) (hl : k ≤ l.length) (hb : bytesOk l) (o : Bool) : putL (getV l k o).1 k o = l.take k := by
  have hm : many (k : Int) = k := by unfold many; rw [if_neg (by omega)]; exact Int.toNat_natCast k
  have hv : (getV l k o).1 = num (head l k o) := by unfold getV; rw [if_neg (by omega), Int.toNat_natCast]
  have hlen := MOct.head_length l k o hl
  have hbe := be_num (head l k o) (MOct.head_range l k o hb)
  rw [hlen] at hbe
  rw [hv]
  unfold putL
  rw [hm]
  cases o
  · rw [if_neg (by decide), hbe]
    rfl
  · rw [if_pos rfl, ← List.reverse_reverse (le _ _), MOct.le_reverse, hbe]
    simp [head]
theorem get_range {l : List Int} {k : Nat} (h1 : 1 ≤ k) (h8 : k ≤ 8) (hb : bytesOk l) (o : Bool) : 0 ≤ (getV l k o).1 ∧ (getV l k o).1 < 256 ^ k := by
  unfold getV
  split
  · exact ⟨Int.le_refl _, Int.pow_pos (by decide)⟩
  · rename_i h
    rw [Int.toNat_natCast]
    have := MOct.num_range (head l k o) (MOct.head_range l k o hb)
    rwa [MOct.head_length l k o (by omega)] at this
theorem bytesOk_dropL {l : List Int} (h : bytesOk l) (k : Nat) : bytesOk (l.drop k) := fun x hx => h x (List.mem_of_mem_drop hx)
theorem bytesOk_take {l : List Int} (h : bytesOk l) (k : Nat) : bytesOk (l.take k) := fun x hx => h x (List.mem_of_mem_take hx)
theorem at8_in {l : List Int} (hb : bytesOk l) (o : Bool) : inI (wrapI (getV l 8 o).1) := by
  have h := get_range (k := 8) (by decide) (by decide) hb o
  have h2 : (256 : Int) ^ 8 = 18446744073709551616 := by decide
  rw [h2] at h
  unfold inI wrapI
  have h' : 0 ≤ (getV l 8 o).1 ∧ (getV l 8 o).1 < 18446744073709551616 := h
  split <;> omega
theorem put_at8 {l : List Int} (hb : bytesOk l) (hl : 8 ≤ l.length) (o : Bool) : MWkb.nm (wrapI (getV l 8 o).1) 8 o = l.take 8 := by
  have h := get_range (k := 8) (by decide) (by decide) hb o
  have h2 : (256 : Int) ^ 8 = 18446744073709551616 := by decide
  rw [h2] at h
  have h' : 0 ≤ (getV l 8 o).1 ∧ (getV l 8 o).1 < 18446744073709551616 := h
  have e : MWkb.u64 (wrapI (getV l 8 o).1) = (getV l 8 o).1 := by unfold MWkb.u64 wrapI; split <;> omega
  unfold MWkb.nm
  rw [e]
  exact put_get (k := 8) (by decide) (by decide) hl hb o
theorem put_w32 {l : List Int} (hb : bytesOk l) (hl : 4 ≤ l.length) (o : Bool) : MWkb.nm (w32 (getV l 4 o).1) 4 o = l.take 4 := by
  have h := get_range (k := 4) (by decide) (by decide) hb o
  have h2 : (256 : Int) ^ 4 = 4294967296 := by decide
  rw [h2] at h
  have h' : 0 ≤ (getV l 4 o).1 ∧ (getV l 4 o).1 < 4294967296 := h
  have hp := put_get (k := 4) (by decide) (by decide) hl hb o
  have hp' : putL (getV l 4 o).1 4 o = l.take 4 := hp
  obtain ⟨m, hm⟩ : ∃ m : Int, MWkb.u64 (w32 (getV l 4 o).1) = (getV l 4 o).1 + m * 256 ^ 4 := by
    rw [h2]
    unfold MWkb.u64 w32
    by_cases hh : (getV l 4 o).1 < 2147483648
    · exact ⟨0, by omega⟩
    · exact ⟨4294967295, by omega⟩
  unfold MWkb.nm
  rw [hm, ← hp']
  unfold putL
  have hmm : many 4 = 4 := rfl
  rw [hmm, ← List.reverse_reverse (le _ _), MOct.le_reverse, be_mod, ← List.reverse_reverse (le (getV l 4 o).1 4), MOct.le_reverse]
theorem w32_srs (n : Int) : srsOk (w32 n) = true := by
  unfold srsOk w32
  simp only [Bool.and_eq_true, decide_eq_true_eq]
  omega
def Al {α : Type} (F : List Int → Int → Int → Rs α) (P : α → Prop) : Prop := ∀ l p n a l' p' n', bytesOk l → F l p n = .ok a l' p' n' → P a ∧ bytesOk l'
def okQ (q : Int × Int) : Prop := inI q.1 ∧ inI q.2
def okPs (l : List (Int × Int)) : Prop := ∀ q ∈ l, okQ q
theorem ptD_in {l : List Int} (h : bytesOk l) (o : Bool) : okQ (ptD o l) := ⟨at8_in h o, at8_in (bytesOk_dropL h 8) o⟩
theorem ptsD_in (o : Bool) : ∀ (k : Nat) (l : List Int), bytesOk l → okPs (ptsD o k l)
  | 0, l, h => fun q hq => by simp [ptsD] at hq
  | k + 1, l, h => fun q hq => by
    unfold ptsD at hq
    rcases List.mem_cons.1 hq with rfl | hq
    · exact ptD_in h o
    · exact ptsD_in o k _ (bytesOk_dropL h 16) q hq
theorem al_run (o : Bool) : Al (runS o) okPs := by
  intro l p n a l' p' n' hb h
  unfold runS at h
  split at h
  · cases h
  · rename_i v l1 p1 n1 hn
    obtain ⟨-, -, -, -, rfl, -, -⟩ := number_ok hn
    injection h with e1 e2 e3 e4
    subst e1 e2
    exact ⟨ptsD_in o _ _ (bytesOk_dropL hb 4), bytesOk_dropL (bytesOk_dropL hb 4) _⟩
theorem al_one (o : Bool) : Al (oneS o) okPs := by
  intro l p n a l' p' n' hb h
  unfold oneS at h
  split at h
  · cases h
  split at h
  · injection h with e1 e2 e3 e4
    subst e1 e2
    exact ⟨fun q hq => by simp at hq, bytesOk_dropL hb 16⟩
  split at h
  · cases h
  · injection h with e1 e2 e3 e4
    subst e1 e2
    refine ⟨fun q hq => ?_, bytesOk_dropL hb 16⟩
    rw [List.mem_singleton.1 hq]
    exact ptD_in hb o
def inSs (l : List Sh) : Prop := okPs (flats l)
theorem flats_app : ∀ l m : List Sh, flats (l ++ m) = flats l ++ flats m
  | [], m => by simp [flats]
  | p :: l, m => by
    have := flats_app l m
    simp [flats, this]
theorem al_asPts {F : List Int → Int → Int → Rs (List (Int × Int))} (k : Int) (h : Al F okPs) : Al (fun l p n => asPts k (F l p n)) inS := by
  intro l p n a l' p' n' hb hh
  dsimp only at hh
  cases hF : F l p n with
  | bad c => rw [hF] at hh; cases hh
  | ok pts l1 p1 n1 =>
    rw [hF] at hh
    injection hh with e1 e2 e3 e4
    subst e1 e2
    obtain ⟨h1, h2⟩ := h _ _ _ _ _ _ _ hb hF
    refine ⟨fun q hq => h1 q ?_, h2⟩
    simpa [Sh.flat, flats] using hq
theorem al_asParts {F : List Int → Int → Int → Rs (List Sh)} (k : Int) (h : Al F inSs) : Al (fun l p n => asParts k (F l p n)) inS := by
  intro l p n a l' p' n' hb hh
  dsimp only at hh
  cases hF : F l p n with
  | bad c => rw [hF] at hh; cases hh
  | ok ps l1 p1 n1 =>
    rw [hF] at hh
    injection hh with e1 e2 e3 e4
    subst e1 e2
    obtain ⟨h1, h2⟩ := h _ _ _ _ _ _ _ hb hF
    refine ⟨fun q hq => h1 q ?_, h2⟩
    simpa [Sh.flat] using hq
theorem al_parts {F : List Int → Int → Int → Rs Sh} (h : Al F inS) : ∀ (k : Nat) (acc : List Sh), inSs acc → Al (partsS F k acc) inSs
  | 0, acc, ha, l, p, n, a, l', p', n', hb, hh => by
    unfold partsS at hh
    injection hh with e1 e2 e3 e4
    subst e1 e2
    exact ⟨ha, hb⟩
  | k + 1, acc, ha, l, p, n, a, l', p', n', hb, hh => by
    unfold partsS at hh
    cases hF : F l p n with
    | bad c => rw [hF] at hh; cases hh
    | ok s l1 p1 n1 =>
      rw [hF] at hh
      obtain ⟨h1, h2⟩ := h _ _ _ _ _ _ _ hb hF
      refine al_parts h k (acc ++ [s]) (fun q hq => ?_) _ _ _ _ _ _ _ h2 hh
      rw [flats_app] at hq
      rcases List.mem_append.1 hq with hq | hq
      · exact ha q hq
      · exact h1 q (by simpa [flats] using hq)
theorem al_bindN {α : Type} {P : α → Prop} {each most : Int} {o wh : Bool} {H : Int → List Int → Int → Int → Rs α} (h : ∀ v, Al (H v) P) : Al (bindS (numberS each o wh most) H) P := by
  intro l p n a l' p' n' hb hh
  unfold bindS at hh
  cases hF : numberS each o wh most l p n with
  | bad c => rw [hF] at hh; cases hh
  | ok v l1 p1 n1 =>
    rw [hF] at hh
    obtain ⟨-, -, -, -, rfl, -, -⟩ := number_ok hF
    exact h v _ _ _ _ _ _ _ (bytesOk_dropL hb 4) hh
theorem al_body {F : Int → List Int → Int → Int → Rs Sh} (h : ∀ k, Al (F k) inS) (k : Int) (o : Bool) : Al (bodyS F k o) inS := by
  intro l p n a l' p' n' hb hh
  unfold bodyS at hh
  split at hh
  · exact al_asPts 1 (al_one o) l p n a l' p' n' hb hh
  split at hh
  · exact al_asPts 2 (al_run o) l p n a l' p' n' hb hh
  split at hh
  · refine al_asParts 3 (F := ringsN o) ?_ l p n a l' p' n' hb hh
    rw [ringsN_eq]
    exact al_bindN (fun v => al_parts (al_asPts 0 (al_run o)) _ [] (fun q hq => by simp [flats] at hq))
  · refine al_asParts k (F := partsN (F (prtK k)) o) ?_ l p n a l' p' n' hb hh
    rw [partsN_eq]
    exact al_bindN (fun v => al_parts (h _) _ [] (fun q hq => by simp [flats] at hq))
theorem al_shape : ∀ (f : Nat) (kind : Int), Al (shapeS f kind) inS
  | 0, kind, [], p, n, a, l', p', n', hb, hh => by cases hh
  | 0, kind, _ :: _, p, n, a, l', p', n', hb, hh => by cases hh
  | f + 1, kind, [], p, n, a, l', p', n', hb, hh => by cases hh
  | f + 1, kind, b :: l, p, n, a, l', p', n', hb, hh => by
    have hbl : bytesOk l := fun x hx => hb x (by simp [hx])
    unfold shapeS at hh
    split at hh
    · cases hh
    unfold kindS at hh
    split at hh
    · cases hh
    split at hh
    · exact al_body (al_shape f) _ _ _ _ _ _ _ _ _ (bytesOk_dropL hbl 4) hh
    · cases hh
theorem read_in {l : List Int} (hb : bytesOk l) (h : (readS l).2 = 0) : inS (readS l).1 := by
  unfold readS at h ⊢
  split at h
  · cases h
  rename_i hc
  rw [if_neg hc]
  show inS (decodeS l).1
  have h0 : inS MRead.emptyS := fun q hq => by simp [MRead.emptyS, Sh.flat, flats] at hq
  unfold decodeS
  split
  · exact h0
  · rename_i s l' p n hs
    split
    · exact (al_shape 16 0 _ _ _ _ _ _ _ hb hs).1
    · exact h0
end Go.Proofs.YtfknhpgelleenaaDoor.K
end
