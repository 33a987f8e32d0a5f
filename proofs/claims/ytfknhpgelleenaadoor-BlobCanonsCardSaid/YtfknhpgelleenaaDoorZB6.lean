/- What a claim leans on, part 6, cut by a program out of the texts MRd. -/
import Derived.Test.YtfknhpgelleenaaDoorZB3
import Derived.Test.YtfknhpgelleenaaDoorZB5
section
namespace Go.Proofs.YtfknhpgelleenaaDoor.MRead
set_option linter.unusedVariables false
set_option linter.unusedSimpArgs false
open Go.Proofs.YtfknhpgelleenaaDoor
open Go.Proofs.YtfknhpgelleenaaDoor.MShape (Sh flats nodess nodes_pos nodess_nn)
open Go.Proofs.YtfknhpgelleenaaDoor.MOct (getV)
/-- What a step of the reader answers: a value, the bytes that are left, how many points and parts were met; or an error. -/
inductive Rs (α : Type) where
  | ok (a : α) (l : List Int) (p n : Int)
  | bad (c : Int)
def wrapI (n : Int) : Int := if n < 9223372036854775808 then n else n - 18446744073709551616
def ptD (o : Bool) (l : List Int) : Int × Int := (wrapI (getV l 8 o).1, wrapI (getV (l.drop 8) 8 o).1)
def ptsD (o : Bool) : Nat → List Int → List (Int × Int)
  | 0, _ => []
  | k + 1, l => ptD o l :: ptsD o k (l.drop 16)
theorem ptsD_length (o : Bool) (k : Nat) (l : List Int) : (ptsD o k l).length = k := by
  induction k generalizing l with
  | zero => rfl
  | succ k ih => simp [ptsD, ih]
theorem ptsD_add (o : Bool) (j k : Nat) (l : List Int) : ptsD o (j + k) l = ptsD o j l ++ ptsD o k (l.drop (16 * j)) := by
  induction j generalizing l with
  | zero => simp [ptsD]
  | succ j ih => rw [show j + 1 + k = (j + k) + 1 by omega, ptsD, ih, ptsD, List.cons_append, List.drop_drop, show 16 * (j + 1) = 16 + 16 * j by omega]
/-- How many: of so many bytes each at least; which: points (false) or parts. -/
def numberS (each : Int) (o which : Bool) (most : Int) (l : List Int) (p n : Int) : Rs Int :=
  if l.length < 4 then .bad 8
  else if (if which then n else p) + (getV l 4 o).1 > most then .bad 12
  else if (getV l 4 o).1 > ((l.drop 4).length : Int) / each then .bad 8
  else .ok (getV l 4 o).1 (l.drop 4) (if which then p else p + (getV l 4 o).1) (if which then n + (getV l 4 o).1 else n)
def runS (o : Bool) (l : List Int) (p n : Int) : Rs (List (Int × Int)) :=
  match numberS 16 o false 4000 l p n with
  | .bad c => .bad c
  | .ok v l' p' n' => .ok (ptsD o v.toNat l') (l'.drop (16 * v.toNat)) p' n'
def oneS (o : Bool) (l : List Int) (p n : Int) : Rs (List (Int × Int)) :=
  if l.length < 16 then .bad 8
  else if ptD o l = MWkb.nw then .ok [] (l.drop 16) p n
  else if p + 1 > 4000 then .bad 12
  else .ok [ptD o l] (l.drop 16) (p + 1) n
def ringsS (o : Bool) : Nat → List Sh → List Int → Int → Int → Rs (List Sh)
  | 0, acc, l, p, n => .ok acc l p n
  | k + 1, acc, l, p, n =>
    match runS o l p n with
    | .bad c => .bad c
    | .ok pts l' p' n' => ringsS o k (acc ++ [.mk 0 pts []]) l' p' n'
def partsS (F : List Int → Int → Int → Rs Sh) : Nat → List Sh → List Int → Int → Int → Rs (List Sh)
  | 0, acc, l, p, n => .ok acc l p n
  | k + 1, acc, l, p, n =>
    match F l p n with
    | .bad c => .bad c
    | .ok s l' p' n' => partsS F k (acc ++ [s]) l' p' n'
def prtK (k : Int) : Int := if k = 3 then 0 else if k = 4 then 1 else if k = 5 then 2 else if k = 6 then 3 else -1
def okKind (kind k : Int) : Prop := (1 ≤ k ∧ k ≤ 7) ∧ (kind < 1 ∨ k = kind)
instance (kind k : Int) : Decidable (okKind kind k) := by unfold okKind; infer_instance
/-- A list of points as a shape. -/
def asPts (k : Int) : Rs (List (Int × Int)) → Rs Sh
  | .bad c => .bad c
  | .ok pts l p n => .ok (.mk k pts []) l p n
def asParts (k : Int) : Rs (List Sh) → Rs Sh
  | .bad c => .bad c
  | .ok ps l p n => .ok (.mk k [] ps) l p n
def ringsN (o : Bool) (l : List Int) (p n : Int) : Rs (List Sh) :=
  match numberS 4 o true 1000 l p n with
  | .bad c => .bad c
  | .ok v l' p' n' => ringsS o v.toNat [] l' p' n'
def partsN (F : List Int → Int → Int → Rs Sh) (o : Bool) (l : List Int) (p n : Int) : Rs (List Sh) :=
  match numberS 9 o true 1000 l p n with
  | .bad c => .bad c
  | .ok v l' p' n' => partsS F v.toNat [] l' p' n'
/-- What stands behind the kind. -/
def bodyS (F : Int → List Int → Int → Int → Rs Sh) (k : Int) (o : Bool) (l : List Int) (p n : Int) : Rs Sh :=
  if k = 1 then asPts 1 (oneS o l p n) else if k = 2 then asPts 2 (runS o l p n) else if k = 3 then asParts 3 (ringsN o l p n) else asParts k (partsN (F (prtK k)) o l p n)
/-- The kind, and what stands behind it. -/
def kindS (F : Int → List Int → Int → Int → Rs Sh) (kind : Int) (o : Bool) (l : List Int) (p n : Int) : Rs Sh :=
  if l.length < 4 then .bad 8
  else if okKind kind (getV l 4 o).1 then bodyS F (getV l 4 o).1 o (l.drop 4) p n
  else .bad 9
/-- The shape that begins bytes; f: how much deeper it may go. -/
def shapeS : Nat → Int → List Int → Int → Int → Rs Sh
  | _, _, [], _, _ => .bad 8
  | 0, _, _ :: _, _, _ => .bad 10
  | f + 1, kind, b :: l, p, n => if b > 1 then .bad 9 else kindS (shapeS f) kind (decide (b = 1)) l p n
def emptyS : Sh := .mk 0 [] []
def decodeS (l : List Int) : Sh × Int × Int :=
  match shapeS 16 0 l 0 0 with
  | .bad c => (emptyS, 0, c)
  | .ok s l' _ _ => if MShape.check s = 0 then (s, (l.length : Int) - l'.length, 0) else (emptyS, 0, MShape.check s)
def readS (l : List Int) : Sh × Int :=
  if (decodeS l).2.2 = 0 ∧ (decodeS l).2.1 < l.length then (emptyS, 9) else ((decodeS l).1, (decodeS l).2.2)
end Go.Proofs.YtfknhpgelleenaaDoor.MRead
namespace Go.Proofs.YtfknhpgelleenaaDoor.MRead
set_option linter.unusedVariables false
set_option linter.unusedSimpArgs false
open Go.Proofs.YtfknhpgelleenaaDoor
open Go.Proofs.YtfknhpgelleenaaDoor.MShape (Sh flats nodess nodes_pos nodess_nn own right rights fits isKind partOf nowhere deeper deps deps_le dep_le)
open Go.Proofs.YtfknhpgelleenaaDoor.MOct
open Go.Proofs.YtfknhpgelleenaaDoor.MWkb (nm nm4 nm8 pt pt_len nw ptsE run ptsOf ringsE enc encs ptsE_len run_len u64_in)
theorem getV_put4 (n : Int) (little : Bool) (rest : List Int) (h0 : 0 ≤ n) (h1 : n < 4294967296) : getV (putL n 4 little ++ rest) 4 little = (n, true) := by
  have hm : many 4 = 4 := rfl
  have hl : (putL n 4 little).length = 4 := by rw [putL_length]; rfl
  unfold getV
  rw [if_neg (by rw [List.length_append, hl]; omega)]
  have e : head (putL n 4 little ++ rest) ((4 : Int).toNat) little = be n 4 := by
    show head (putL n 4 little ++ rest) 4 little = be n 4
    unfold head
    have e2 : (putL n 4 little ++ rest).take 4 = putL n 4 little := by rw [List.take_append_of_le_length (by omega), List.take_of_length_le (by omega)]
    rw [e2]
    unfold putL
    cases little
    · simp [hm]
    · simp only [if_true, hm]; exact le_reverse n 4
  rw [e, num_be n 4 h0, Int.emod_eq_of_lt h0 (by omega)]
theorem getV_nm4 (n : Int) (o : Bool) (rest : List Int) (h0 : 0 ≤ n) (h1 : n < 4294967296) : getV (nm n 4 o ++ rest) 4 o = (n, true) := by
  have e : MWkb.u64 n = n := by unfold MWkb.u64; omega
  unfold nm
  rw [e]
  exact getV_put4 n o rest h0 h1
theorem getV_nm8 (n : Int) (o : Bool) (rest : List Int) : getV (nm n 8 o ++ rest) 8 o = (MWkb.u64 n, true) := getV_put _ o rest (MWkb.u64_in n).1 (MWkb.u64_in n).2
def inI (x : Int) : Prop := -9223372036854775808 ≤ x ∧ x < 9223372036854775808
theorem wrapI_u64 {x : Int} (h : inI x) : wrapI (MWkb.u64 x) = x := by unfold inI at h; unfold wrapI MWkb.u64; split <;> omega
/-- A point that may stand in bytes. -/
def okP (p : Int × Int) : Prop := inI p.1 ∧ inI p.2 ∧ nowhere p = false
theorem okP.ne {p : Int × Int} (h : okP p) : p ≠ nw := by
  intro e
  have := h.2.2
  rw [e] at this
  cases this
theorem ptD_pt {o : Bool} {q : Int × Int} (h : inI q.1 ∧ inI q.2) (rest : List Int) : ptD o (pt o q ++ rest) = q := by
  unfold ptD pt
  rw [List.append_assoc, getV_nm8, List.drop_append_of_le_length (by rw [nm8]; omega), List.drop_of_length_le (by rw [nm8]; omega), List.nil_append, getV_nm8]
  simp only [wrapI_u64 h.1, wrapI_u64 h.2]
theorem drop_pt (o : Bool) (q : Int × Int) (rest : List Int) : (pt o q ++ rest).drop 16 = rest := by
  rw [List.drop_append_of_le_length (by rw [pt_len]; omega), List.drop_of_length_le (by rw [pt_len]; omega), List.nil_append]
theorem ptsD_ptsE {o : Bool} : ∀ {l : List (Int × Int)}, (∀ q ∈ l, okP q) → ∀ rest : List Int, ptsD o l.length (ptsE o l ++ rest) = l
  | [], _, rest => rfl
  | q :: l, h, rest => by
    have hq := h q (by simp)
    show ptD o (ptsE o (q :: l) ++ rest) :: ptsD o l.length ((ptsE o (q :: l) ++ rest).drop 16) = q :: l
    have e : ptsE o (q :: l) ++ rest = pt o q ++ (ptsE o l ++ rest) := by simp [ptsE]
    rw [e, ptD_pt ⟨hq.1, hq.2.1⟩, drop_pt, ptsD_ptsE (fun x hx => h x (by simp [hx]))]
theorem drop_nm4 (n : Int) (o : Bool) (rest : List Int) : (nm n 4 o ++ rest).drop 4 = rest := by
  rw [List.drop_append_of_le_length (by rw [nm4]; omega), List.drop_of_length_le (by rw [nm4]; omega), List.nil_append]
theorem number_put {each most v p n : Int} {o wh : Bool} {l : List Int} (h0 : 0 ≤ v) (h1 : (if wh then n else p) + v ≤ most) (h2 : v < 4294967296) (h3 : v ≤ (l.length : Int) / each) :
    numberS each o wh most (nm v 4 o ++ l) p n = .ok v l (if wh then p else p + v) (if wh then n + v else n) := by
  unfold numberS
  rw [if_neg (by rw [List.length_append, nm4]; omega), getV_nm4 v o l h0 h2, drop_nm4, if_neg (by omega), if_neg (by omega)]
/-- The four ways of numberS. -/
theorem number_ways (each most : Int) (o wh : Bool) (l : List Int) (p n : Int) :
    (l.length < 4 ∧ numberS each o wh most l p n = .bad 8) ∨ (¬ l.length < 4 ∧ most < (if wh then n else p) + (getV l 4 o).1 ∧ numberS each o wh most l p n = .bad 12) ∨
    (¬ l.length < 4 ∧ ¬ most < (if wh then n else p) + (getV l 4 o).1 ∧ ((l.drop 4).length : Int) / each < (getV l 4 o).1 ∧ numberS each o wh most l p n = .bad 8) ∨
    (¬ l.length < 4 ∧ ¬ most < (if wh then n else p) + (getV l 4 o).1 ∧ ¬ ((l.drop 4).length : Int) / each < (getV l 4 o).1 ∧ numberS each o wh most l p n = .ok (getV l 4 o).1 (l.drop 4) (if wh then p else p + (getV l 4 o).1) (if wh then n + (getV l 4 o).1 else n)) := by
  unfold numberS
  by_cases h1 : l.length < 4
  · exact .inl ⟨h1, if_pos h1⟩
  rw [if_neg h1]
  by_cases h2 : most < (if wh then n else p) + (getV l 4 o).1
  · exact .inr (.inl ⟨h1, h2, if_pos h2⟩)
  rw [if_neg (show ¬ (if wh then n else p) + (getV l 4 o).1 > most from h2)]
  by_cases h3 : ((l.drop 4).length : Int) / each < (getV l 4 o).1
  · exact .inr (.inr (.inl ⟨h1, h2, h3, if_pos h3⟩))
  · exact .inr (.inr (.inr ⟨h1, h2, h3, if_neg h3⟩))
theorem number_ok {each most : Int} {o wh : Bool} {l : List Int} {p n : Int} {v : Int} {l' : List Int} {p' n' : Int} (h : numberS each o wh most l p n = .ok v l' p' n') :
    ¬ l.length < 4 ∧ ¬ most < (if wh then n else p) + (getV l 4 o).1 ∧ ¬ ((l.drop 4).length : Int) / each < (getV l 4 o).1 ∧ v = (getV l 4 o).1 ∧ l' = l.drop 4 ∧ p' = (if wh then p else p + (getV l 4 o).1) ∧ n' = (if wh then n + (getV l 4 o).1 else n) := by
  rcases number_ways each most o wh l p n with ⟨_, h2⟩ | ⟨_, _, h2⟩ | ⟨_, _, _, h2⟩ | ⟨h1, h3, h4, h2⟩
  · rw [h2] at h; cases h
  · rw [h2] at h; cases h
  · rw [h2] at h; cases h
  · rw [h2] at h
    injection h with e1 e2 e3 e4
    exact ⟨h1, h3, h4, e1.symm, e2.symm, e3.symm, e4.symm⟩
theorem run_put {o : Bool} {l : List (Int × Int)} {p n : Int} (h : ∀ q ∈ l, okP q) (h0 : 0 ≤ p) (h1 : p + l.length ≤ 4000) (more : List Int) : runS o (run o l ++ more) p n = .ok l more (p + l.length) n := by
  unfold runS run
  rw [List.append_assoc, number_put (by omega) (by simpa using h1) (by omega) (by rw [List.length_append, ptsE_len]; omega)]
  simp only [Bool.false_eq_true, ↓reduceIte, Int.toNat_natCast]
  rw [ptsD_ptsE h, List.drop_append_of_le_length (by rw [ptsE_len]; omega), List.drop_of_length_le (by rw [ptsE_len]; omega), List.nil_append]
theorem one_put {o : Bool} {l : List (Int × Int)} {p n : Int} (h : ∀ q ∈ l, okP q) (hl : l.length ≤ 1) (h0 : 0 ≤ p) (h1 : p + l.length ≤ 4000) (more : List Int) : oneS o (pt o (l.headD nw) ++ more) p n = .ok l more (p + l.length) n := by
  unfold oneS
  rw [if_neg (by rw [List.length_append, pt_len]; omega), drop_pt]
  match l, hl with
  | [], _ =>
    have e : ptD o (pt o nw ++ more) = nw := ptD_pt (by unfold inI nw; omega) more
    show (if ptD o (pt o nw ++ more) = nw then Rs.ok [] more p n else if p + 1 > 4000 then Rs.bad 12 else Rs.ok [ptD o (pt o nw ++ more)] more (p + 1) n) = _
    rw [if_pos e]
    simp
  | [q], _ =>
    have hq := h q (by simp)
    have e : ptD o (pt o q ++ more) = q := ptD_pt ⟨hq.1, hq.2.1⟩ more
    show (if ptD o (pt o q ++ more) = nw then _ else if p + 1 > 4000 then _ else Rs.ok [ptD o (pt o q ++ more)] more (p + 1) n) = _
    rw [e, if_neg hq.ne, if_neg (by simp at h1; omega)]
    rfl
theorem enc_len9 (o : Bool) : ∀ s : Sh, 9 ≤ (enc o s).length
  | .mk k pts ps => by
    unfold enc
    rw [List.length_cons, List.length_append, nm4]
    split
    · rw [pt_len]; omega
    · split
      · rw [run_len]; omega
      · rw [List.length_append, nm4]; omega
theorem encs_len9 (o : Bool) : ∀ l : List Sh, 9 * l.length ≤ (encs o l).length
  | [] => by simp
  | p :: l => by
    have h1 := enc_len9 o p
    have h2 := encs_len9 o l
    unfold encs
    rw [List.length_append, List.length_cons]
    omega
theorem ringsE_len4 (o : Bool) : ∀ l : List Sh, 4 * l.length ≤ (ringsE o l).length
  | [] => by simp
  | p :: l => by
    have h2 := ringsE_len4 o l
    unfold ringsE
    rw [List.length_append, List.length_cons, run_len]
    omega
theorem nodess_len' : ∀ l : List Sh, (l.length : Int) ≤ nodess l
  | [] => by unfold nodess; simp
  | p :: ps => by have := nodess_len' ps; have := nodes_pos p; unfold nodess; simp only [List.length_cons]; omega
theorem deps_mem {k : Int} : ∀ {l : List Sh} {d m : Int} {q : Sh}, q ∈ l → q.dep (deeper k q.kind d) ≤ deps k l d m
  | p :: l, d, m, q, hq => by
    unfold deps
    rcases List.mem_cons.1 hq with rfl | h
    · have := MShape.deps_le k l d (MShape.mx m (q.dep (deeper k q.kind d)))
      have := MShape.mx_iff m (q.dep (deeper k q.kind d))
      omega
    · exact deps_mem h
/-- A ring of a polygon that may be. -/
theorem ring_is {q : Sh} (h : (fits 3 q.kind && right q) = true) : q = .mk 0 (ptsOf q) [] := by
  obtain ⟨k, pts, ps⟩ := q
  simp only [Bool.and_eq_true] at h
  have hk : k = 0 := by simpa [fits, partOf, Sh.kind] using h.1
  subst hk
  have h2 := h.2
  simp only [right, Bool.and_eq_true] at h2
  cases ps with
  | nil => rfl
  | cons a b => simp [rights, fits] at h2
theorem rings_put {o : Bool} {more : List Int} : ∀ {ps acc : List Sh} {p n : Int}, rights 3 ps = true → (∀ q ∈ flats ps, okP q) → 0 ≤ p → p + (flats ps).length ≤ 4000 →
    ringsS o ps.length acc (ringsE o ps ++ more) p n = .ok (acc ++ ps) more (p + (flats ps).length) n
  | [], acc, p, n, _, _, _, _ => by simp [ringsS, ringsE, flats]
  | q :: ps, acc, p, n, hr, hq, h0, h1 => by
    simp only [rights, Bool.and_eq_true] at hr
    have e := ring_is (q := q) (by simp only [Bool.and_eq_true]; exact hr.1)
    have ef : q.flat = ptsOf q := by rw [e]; simp [Sh.flat, flats, ptsOf]
    simp only [flats, List.length_append, Int.natCast_add] at h1 ⊢
    rw [ef] at h1 ⊢
    have hq1 : ∀ x ∈ ptsOf q, okP x := fun x hx => hq x (by simp only [flats, List.mem_append]; left; rw [ef]; exact hx)
    show (match runS o (ringsE o (q :: ps) ++ more) p n with | Rs.bad c => Rs.bad c | Rs.ok pts l' p' n' => ringsS o ps.length (acc ++ [Sh.mk 0 pts []]) l' p' n') = _
    have e2 : ringsE o (q :: ps) ++ more = run o (ptsOf q) ++ (ringsE o ps ++ more) := by simp [ringsE]
    rw [e2, run_put hq1 h0 (by omega)]
    simp only
    rw [rings_put hr.2 (fun x hx => hq x (by simp only [flats, List.mem_append]; right; exact hx)) (by omega) (by omega), ← e]
    simp [Int.add_assoc]
theorem rings_nodes : ∀ {ps : List Sh}, rights 3 ps = true → nodess ps = ps.length
  | [], _ => rfl
  | q :: ps, h => by
    simp only [rights, Bool.and_eq_true] at h
    have e := ring_is (q := q) (by simp only [Bool.and_eq_true]; exact h.1)
    have h2 := rings_nodes h.2
    unfold nodess
    rw [e, h2]
    simp only [Sh.nodes, nodess, List.length_cons]
    omega
mutual
/-- What is put is got. -/
theorem enc_put (o : Bool) : ∀ (s : Sh) (f : Nat) (kind d p n : Int) (more : List Int), right s = true → isKind s.kind = true → (kind < 1 ∨ s.kind = kind) → (f : Int) + d = 17 → s.dep d ≤ 16 → (∀ q ∈ s.flat, okP q) → 0 ≤ p → p + s.flat.length ≤ 4000 → 0 ≤ n → n + s.nodes - 1 ≤ 1000 →
    shapeS f kind (enc o s ++ more) p n = .ok s more (p + s.flat.length) (n + s.nodes - 1)
  | .mk k pts ps, f, kind, d, p, n, more, hr, hk, hkd, hf, hd, hq, hp0, hp, hn0, hn => by
    have hd1 := dep_le (.mk k pts ps) d
    match f, hf with
    | 0, hf => omega
    | f + 1, hf =>
    have hkk : 1 ≤ k ∧ k ≤ 7 := by simp only [isKind, Bool.and_eq_true] at hk; exact ⟨of_decide_eq_true hk.1, of_decide_eq_true hk.2⟩
    simp only [right, Bool.and_eq_true] at hr
    obtain ⟨hown, hrs⟩ := hr
    have hfl : (Sh.mk k pts ps).flat = pts ++ flats ps := by unfold Sh.flat; rfl
    have hnd : (Sh.mk k pts ps).nodes = 1 + nodess ps := by unfold Sh.nodes; rfl
    have hdp : (Sh.mk k pts ps).dep d = deps k ps d d := by unfold Sh.dep; rfl
    rw [hfl, List.length_append] at hp ⊢
    rw [hfl] at hq
    rw [hnd] at hn ⊢
    rw [hdp] at hd
    have e1 : enc o (.mk k pts ps) ++ more = MWkb.mark o :: (nm k 4 o ++ ((if k = 1 then pt o (pts.headD nw) else if k = 2 then run o pts else nm ps.length 4 o ++ (if k = 3 then ringsE o ps else encs o ps)) ++ more)) := by
      unfold enc; simp
    have e2 : decide (MWkb.mark o = 1) = o := by cases o <;> rfl
    have e3 : ¬ MWkb.mark o > 1 := by cases o <;> simp [MWkb.mark]
    rw [e1]
    show (if MWkb.mark o > 1 then Rs.bad 9 else kindS (shapeS f) kind (decide (MWkb.mark o = 1)) _ p n) = _
    rw [if_neg e3, e2]
    unfold kindS
    rw [if_neg (by rw [List.length_append, nm4]; omega), getV_nm4 k o _ (by omega) (by omega), if_pos (show okKind kind k from ⟨hkk, by rcases hkd with h | h; exact .inl h; exact .inr h⟩), drop_nm4]
    unfold bodyS
    simp only
    have hps0 : (k = 1 ∨ k = 2) → ps = [] := by
      intro h
      cases ps with
      | nil => rfl
      | cons a b =>
        simp only [rights, Bool.and_eq_true] at hrs
        have hf1 := hrs.1.1
        rw [show fits k a.kind = (a.kind == (-1 : Int)) by rcases h with rfl | rfl <;> rfl] at hf1
        have ha : a.kind = -1 := by simpa using hf1
        obtain ⟨ak, apts, aps⟩ := a
        simp only [Sh.kind] at ha
        subst ha
        have := hrs.1.2
        simp [right, own, isKind] at this
    have hpt0 : 3 ≤ k → pts = [] := by
      intro h
      unfold own at hown
      rw [if_neg (by omega), if_neg (by omega), if_neg (by omega)] at hown
      simp only [Bool.and_eq_true, decide_eq_true_eq] at hown
      exact List.length_eq_zero_iff.1 hown.2
    by_cases h1 : k = 1
    · obtain rfl := hps0 (.inl h1)
      subst h1
      rw [if_pos rfl, if_pos rfl]
      have hl1 : pts.length ≤ 1 := by simpa [own] using hown
      rw [one_put (fun q h => hq q (by simp [h])) hl1 hp0 (by simp [flats] at hp; omega)]
      simp [asPts, flats, nodess]
    rw [if_neg h1, if_neg h1]
    by_cases h2 : k = 2
    · obtain rfl := hps0 (.inr h2)
      subst h2
      rw [if_pos rfl, if_pos rfl]
      rw [run_put (fun q h => hq q (by simp [h])) hp0 (by simp [flats] at hp; omega)]
      simp [asPts, flats, nodess]
    rw [if_neg h2, if_neg h2]
    obtain rfl := hpt0 (by omega)
    have hlen := nodess_len' ps
    simp only [List.nil_append, List.length_nil, Int.natCast_add, Int.natCast_zero, Int.zero_add, Int.ofNat_eq_natCast] at hp hq ⊢
    by_cases h3 : k = 3
    · subst h3
      rw [if_pos rfl, if_pos rfl]
      have hl4 := ringsE_len4 o ps
      unfold ringsN
      rw [List.append_assoc, number_put (by omega) (by simp; omega) (by omega) (by rw [List.length_append]; omega)]
      simp only [↓reduceIte, Int.toNat_natCast]
      rw [rings_put hrs hq hp0 hp]
      have hnn : nodess ps = ps.length := rings_nodes hrs
      simp only [asParts, List.nil_append]
      rw [hnn]
      congr 1
      omega
    rw [if_neg h3, if_neg h3]
    have hl9 := encs_len9 o ps
    unfold partsN
    rw [List.append_assoc, number_put (by omega) (by simp; omega) (by omega) (by rw [List.length_append]; omega)]
    simp only [↓reduceIte, Int.toNat_natCast]
    rw [encs_put o ps k f (d + 1) p (n + ps.length) [] more hrs (by omega) hkk.2 (by omega) (fun q hq' => by
      have := deps_mem (k := k) (d := d) (m := d) hq'
      rw [show deeper k q.kind d = d + 1 by unfold deeper; rw [if_neg (by omega)]] at this
      omega) hq hp0 hp (by omega) (by omega)]
    simp only [asParts, List.nil_append]
    congr 1
    omega
theorem encs_put (o : Bool) : ∀ (ps : List Sh) (k : Int) (f : Nat) (d p n : Int) (acc : List Sh) (more : List Int), rights k ps = true → 4 ≤ k → k ≤ 7 → (f : Int) + d = 17 → (∀ q ∈ ps, q.dep d ≤ 16) → (∀ q ∈ flats ps, okP q) → 0 ≤ p → p + (flats ps).length ≤ 4000 → 0 ≤ n → n + nodess ps - ps.length ≤ 1000 →
    partsS (shapeS f (prtK k)) ps.length acc (encs o ps ++ more) p n = .ok (acc ++ ps) more (p + (flats ps).length) (n + nodess ps - ps.length)
  | [], k, f, d, p, n, acc, more, _, _, _, _, _, _, _, _, _, _ => by simp [partsS, encs, flats, nodess]
  | q :: ps, k, f, d, p, n, acc, more, hr, h4, h7, hf, hd, hq, hp0, hp, hn0, hn => by
    simp only [rights, Bool.and_eq_true] at hr
    obtain ⟨⟨hfit, hrq⟩, hrs⟩ := hr
    simp only [flats, List.length_append, Int.natCast_add, nodess, List.length_cons, Int.natCast_one] at hp hn ⊢
    have hnp := nodes_pos q
    have hns := nodess_len' ps
    have hkq : isKind q.kind = true ∧ (prtK k < 1 ∨ q.kind = prtK k) := by
      rcases (by omega : k = 4 ∨ k = 5 ∨ k = 6 ∨ k = 7) with rfl | rfl | rfl | rfl
      · have : q.kind = 1 := by simpa [fits, partOf] using hfit
        rw [this]; exact ⟨rfl, .inr rfl⟩
      · have : q.kind = 2 := by simpa [fits, partOf] using hfit
        rw [this]; exact ⟨rfl, .inr rfl⟩
      · have : q.kind = 3 := by simpa [fits, partOf] using hfit
        rw [this]; exact ⟨rfl, .inr rfl⟩
      · exact ⟨by simpa [fits, partOf] using hfit, .inl (by decide)⟩
    show (match shapeS f (prtK k) (encs o (q :: ps) ++ more) p n with | Rs.bad c => Rs.bad c | Rs.ok s l' p' n' => partsS (shapeS f (prtK k)) ps.length (acc ++ [s]) l' p' n') = _
    have e2 : encs o (q :: ps) ++ more = enc o q ++ (encs o ps ++ more) := by simp [encs]
    rw [e2, enc_put o q f (prtK k) d p n (encs o ps ++ more) hrq hkq.1 hkq.2 hf (hd q (by simp)) (fun x hx => hq x (by simp only [flats, List.mem_append]; left; exact hx)) hp0 (by omega) hn0 (by omega)]
    simp only
    rw [encs_put o ps k f d (p + q.flat.length) (n + q.nodes - 1) (acc ++ [q]) more hrs h4 h7 hf (fun x hx => hd x (by simp [hx])) (fun x hx => hq x (by simp only [flats, List.mem_append]; right; exact hx)) (by omega) (by omega) (by omega) (by omega)]
    simp only [List.append_assoc, List.cons_append, List.nil_append]
    congr 1 <;> omega
end
end Go.Proofs.YtfknhpgelleenaaDoor.MRead
namespace Go.Proofs.YtfknhpgelleenaaDoor.MRead
set_option linter.unusedVariables false
set_option linter.unusedSimpArgs false
open Go.Proofs.YtfknhpgelleenaaDoor
open Go.Proofs.YtfknhpgelleenaaDoor.MShape (Sh flats nodess)
open Go.Proofs.YtfknhpgelleenaaDoor.MOct
open Go.Proofs.YtfknhpgelleenaaDoor.MWkb (nm nm4 nm8 pt pt_len nw ptsE run ptsOf ringsE enc encs ptsE_len run_len u64_in)
/-- What is read has a size, and less is too short. -/
def CtdAt {α : Type} (F : List Int → Int → Int → Rs α) (size : α → Nat) (l : List Int) (p n : Int) : Prop :=
  ∀ a l' p' n', F l p n = .ok a l' p' n' → size a ≤ l.length ∧ l.drop (size a) = l' ∧ ∀ m, m ≤ l.length → F (l.take m) p n = .bad 8 ∨ (size a ≤ m ∧ F (l.take m) p n = .ok a (l'.take (m - size a)) p' n')
def Ctd {α : Type} (F : List Int → Int → Int → Rs α) (size : α → Nat) : Prop := ∀ l p n, CtdAt F size l p n
def bindS {α β : Type} (F : List Int → Int → Int → Rs α) (H : α → List Int → Int → Int → Rs β) (l : List Int) (p n : Int) : Rs β :=
  match F l p n with
  | .bad c => .bad c
  | .ok a l' p' n' => H a l' p' n'
theorem ctd_bind {α β : Type} {F : List Int → Int → Int → Rs α} {H : α → List Int → Int → Int → Rs β} {s1 : α → Nat} {s2 : α → β → Nat} {size : β → Nat} (hF : Ctd F s1) (hH : ∀ a, Ctd (H a) (s2 a))
    (hs : ∀ a b l1 p1 n1 l2 p2 n2, H a l1 p1 n1 = .ok b l2 p2 n2 → size b = s1 a + s2 a b) : Ctd (bindS F H) size := by
  intro l p n b l2 p2 n2 h
  unfold bindS at h
  cases hf : F l p n with
  | bad c => rw [hf] at h; cases h
  | ok a l1 p1 n1 =>
    rw [hf] at h
    simp only at h
    obtain ⟨a1, a2, a3⟩ := hF l p n a l1 p1 n1 hf
    obtain ⟨b1, b2, b3⟩ := hH a l1 p1 n1 b l2 p2 n2 h
    have e := hs a b l1 p1 n1 l2 p2 n2 h
    have hl1 : l1.length = l.length - s1 a := by rw [← a2, List.length_drop]
    refine ⟨by omega, by rw [e, ← List.drop_drop, a2, b2], fun m hm => ?_⟩
    rcases a3 m hm with h8 | ⟨hm1, h8⟩
    · left; unfold bindS; rw [h8]
    · rcases b3 (m - s1 a) (by omega) with h9 | ⟨hm2, h9⟩
      · left; unfold bindS; rw [h8]; exact h9
      · right
        refine ⟨by omega, ?_⟩
        unfold bindS
        rw [h8]
        simp only
        rw [h9, e, Nat.sub_sub]
theorem take_take {l : List Int} {m k : Nat} (h : k ≤ m) : (l.take m).take k = l.take k := by rw [List.take_take, Nat.min_eq_left h]
theorem drop_take' {l : List Int} {m k : Nat} : (l.take m).drop k = (l.drop k).take (m - k) := by rw [List.drop_take]
theorem len_take {l : List Int} {m : Nat} (h : m ≤ l.length) : (l.take m).length = m := by rw [List.length_take, Nat.min_eq_left h]
theorem getV_take {l : List Int} {m k : Nat} (h : k ≤ m) (hm : m ≤ l.length) (o : Bool) : getV (l.take m) (k : Int) o = getV l (k : Int) o := by
  unfold getV head
  rw [Int.toNat_natCast, take_take h, len_take hm]
  by_cases h1 : (k : Int) < 1 ∨ (k : Int) > 8
  · rw [if_pos (show (k : Int) < 1 ∨ (k : Int) > 8 ∨ (m : Int) < k by omega), if_pos (show (k : Int) < 1 ∨ (k : Int) > 8 ∨ (l.length : Int) < k by omega)]
  · rw [if_neg (show ¬ ((k : Int) < 1 ∨ (k : Int) > 8 ∨ (m : Int) < k) by omega), if_neg (show ¬ ((k : Int) < 1 ∨ (k : Int) > 8 ∨ (l.length : Int) < k) by omega)]
theorem ctd_number (each most : Int) (o wh : Bool) (he : 0 < each) : Ctd (numberS each o wh most) (fun _ => 4) := by
  intro l p n a l' p' n' h
  obtain ⟨h1, h2, h3, rfl, rfl, rfl, rfl⟩ := number_ok h
  refine ⟨Nat.not_lt.1 h1, rfl, fun m hm => ?_⟩
  unfold numberS
  rw [len_take hm]
  by_cases h4 : m < 4
  · left; rw [if_pos h4]
  · rw [if_neg h4, show getV (l.take m) 4 o = getV l 4 o from getV_take (k := 4) (by omega) hm o, if_neg (show ¬ (if wh then n else p) + (getV l 4 o).1 > most from h2)]
    by_cases h5 : (getV l 4 o).1 > (((l.take m).drop 4).length : Int) / each
    · left; rw [if_pos h5]
    · right; rw [if_neg h5, drop_take']; exact ⟨Nat.not_lt.1 h4, rfl⟩
theorem number_room {each most v p n p' n' : Int} {o wh : Bool} {l l' : List Int} (h : numberS each o wh most l p n = .ok v l' p' n') : v ≤ (l'.length : Int) / each := by
  obtain ⟨h1, h2, h3, rfl, rfl, rfl, rfl⟩ := number_ok h
  exact Int.not_lt.1 h3
theorem ptsD_take {o : Bool} : ∀ {k m : Nat} {l : List Int}, 16 * k ≤ m → m ≤ l.length → ptsD o k (l.take m) = ptsD o k l
  | 0, _, _, _, _ => rfl
  | k + 1, m, l, h, hm => by
    have e : ptD o (l.take m) = ptD o l := by
      unfold ptD
      rw [show getV (l.take m) 8 o = getV l 8 o from getV_take (k := 8) (by omega) hm o, drop_take', show getV ((l.drop 8).take (m - 8)) 8 o = getV (l.drop 8) 8 o from getV_take (k := 8) (by omega) (by rw [List.length_drop]; omega) o]
    show ptD o (l.take m) :: ptsD o k ((l.take m).drop 16) = ptD o l :: ptsD o k (l.drop 16)
    rw [e, drop_take', ptsD_take (by omega) (by rw [List.length_drop]; omega)]
theorem ctd_run (o : Bool) : Ctd (runS o) (fun l => 4 + 16 * l.length) := by
  intro l p n a l' p' n' h
  unfold runS at h
  cases hf : numberS 16 o false 4000 l p n with
  | bad c => rw [hf] at h; cases h
  | ok v l1 p1 n1 =>
    rw [hf] at h
    simp only at h
    injection h with e1 e2 e3 e4
    subst e1 e2 e3 e4
    obtain ⟨a1, a2, a3⟩ := ctd_number 16 4000 o false (by omega) l p n v l1 p1 n1 hf
    dsimp only at a1 a2 a3
    have hr := number_room hf
    have hl1 : l1.length = l.length - 4 := by rw [← a2, List.length_drop]
    simp only [ptsD_length]
    refine ⟨by omega, by rw [← a2, List.drop_drop], fun m hm => ?_⟩
    rcases a3 m hm with h8 | ⟨hm1, h8⟩
    · left; unfold runS; rw [h8]
    · right
      have hr2 := number_room h8
      rw [List.length_take] at hr2
      refine ⟨by omega, ?_⟩
      unfold runS
      rw [h8]
      simp only
      rw [ptsD_take (by omega) (by omega), drop_take', Nat.sub_sub]
theorem ctd_one (o : Bool) : Ctd (oneS o) (fun _ => 16) := by
  intro l p n a l' p' n' h
  have hlen : ¬ l.length < 16 := by
    intro hh
    unfold oneS at h
    rw [if_pos hh] at h
    cases h
  have hd : l.drop 16 = l' := by
    unfold oneS at h
    rw [if_neg hlen] at h
    split at h
    · injection h
    · split at h
      · cases h
      · injection h
  refine ⟨Nat.not_lt.1 hlen, hd, fun m hm => ?_⟩
  by_cases h4 : m < 16
  · left; unfold oneS; rw [len_take hm, if_pos h4]
  · right
    refine ⟨Nat.not_lt.1 h4, ?_⟩
    have e : ptD o (l.take m) = ptD o l := by
      have := ptsD_take (o := o) (k := 1) (m := m) (l := l) (by omega) hm
      simpa [ptsD] using this
    unfold oneS at h ⊢
    rw [if_neg hlen] at h
    rw [len_take hm, if_neg h4, e, drop_take']
    split at h
    · injection h with e1 e2 e3 e4
      subst e1 e2 e3 e4
      rw [if_pos (by assumption)]
    · split at h
      · cases h
      · injection h with e1 e2 e3 e4
        subst e1 e2 e3 e4
        rw [if_neg (by assumption), if_neg (by assumption)]
theorem ctd_asPts {F : List Int → Int → Int → Rs (List (Int × Int))} {sz : List (Int × Int) → Nat} {size : Sh → Nat} (k : Int) (h : Ctd F sz) (hs : ∀ a, size (.mk k a []) = sz a) : Ctd (fun l p n => asPts k (F l p n)) size := by
  intro l p n b l' p' n' hb
  dsimp only at hb ⊢
  cases hf : F l p n with
  | bad c => rw [hf] at hb; cases hb
  | ok a l1 p1 n1 =>
    rw [hf] at hb
    unfold asPts at hb
    injection hb with e1 e2 e3 e4
    subst e1 e2 e3 e4
    obtain ⟨a1, a2, a3⟩ := h l p n a l1 p1 n1 hf
    rw [hs]
    refine ⟨a1, a2, fun m hm => ?_⟩
    rcases a3 m hm with h8 | ⟨hm1, h8⟩
    · left; rw [h8]; rfl
    · right; rw [h8]; exact ⟨hm1, rfl⟩
theorem ctd_asParts {F : List Int → Int → Int → Rs (List Sh)} {sz : List Sh → Nat} {size : Sh → Nat} (k : Int) (h : Ctd F sz) (hs : ∀ a, size (.mk k [] a) = sz a) : Ctd (fun l p n => asParts k (F l p n)) size := by
  intro l p n b l' p' n' hb
  dsimp only at hb ⊢
  cases hf : F l p n with
  | bad c => rw [hf] at hb; cases hb
  | ok a l1 p1 n1 =>
    rw [hf] at hb
    unfold asParts at hb
    injection hb with e1 e2 e3 e4
    subst e1 e2 e3 e4
    obtain ⟨a1, a2, a3⟩ := h l p n a l1 p1 n1 hf
    rw [hs]
    refine ⟨a1, a2, fun m hm => ?_⟩
    rcases a3 m hm with h8 | ⟨hm1, h8⟩
    · left; rw [h8]; rfl
    · right; rw [h8]; exact ⟨hm1, rfl⟩
def sum (sz : Sh → Nat) : List Sh → Nat
  | [] => 0
  | p :: ps => sz p + sum sz ps
theorem sum_append (sz : Sh → Nat) (l m : List Sh) : sum sz (l ++ m) = sum sz l + sum sz m := by
  induction l with
  | nil => simp [sum]
  | cons a l ih => simp [sum, ih]; omega
theorem ctd_parts {F : List Int → Int → Int → Rs Sh} {sz : Sh → Nat} (h : Ctd F sz) : ∀ (k : Nat) (acc : List Sh) (l : List Int) (p n : Int) (a : List Sh) (l' : List Int) (p' n' : Int), partsS F k acc l p n = .ok a l' p' n' →
    sum sz acc ≤ sum sz a ∧ CtdAt (partsS F k acc) (fun a => sum sz a - sum sz acc) l p n
  | 0, acc, l, p, n, a, l', p', n', hh => by
    unfold partsS at hh
    injection hh with e1 e2 e3 e4
    subst e1 e2 e3 e4
    refine ⟨Nat.le_refl _, fun a l' p' n' hh => ?_⟩
    unfold partsS at hh
    injection hh with e1 e2 e3 e4
    subst e1 e2 e3 e4
    simp only [Nat.sub_self]
    exact ⟨by omega, rfl, fun m hm => .inr ⟨by omega, rfl⟩⟩
  | k + 1, acc, l, p, n, a, l', p', n', hh => by
    have hh0 := hh
    unfold partsS at hh
    cases hf : F l p n with
    | bad c => rw [hf] at hh; cases hh
    | ok s l1 p1 n1 =>
      rw [hf] at hh
      simp only at hh
      obtain ⟨a1, a2, a3⟩ := h l p n s l1 p1 n1 hf
      obtain ⟨b0, b1⟩ := ctd_parts h k (acc ++ [s]) l1 p1 n1 a l' p' n' hh
      have hsum : sum sz (acc ++ [s]) = sum sz acc + sz s := by rw [sum_append]; rfl
      rw [hsum] at b0 b1
      refine ⟨by omega, fun a2' l2 p2 n2 hh2 => ?_⟩
      obtain ⟨rfl, rfl, rfl, rfl⟩ : a = a2' ∧ l' = l2 ∧ p' = p2 ∧ n' = n2 := by
        rw [hh0] at hh2
        injection hh2 with e1 e2 e3 e4
        exact ⟨e1, e2, e3, e4⟩
      obtain ⟨c1, c2, c3⟩ := b1 a l' p' n' hh
      have hl1 : l1.length = l.length - sz s := by rw [← a2, List.length_drop]
      have e : sum sz a - sum sz acc = sz s + (sum sz a - (sum sz acc + sz s)) := by omega
      dsimp only at c1 c2 c3 ⊢
      rw [e]
      refine ⟨by omega, by rw [← List.drop_drop, a2, c2], fun m hm => ?_⟩
      rcases a3 m hm with h8 | ⟨hm1, h8⟩
      · left; unfold partsS; rw [h8]
      · rcases c3 (m - sz s) (by omega) with h9 | ⟨hm2, h9⟩
        · left; unfold partsS; rw [h8]; exact h9
        · right
          refine ⟨by omega, ?_⟩
          unfold partsS
          rw [h8]
          simp only
          rw [h9, Nat.sub_sub]
theorem ctd_parts0 {F : List Int → Int → Int → Rs Sh} {sz : Sh → Nat} (h : Ctd F sz) (k : Nat) : Ctd (partsS F k []) (sum sz) := by
  intro l p n a l' p' n' hh
  have := (ctd_parts h k [] l p n a l' p' n' hh).2 a l' p' n' hh
  simpa [sum] using this
theorem ringsS_eq (o : Bool) : ∀ (k : Nat) (acc : List Sh) (l : List Int) (p n : Int), ringsS o k acc l p n = partsS (fun l p n => asPts 0 (runS o l p n)) k acc l p n
  | 0, _, _, _, _ => rfl
  | k + 1, acc, l, p, n => by
    unfold ringsS partsS
    cases runS o l p n with
    | bad c => rfl
    | ok pts l1 p1 n1 => exact ringsS_eq o k _ _ _ _
theorem sum_rings (o : Bool) : ∀ l : List Sh, sum (fun s => 4 + 16 * (ptsOf s).length) l = (ringsE o l).length
  | [] => rfl
  | p :: l => by unfold sum ringsE; rw [sum_rings o l, List.length_append, run_len]
theorem sum_encs (o : Bool) : ∀ l : List Sh, sum (fun s => (enc o s).length) l = (encs o l).length
  | [] => rfl
  | p :: l => by unfold sum encs; rw [sum_encs o l, List.length_append]
theorem ringsN_eq (o : Bool) : ringsN o = bindS (numberS 4 o true 1000) (fun v => partsS (fun l p n => asPts 0 (runS o l p n)) v.toNat []) := by
  funext l p n
  unfold ringsN bindS
  cases numberS 4 o true 1000 l p n with
  | bad c => rfl
  | ok v l1 p1 n1 => exact ringsS_eq o _ _ _ _ _
theorem partsN_eq (F : List Int → Int → Int → Rs Sh) (o : Bool) : partsN F o = bindS (numberS 9 o true 1000) (fun v => partsS F v.toNat []) := by
  funext l p n
  unfold partsN bindS
  cases numberS 9 o true 1000 l p n <;> rfl
theorem ctd_rings (o o' : Bool) : Ctd (ringsN o) (fun ps => 4 + (ringsE o' ps).length) := by
  rw [ringsN_eq]
  exact ctd_bind (ctd_number 4 1000 o true (by omega)) (fun a => ctd_parts0 (sz := fun s => 4 + 16 * (ptsOf s).length) (ctd_asPts 0 (ctd_run o) (fun a => rfl)) _) (fun a b _ _ _ _ _ _ _ => by rw [sum_rings o'])
theorem ctd_partsN {F : List Int → Int → Int → Rs Sh} (o o' : Bool) (h : Ctd F (fun s => (enc o' s).length)) : Ctd (partsN F o) (fun ps => 4 + (encs o' ps).length) := by
  rw [partsN_eq]
  exact ctd_bind (ctd_number 9 1000 o true (by omega)) (fun a => ctd_parts0 (sz := fun s => (enc o' s).length) h _) (fun a b _ _ _ _ _ _ _ => by rw [sum_encs o'])
theorem bad_ctd {α : Type} (c : Int) (size : α → Nat) : Ctd (fun _ _ _ => Rs.bad c) size := fun _ _ _ _ _ _ _ h => by cases h
theorem ctd_body {F : Int → List Int → Int → Int → Rs Sh} (o' : Bool) (h : ∀ k, Ctd (F k) (fun s => (enc o' s).length)) (k : Int) (o : Bool) : Ctd (bodyS F k o) (fun s => (enc o' s).length - 5) := by
  by_cases h1 : k = 1
  · subst h1
    have e : bodyS F 1 o = fun l p n => asPts 1 (oneS o l p n) := by funext l p n; unfold bodyS; rw [if_pos rfl]
    rw [e]
    refine ctd_asPts 1 (ctd_one o) (fun a => ?_)
    simp only [enc, ↓reduceIte, List.length_cons, List.length_append, nm4, pt_len]
  by_cases h2 : k = 2
  · subst h2
    have e : bodyS F 2 o = fun l p n => asPts 2 (runS o l p n) := by funext l p n; unfold bodyS; rw [if_neg h1, if_pos rfl]
    rw [e]
    refine ctd_asPts 2 (ctd_run o) (fun a => ?_)
    simp only [enc, h1, ↓reduceIte, List.length_cons, List.length_append, nm4, run_len]
    omega
  by_cases h3 : k = 3
  · subst h3
    have e : bodyS F 3 o = fun l p n => asParts 3 (ringsN o l p n) := by funext l p n; unfold bodyS; rw [if_neg h1, if_neg h2, if_pos rfl]
    rw [e]
    refine ctd_asParts 3 (ctd_rings o o') (fun a => ?_)
    simp only [enc, h1, h2, ↓reduceIte, List.length_cons, List.length_append, nm4]
    omega
  · have e : bodyS F k o = fun l p n => asParts k (partsN (F (prtK k)) o l p n) := by funext l p n; unfold bodyS; rw [if_neg h1, if_neg h2, if_neg h3]
    rw [e]
    refine ctd_asParts k (ctd_partsN o o' (h _)) (fun a => ?_)
    simp only [enc, h1, h2, h3, ↓reduceIte, List.length_cons, List.length_append, nm4]
    omega
def num4S (o : Bool) (l : List Int) (p n : Int) : Rs Int := if l.length < 4 then .bad 8 else .ok (getV l 4 o).1 (l.drop 4) p n
def byteS : List Int → Int → Int → Rs Int
  | [], _, _ => .bad 8
  | b :: l, p, n => .ok b l p n
theorem ctd_num4 (o : Bool) : Ctd (num4S o) (fun _ => 4) := by
  intro l p n a l' p' n' h
  unfold num4S at h
  split at h
  · cases h
  injection h with e1 e2 e3 e4
  subst e1 e2 e3 e4
  refine ⟨by dsimp only; omega, rfl, fun m hm => ?_⟩
  unfold num4S
  rw [len_take hm]
  by_cases h4 : m < 4
  · left; rw [if_pos h4]
  · right
    rw [if_neg h4, show getV (l.take m) 4 o = getV l 4 o from getV_take (k := 4) (by omega) hm o, drop_take']
    exact ⟨by dsimp only; omega, rfl⟩
theorem ctd_byte : Ctd byteS (fun _ => 1) := by
  intro l p n a l' p' n' h
  cases l with
  | nil => cases h
  | cons b l =>
    unfold byteS at h
    injection h with e1 e2 e3 e4
    subst e1 e2 e3 e4
    refine ⟨by simp, rfl, fun m hm => ?_⟩
    cases m with
    | zero => left; rfl
    | succ m => right; exact ⟨by dsimp only; omega, rfl⟩
theorem kindS_eq (F : Int → List Int → Int → Int → Rs Sh) (kind : Int) (o : Bool) : kindS F kind o = bindS (num4S o) (fun k => if okKind kind k then bodyS F k o else fun _ _ _ => .bad 9) := by
  funext l p n
  unfold kindS bindS num4S
  split
  · rfl
  · simp only
    split <;> rfl
theorem enc_5 (o : Bool) (s : Sh) : 5 ≤ (enc o s).length := by have := enc_len9 o s; omega
theorem ctd_kind {F : Int → List Int → Int → Int → Rs Sh} (o' : Bool) (h : ∀ k, Ctd (F k) (fun s => (enc o' s).length)) (kind : Int) (o : Bool) : Ctd (kindS F kind o) (fun s => (enc o' s).length - 1) := by
  rw [kindS_eq]
  refine ctd_bind (s2 := fun _ s => (enc o' s).length - 5) (ctd_num4 o) (fun k => ?_) (fun a b _ _ _ _ _ _ _ => by have := enc_5 o' b; omega)
  split
  · exact ctd_body o' h k o
  · exact bad_ctd 9 _
theorem shapeS_eq (f : Nat) (kind : Int) : shapeS (f + 1) kind = bindS byteS (fun b => if b > 1 then fun _ _ _ => .bad 9 else kindS (shapeS f) kind (decide (b = 1))) := by
  funext l p n
  cases l with
  | nil => rfl
  | cons b l =>
    unfold shapeS bindS byteS
    simp only
    split <;> rfl
/-- What is read has as many bytes as it is put in; less is too short. -/
theorem ctd_shape (o' : Bool) : ∀ (f : Nat) (kind : Int), Ctd (shapeS f kind) (fun s => (enc o' s).length)
  | 0, kind => by
    intro l p n a l' p' n' h
    cases l <;> cases h
  | f + 1, kind => by
    rw [shapeS_eq]
    refine ctd_bind (s2 := fun _ s => (enc o' s).length - 1) ctd_byte (fun b => ?_) (fun a b _ _ _ _ _ _ _ => by have := enc_5 o' b; omega)
    split
    · exact bad_ctd 9 _
    · exact ctd_kind o' (ctd_shape o' f) kind _
/-- A shape's bytes that are cut are too short. -/
theorem cut_short {f : Nat} {kind : Int} {l l' : List Int} {p n p' n' : Int} {s : Sh} (h : shapeS f kind l p n = .ok s l' p' n') {m : Nat} (hm : m + l'.length < l.length) : shapeS f kind (l.take m) p n = .bad 8 := by
  obtain ⟨a1, a2, a3⟩ := ctd_shape false f kind l p n s l' p' n' h
  dsimp only at a1 a2 a3
  have hl1 : l'.length = l.length - (enc false s).length := by rw [← a2, List.length_drop]
  rcases a3 m (by omega) with h8 | ⟨h9, _⟩
  · exact h8
  · omega
theorem read_len (o : Bool) {f : Nat} {kind : Int} {l l' : List Int} {p n p' n' : Int} {s : Sh} (h : shapeS f kind l p n = .ok s l' p' n') : (enc o s).length + l'.length = l.length := by
  obtain ⟨a1, a2, -⟩ := ctd_shape o f kind l p n s l' p' n' h
  dsimp only at a1 a2
  have hl1 : l'.length = l.length - (enc o s).length := by rw [← a2, List.length_drop]
  omega
end Go.Proofs.YtfknhpgelleenaaDoor.MRead
namespace Go.Proofs.YtfknhpgelleenaaDoor.MRead
set_option linter.unusedVariables false
set_option linter.unusedSimpArgs false
open Go.Proofs.YtfknhpgelleenaaDoor
open Go.Proofs.YtfknhpgelleenaaDoor.MShape (Sh flats nodess right isKind nowhere check light light_is count)
open Go.Proofs.YtfknhpgelleenaaDoor.MWkb (enc)
open Go.Proofs.YtfknhpgelleenaaDoor.MOct
theorem check_is {s : Sh} (h : check s = 0) : right s = true ∧ isKind s.kind = true ∧ s.flat.length ≤ 4000 ∧ s.nodes ≤ 1001 ∧ s.dep 1 ≤ 16 ∧ ∀ q ∈ s.flat, nowhere q = false := by
  unfold check at h
  by_cases h1 : 16 < (count s).depth
  · rw [if_pos h1] at h; cases h
  rw [if_neg h1] at h
  by_cases h2 : 4000 < (count s).points ∨ 1000 < (count s).parts
  · rw [if_pos h2] at h; cases h
  rw [if_neg h2] at h
  by_cases h3 : (isKind s.kind && right s) = false
  · rw [if_pos h3] at h; cases h
  rw [if_neg h3] at h
  by_cases h4 : s.flat.any nowhere = true
  · rw [if_pos h4] at h; cases h
  have hl : light s = true := by
    unfold light
    simp only [Bool.and_eq_true, decide_eq_true_eq]
    omega
  obtain ⟨l1, l2, l3, -⟩ := light_is hl
  have h5 : (isKind s.kind && right s) = true := by simpa using h3
  rw [Bool.and_eq_true] at h5
  refine ⟨h5.2, h5.1, by omega, by omega, l3, fun q hq => ?_⟩
  cases hn : nowhere q with
  | false => rfl
  | true => exact absurd (List.any_eq_true.2 ⟨q, hq, hn⟩) h4
/-- No error is none. -/
def Nz {α : Type} (F : List Int → Int → Int → Rs α) : Prop := ∀ l p n c, F l p n = .bad c → c ≠ 0
theorem nz_number (each most : Int) (o wh : Bool) : Nz (numberS each o wh most) := by
  intro l p n c h
  rcases number_ways each most o wh l p n with ⟨_, h2⟩ | ⟨_, _, h2⟩ | ⟨_, _, _, h2⟩ | ⟨h1, h3, h4, h2⟩
  · rw [h2] at h; injection h with e; omega
  · rw [h2] at h; injection h with e; omega
  · rw [h2] at h; injection h with e; omega
  · rw [h2] at h; cases h
theorem nz_bind {α β : Type} {F : List Int → Int → Int → Rs α} {H : α → List Int → Int → Int → Rs β} (hF : Nz F) (hH : ∀ a, Nz (H a)) : Nz (bindS F H) := by
  intro l p n c h
  unfold bindS at h
  cases hf : F l p n with
  | bad c' => rw [hf] at h; injection h with e; subst e; exact hF l p n _ hf
  | ok a l1 p1 n1 => rw [hf] at h; exact hH a l1 p1 n1 c h
theorem nz_run (o : Bool) : Nz (runS o) := by
  intro l p n c h
  unfold runS at h
  cases hf : numberS 16 o false 4000 l p n with
  | bad c' => rw [hf] at h; injection h with e; subst e; exact nz_number _ _ _ _ l p n _ hf
  | ok a l1 p1 n1 => rw [hf] at h; cases h
theorem nz_one (o : Bool) : Nz (oneS o) := by
  intro l p n c h
  unfold oneS at h
  split at h
  · injection h with e; omega
  split at h
  · cases h
  split at h
  · injection h with e; omega
  · cases h
theorem nz_asPts {F : List Int → Int → Int → Rs (List (Int × Int))} (k : Int) (h : Nz F) : Nz (fun l p n => asPts k (F l p n)) := by
  intro l p n c hb
  dsimp only at hb
  cases hf : F l p n with
  | bad c' => rw [hf] at hb; unfold asPts at hb; injection hb with e; subst e; exact h l p n _ hf
  | ok a l1 p1 n1 => rw [hf] at hb; cases hb
theorem nz_asParts {F : List Int → Int → Int → Rs (List Sh)} (k : Int) (h : Nz F) : Nz (fun l p n => asParts k (F l p n)) := by
  intro l p n c hb
  dsimp only at hb
  cases hf : F l p n with
  | bad c' => rw [hf] at hb; unfold asParts at hb; injection hb with e; subst e; exact h l p n _ hf
  | ok a l1 p1 n1 => rw [hf] at hb; cases hb
theorem nz_parts {F : List Int → Int → Int → Rs Sh} (h : Nz F) : ∀ (k : Nat) (acc : List Sh), Nz (partsS F k acc)
  | 0, acc, l, p, n, c, hh => by unfold partsS at hh; cases hh
  | k + 1, acc, l, p, n, c, hh => by
    unfold partsS at hh
    cases hf : F l p n with
    | bad c' => rw [hf] at hh; injection hh with e; subst e; exact h l p n _ hf
    | ok s l1 p1 n1 => rw [hf] at hh; exact nz_parts h k _ l1 p1 n1 c hh
theorem nz_body {F : Int → List Int → Int → Int → Rs Sh} (h : ∀ k, Nz (F k)) (k : Int) (o : Bool) : Nz (bodyS F k o) := by
  intro l p n c hb
  unfold bodyS at hb
  split at hb
  · exact nz_asPts 1 (nz_one o) l p n c hb
  split at hb
  · exact nz_asPts 2 (nz_run o) l p n c hb
  split at hb
  · refine nz_asParts 3 (F := ringsN o) ?_ l p n c hb
    rw [ringsN_eq]
    exact nz_bind (nz_number _ _ _ _) (fun a => nz_parts (nz_asPts 0 (nz_run o)) _ _)
  · refine nz_asParts k (F := partsN (F (prtK k)) o) ?_ l p n c hb
    rw [partsN_eq]
    exact nz_bind (nz_number _ _ _ _) (fun a => nz_parts (h _) _ _)
theorem nz_shape : ∀ (f : Nat) (kind : Int), Nz (shapeS f kind)
  | 0, kind, [], p, n, c, h => by injection h with e; omega
  | 0, kind, _ :: _, p, n, c, h => by injection h with e; omega
  | f + 1, kind, [], p, n, c, h => by injection h with e; omega
  | f + 1, kind, b :: l, p, n, c, h => by
    unfold shapeS at h
    split at h
    · injection h with e; omega
    unfold kindS at h
    split at h
    · injection h with e; omega
    split at h
    · exact nz_body (nz_shape f) _ _ _ _ _ _ h
    · injection h with e; omega
theorem bad_ne {f : Nat} {kind : Int} {l : List Int} {p n c : Int} (h : shapeS f kind l p n = .bad c) : c ≠ 0 := nz_shape f kind l p n c h
/-- All ordinates are a machine's. -/
def inS (s : Sh) : Prop := ∀ q ∈ s.flat, inI q.1 ∧ inI q.2
theorem back_shape {s : Sh} (h : check s = 0) (hI : inS s) (o : Bool) (more : List Int) : shapeS 16 0 (enc o s ++ more) 0 0 = .ok s more (0 + s.flat.length) (0 + s.nodes - 1) := by
  obtain ⟨h1, h2, h3, h4, h5, h6⟩ := check_is h
  exact enc_put o s 16 0 1 0 0 more h1 h2 (.inl (by decide)) (by omega) h5 (fun q hq => ⟨(hI q hq).1, (hI q hq).2, h6 q hq⟩) (by omega) (by omega) (by omega) (by omega)
theorem back_decode {s : Sh} (h : check s = 0) (hI : inS s) (o : Bool) (more : List Int) : decodeS (enc o s ++ more) = (s, ((enc o s).length : Int), 0) := by
  unfold decodeS
  rw [back_shape h hI o more]
  simp only
  rw [if_pos h, List.length_append]
  congr 2
  omega
theorem cut_decode {s : Sh} (h : check s = 0) (hI : inS s) (o : Bool) {m : Nat} (hm : m < (enc o s).length) : (decodeS ((enc o s).take m)).2.2 = 8 := by
  have hs := back_shape h hI o []
  rw [List.append_nil] at hs
  have := cut_short hs (m := m) (by simpa using hm)
  unfold decodeS
  rw [this]
theorem more_read {s : Sh} (h : check s = 0) (hI : inS s) (o : Bool) (x : Int) : (readS (enc o s ++ [x])).2 = 9 := by
  unfold readS
  rw [back_decode h hI o [x]]
  rw [if_pos ⟨rfl, by simp; omega⟩]
theorem read_is {b : List Int} (h : (readS b).2 = 0) : check (readS b).1 = 0 ∧ ∀ o, (enc o (readS b).1).length = b.length := by
  unfold readS at h ⊢
  by_cases h1 : (decodeS b).2.2 = 0 ∧ (decodeS b).2.1 < b.length
  · rw [if_pos h1] at h; cases h
  rw [if_neg h1] at h ⊢
  simp only at h ⊢
  have h2 : ¬ (decodeS b).2.1 < b.length := fun e => h1 ⟨h, e⟩
  unfold decodeS at h h2 ⊢
  cases hr : shapeS 16 0 b 0 0 with
  | bad c =>
    rw [hr] at h
    exfalso
    simp only at h
    exact bad_ne hr h
  | ok s l' p n =>
    rw [hr] at h h2
    simp only at h h2 ⊢
    by_cases hc : check s = 0
    · rw [if_pos hc] at h2 ⊢
      simp only at h2 ⊢
      refine ⟨hc, fun o => ?_⟩
      have := read_len o hr
      omega
    · rw [if_neg hc] at h
      exact absurd h hc
end Go.Proofs.YtfknhpgelleenaaDoor.MRead
end
