/- The node of bytes: what is told; too short bytes. -/
import Derived.Test.YtljcingmjemohaaKB
import Derived.Handy
import Derived.Test.YtljcingmjemohaaWNd8
namespace Go.Proofs.Ytljcingmjemohaa.K
open Go Go.RowKit Go.Proofs.YtljcingmjemohaaW.PrintWords Go.Proofs.YtljcingmjemohaaW.PrintLast Go.Proofs.YtljcingmjemohaaW.PrintMore
set_option linter.unusedVariables false
set_option linter.unusedSimpArgs false
open Go.Proofs.Ytljcingmjemohaa.MBox (Bx noneB)
open Go.Proofs.Ytljcingmjemohaa.MChoose (En En0)
open Go.Proofs.Ytljcingmjemohaa.MNd
open Go.Proofs.Ytljcingmjemohaa.MBox (has good)
open Go.Proofs.Ytljcingmjemohaa.MOct (getV)
/-- A number of eight bytes. -/
def rd8 (L : List Int) : Int := wrap64 (getV L 8 false).1
/-- The k-th entry of a node's bytes. -/
def enAt (b : List Int) (k : Nat) : En := ⟨rd8 (b.drop (2 + 40 * k)), (parseV ((b.drop (10 + 40 * k)).take 32)).1⟩
def enOk (b : List Int) (k : Nat) : Bool := decide ((parseV ((b.drop (10 + 40 * k)).take 32)).2 = 0)
def ensTo (b : List Int) : Nat → List En
  | 0 => []
  | k + 1 => ensTo b k ++ [enAt b k]
def allOk (b : List Int) : Nat → Bool
  | 0 => true
  | k + 1 => allOk b k && enOk b k
/-- The node of bytes. -/
def parseN (b : List Int) : Int × List En × Int :=
  if b.length < 2 ∨ (b.length : Int) - 2 < 40 * b.getD 1 0 then (0, [], 8)
  else if allOk b (b.getD 1 0).toNat = false then (0, [], 9)
  else if ¬ b.length = 2 + 40 * (b.getD 1 0).toNat ∨ goodN (b.getD 0 0) (ensTo b (b.getD 1 0).toNat) = false then (0, [], 9)
  else (b.getD 0 0, ensTo b (b.getD 1 0).toNat, 0)
theorem ensTo_len (b : List Int) : ∀ k, (ensTo b k).length = k
  | 0 => rfl
  | k + 1 => by rw [ensTo, List.length_append, ensTo_len b k]; rfl
theorem allOk_mono {b : List Int} {k : Nat} (h : allOk b k = false) : ∀ m, allOk b (k + m) = false
  | 0 => h
  | m + 1 => by rw [Nat.add_succ, allOk, allOk_mono h m, Bool.false_and]
theorem rd8_wf (L : List Int) : (Lit.int .i64 (rd8 L)).wf = true := wrap64_wf _
theorem ensTo_wf (b : List Int) : ∀ k, ∀ x ∈ ensTo b k, (Lit.int .i64 x.id).wf = true
  | 0, x, hx => by simp [ensTo] at hx
  | k + 1, x, hx => by
    unfold ensTo at hx
    rcases List.mem_append.1 hx with hx | hx
    · exact ensTo_wf b k x hx
    · rw [List.mem_singleton.1 hx]; exact rd8_wf _
theorem parse_short1 {b : List Int} (h : b.length < 2) : parseN b = (0, [], 8) := by unfold parseN; rw [if_pos (.inl h)]
theorem parse_short2 {b : List Int} (h : (b.length : Int) - 2 < 40 * b.getD 1 0) : parseN b = (0, [], 8) := by unfold parseN; rw [if_pos (.inr h)]
theorem parse_box {b : List Int} {N k : Nat} (h1 : ¬ b.length < 2) (hN : b.getD 1 0 = N) (h2 : ¬ (b.length : Int) - 2 < 40 * N) (hk : k ≤ N) (h : allOk b k = false) : parseN b = (0, [], 9) := by
  obtain ⟨m, rfl⟩ : ∃ m, N = k + m := ⟨N - k, by omega⟩
  unfold parseN
  rw [if_neg (by rw [hN]; omega), hN, Int.toNat_natCast, if_pos (allOk_mono h m)]
theorem parse_end {b : List Int} {N : Nat} (h1 : ¬ b.length < 2) (hN : b.getD 1 0 = N) (h2 : ¬ (b.length : Int) - 2 < 40 * N) (h : allOk b N = true) (h3 : ¬ b.length = 2 + 40 * N ∨ goodN (b.getD 0 0) (ensTo b N) = false) : parseN b = (0, [], 9) := by
  unfold parseN
  rw [if_neg (by rw [hN]; omega), hN, Int.toNat_natCast, if_neg (by rw [h]; decide), if_pos h3]
theorem parse_fine {b : List Int} {N : Nat} (h1 : ¬ b.length < 2) (hN : b.getD 1 0 = N) (h2 : ¬ (b.length : Int) - 2 < 40 * N) (h : allOk b N = true) (h3 : b.length = 2 + 40 * N) (h4 : goodN (b.getD 0 0) (ensTo b N) = true) : parseN b = (b.getD 0 0, ensTo b N, 0) := by
  unfold parseN
  rw [if_neg (by rw [hN]; omega), hN, Int.toNat_natCast, if_neg (by rw [h]; decide), if_neg (by rw [h4]; simp [h3])]
theorem take_src (w : World) (q : Nat) (L : List Int) (n : Nat) (h : Src w q true L 0) (hn : n ≤ L.length) (hl : L.length < 140737488355328) :
    Calls Try.prog 55 #[.pointer (some ⟨q, 0, none⟩), .int .i64 n] w fun e w' => ∃ A c, e = .returned (.slice A n c) ∧ Hid (n ≤ c) ∧ Hid (CB w' A (L.take n)) ∧ Hid (w.grownBy w' (some q)) ∧ Hid (Src w' q true (L.drop n) 0) := by
  have e : bytesS true L 0 n = (L.take n, L.drop n, 0) := by
    unfold bytesS bytesR
    rw [if_neg (by simp), if_neg (by omega), if_neg (by omega)]
    simp
  have := Bytes_calls w q true L 0 n h hl
  rw [e] at this
  refine this.mono ?_
  rintro e' w' ⟨v, rfl, hr, hg, hs⟩
  obtain ⟨A, c, hv, hc, hC⟩ := hr.reads
  have hlen : (L.take n).length = n := by rw [List.length_take]; omega
  simp only at hv hc hC
  rw [hlen] at hv hc
  exact ⟨A, c, by rw [hv], hc, hC, hg, hs⟩
theorem int_src (w : World) (q : Nat) (L : List Int) (h : Src w q true L 0) (hb : bytesOk L) (hl : 8 ≤ L.length) :
    Calls Try.prog 56 #[.pointer (some ⟨q, 0, none⟩), .bool false] w fun e w' => e = .returned (.int .i64 (rd8 L)) ∧ Hid (w.grownBy w' (some q)) ∧ Hid (Src w' q true (L.drop 8) 0) := by
  have e : numS true L 0 8 false = ((getV L 8 false).1, L.drop 8, 0) := by
    have h2 : (getV L 8 false).2 = true := by unfold getV; rw [if_neg (by omega)]
    unfold numS
    rw [if_neg (by simp), if_neg (by omega), if_pos h2]
    rfl
  have := Int_calls w q true L 0 false h hb
  rw [e] at this
  refine this.mono ?_
  rintro e' w' ⟨rfl, hg, hs⟩
  exact ⟨rfl, hg, hs⟩
theorem end_src (w : World) (q : Nat) (L : List Int) (r : Int) (h : Src w q true L 0) (hr : (if L.length = 0 then (0 : Int) else 9) = r) :
    Calls Try.prog 58 #[.pointer (some ⟨q, 0, none⟩)] w fun e w' => e = .returned (.int .i64 r) ∧ w = w' := by
  have := End_calls w q true L 0 h
  unfold endS at this
  rw [if_neg (by simp), if_neg (by simp), hr] at this
  exact this
theorem Blk.up {W W' : World} {g t q : Nat} {cs : Array Value} (h : Blk W g cs t) (hg : W.grownBy W' (some q)) (hne : g ≠ q) : Blk W' g cs t := (hg.block g h.lt (fun e => hne (Option.some.inj e))).trans h
theorem RE.only {e : Nat} {w0 W W' : World} {v : Value} {l : List En} {pn : Nat} (h : RE e w0 W v l) (hp : pn < w0.heap.size) (hg : W.grownBy W' (some pn)) : RE e w0 W' v l := Kd.R_grown1 h rfl hg (fun e => by have := Kd.R_base h pn e.symm; omega)
theorem bel_up {w W W' : World} {q : Nat} (h : Bel w W) (hg : W.grownBy W' (some q)) (hq : w.heap.size ≤ q) : Bel w W' := h.grown hg h.size (fun j hj => by cases hj; exact hq)
theorem infoEN : (Try.prog.info? 57).map (fun i => (i.zero, i.size, i.bytes)) = some (some (.agg #[.int .i64 0, .bool false, .int .i64 0, .int .i64 0, .int .i64 0, .int .i64 0]), 6, 48) := by kernel_rfl
section
variable {ops : Array Oper} {rest : List Oper} {o : Oper} {a : Act} {Q : Exit → Act → World → Prop}
theorem appEnN {w0 W : World} (s x : Operand) (hgd : o.guard = none) (ho : o.op = .call { callee := .builtin .append, args := #[s, x], argTypes := #[22, 22] })
    (v : Value) (xs ys : List En) (A : Option Addr) (c : Nat) (hs : a.eval s = v) (hx : a.eval x = .slice A ys.length c)
    (HO : RE 57 w0 W v xs) (HR : CE W A ys) (HB : w0.heap.size ≤ W.heap.size) (hl : xs.length + ys.length < 100000000)
    (h : ∀ v1 w1, Hid (RE 57 w0 w1 v1 (xs ++ ys)) → Hid (W.grownBy w1 v.ownBlock) → wpList Try.prog ops Q rest (a.put o.dst v1) w1) :
    wpList Try.prog ops Q (o :: rest) a W :=
  Kd.R_append_rows KEn (w0 := W) w0.heap.size hgd s x 22 57 (.agg #[.int .i64 0, .bool false, .int .i64 0, .int .i64 0, .int .i64 0, .int .i64 0]) 48 ho Try.underlying22 infoEN rfl (by decide) (by omega) v xs ys A ys.length c (fun _ => True) (fun _ => False) hs hx HO HR
    (fun x cs hk => hk) (fun _ hk => hk.elim) (fun _ _ => trivial) (Below.refl _ _) HB (by omega) (fun v1 w1 ho hb hg hat => h v1 w1 ho hg)
end
theorem RE.base {e : Nat} {w0 W : World} {v : Value} {l : List En} (h : RE e w0 W v l) : ∀ k, v.ownBlock = some k → w0.heap.size ≤ k := fun k hk => Kd.R_base h k hk
theorem bel_own {w W W' : World} {row : Option Nat} (h : Bel w W) (hg : W.grownBy W' row) (hq : ∀ k, row = some k → w.heap.size ≤ k) : Bel w W' := h.grown hg h.size hq
theorem Blk.far {W W' : World} {g t : Nat} {cs : Array Value} {row : Option Nat} (h : Blk W g cs t) (hg : W.grownBy W' row) (hne : some g ≠ row) : Blk W' g cs t := (hg.block g h.lt hne).trans h
theorem grown_set (W : World) (g i : Nat) (u : Value) : W.grownBy (W.setCell ⟨g, i, none⟩ u) (some g) := only_setCell (g := g) (World.grownBy.refl _ _) (.inl rfl) _
/-- What Parse answers. -/
def PAns (w : World) (b : List Int) (e : Ending) (w' : World) : Prop := ∃ A' c', e = .returned (.tuple #[.agg #[.int .i64 (parseN b).1, .slice A' (parseN b).2.1.length c'], .int .i64 (parseN b).2.2]) ∧ Hid ((parseN b).2.1.length ≤ c') ∧ Hid (CE w' A' (parseN b).2.1) ∧ Hid (Bel w w')
theorem PAns.bad {w w' : World} {b : List Int} {r : Int} (hp : parseN b = (0, [], r)) (hb : Bel w w') : PAns w b (.returned (.tuple #[.agg #[.int .i64 0, .slice none 0 0], .int .i64 r])) w' :=
  ⟨none, 0, by rw [hp]; rfl, Lib.hid (by rw [hp]; exact Nat.le_refl _), Lib.hid (by rw [hp]; exact CE.nil _), Lib.hid hb⟩
set_option maxHeartbeats 4000000 in
set_option maxRecDepth 100000 in
theorem nparse_short1 (w : World) (A : Option Addr) (c : Nat) (b : List Int) (h : CB w A b) (hc : b.length ≤ c) (hb : bytesOk b) (hl : b.length < 1000000) (h1 : b.length < 2) :
    Calls Try.prog 22 #[.slice A b.length c] w (PAns w b) := by
  have HC := Lib.hid h
  have HCC := Lib.hid hc
  have HBY := Lib.hid hb
  have HL := Lib.hid hl
  have Z := Blk.new w #[.int .i64 0, .slice none 0 0] 24
  have B0 : Hid (Bel w (w.alloc (.cells #[.int .i64 0, .slice none 0 0] 24))) := Lib.hid ((Bel.refl w).alloc (Nat.le_refl _) _)
  have HP := Lib.hid (parse_short1 h1)
  have hlt : (b.length : Int) < 2 := by omega
  clear h1
  obtain ⟨t, ht⟩ : ∃ t, b.length = t := ⟨_, rfl⟩
  have HT := Lib.hid ht
  rw [ht] at HCC HL hlt ⊢
  clear h hc hb hl ht
  go_enter Try.func22, Try.ntmps22
  go_upto_region 1 with (fail)
  obtain ⟨W, hW⟩ : ∃ Y, w.alloc (.cells #[.int .i64 0, .slice none 0 0] 24) = Y := ⟨_, rfl⟩
  rw [hW] at Z B0 ⊢
  clear hW
  obtain ⟨g2, hg2⟩ : ∃ x, w.heap.size = x := ⟨_, rfl⟩
  have HG2 : Hid (w.heap.size = g2) := Lib.hid hg2
  rw [hg2] at Z ⊢
  clear hg2
  have G2 := Lib.hid Z
  clear Z
  obtain ⟨u0, u1⟩ := Blk.cells2 G2.out
  have f0 := G2.out.froz 0; have f1 := G2.out.froz 1
  have R9 := Lib.hid ((G2.out.set 0 (.int .i64 0)).set 1 (.slice none 0 0))
  have B9 := Lib.hid (below_set (i := 1) (below_set (i := 0) B0.out (show w.heap.size ≤ g2 by have := HG2.out; omega) (.int .i64 0)) (show w.heap.size ≤ g2 by have := HG2.out; omega) (.slice none 0 0))
  go_wp2
  refine ⟨rfl, .tuple #[.agg #[.int .i64 0, .slice none 0 0], .int .i64 8], ?_, PAns.bad HP.out B9.out⟩
  obtain ⟨q0, q1⟩ := Blk.cells2 R9.out
  simp [results, Try.results22, go_sem, q0, q1]
set_option maxHeartbeats 4000000 in
set_option maxRecDepth 100000 in
theorem nparse_short2 (w : World) (A : Option Addr) (c : Nat) (b : List Int) (h : CB w A b) (hc : b.length ≤ c) (hb : bytesOk b) (hl : b.length < 1000000) (h1 : ¬ b.length < 2) {N : Nat} (hN : b.getD 1 0 = N) (h2 : (b.length : Int) - 2 < 40 * N) :
    Calls Try.prog 22 #[.slice A b.length c] w (PAns w b) := by
  have HC := Lib.hid h
  have HCC := Lib.hid hc
  have HBY := Lib.hid hb
  have HL := Lib.hid hl
  have Z := Blk.new w #[.int .i64 0, .slice none 0 0] 24
  have B0 : Hid (Bel w (w.alloc (.cells #[.int .i64 0, .slice none 0 0] 24))) := Lib.hid ((Bel.refl w).alloc (Nat.le_refl _) _)
  have HP := Lib.hid (parse_short2 (b := b) (by rw [hN]; exact h2))
  have hlt : ¬ (b.length : Int) < 2 := by omega
  have hN255 := hb _ (MOct.getD_mem b 1 (by omega))
  rw [hN] at hN255
  have hw1 : IntKind.i64.wrap ((b.length : Int) - 2) = (b.length : Int) - 2 := IntWalk.i64_in _ (by omega)
  have hw2 : IntKind.i64.wrap (N : Int) = N := IntWalk.i64_in _ (by omega)
  have hw3 : IntKind.i64.wrap (40 * (N : Int)) = 40 * N := IntWalk.i64_in _ (by omega)
  obtain ⟨ad, hA, hcell⟩ := h.at_ 0 (by omega)
  subst hA
  obtain ⟨bk, off, rfl, _⟩ := add_none hcell
  have x1 : (w.alloc (.cells #[.int .i64 0, .slice none 0 0] 24)).cell? ⟨bk, off + 1, none⟩ = some (.int .u8 N) := by
    obtain ⟨ad, e, hx⟩ := (h.alloc (.cells #[.int .i64 0, .slice none 0 0] 24)).at_ 1 (by omega)
    injection e with e
    subst e
    rw [hN, add_mid] at hx
    exact hx
  have hi : (1 : Int) < b.length := by omega
  have hi2 : 1 < b.length := by omega
  clear hN hcell h1 hN255
  obtain ⟨t, ht⟩ : ∃ t, b.length = t := ⟨_, rfl⟩
  have HT := Lib.hid ht
  rw [ht] at HCC HL hlt h2 hw1 hi hi2 ⊢
  clear h hc hb hl ht
  go_enter Try.func22, Try.ntmps22
  go_upto_region 1 with (fail)
  obtain ⟨W, hW⟩ : ∃ Y, w.alloc (.cells #[.int .i64 0, .slice none 0 0] 24) = Y := ⟨_, rfl⟩
  rw [hW] at Z B0 x1 ⊢
  clear hW
  obtain ⟨g2, hg2⟩ : ∃ x, w.heap.size = x := ⟨_, rfl⟩
  have HG2 : Hid (w.heap.size = g2) := Lib.hid hg2
  rw [hg2] at Z ⊢
  clear hg2
  have G2 := Lib.hid Z
  clear Z
  obtain ⟨u0, u1⟩ := Blk.cells2 G2.out
  have f0 := G2.out.froz 0; have f1 := G2.out.froz 1
  have R9 := Lib.hid ((G2.out.set 0 (.int .i64 0)).set 1 (.slice none 0 0))
  have B9 := Lib.hid (below_set (i := 1) (below_set (i := 0) B0.out (show w.heap.size ≤ g2 by have := HG2.out; omega) (.int .i64 0)) (show w.heap.size ≤ g2 by have := HG2.out; omega) (.slice none 0 0))
  go_wp2
  refine ⟨rfl, .tuple #[.agg #[.int .i64 0, .slice none 0 0], .int .i64 8], ?_, PAns.bad HP.out B9.out⟩
  obtain ⟨q0, q1⟩ := Blk.cells2 R9.out
  simp [results, Try.results22, go_sem, q0, q1]
set_option maxHeartbeats 4000000 in
set_option maxRecDepth 100000 in
theorem rparse_short1 (w : World) (A : Option Addr) (c : Nat) (b : List Int) (h : CB w A b) (hc : b.length ≤ c) (hb : bytesOk b) (hl : b.length < 1000000) (h1 : b.length < 2) :
    Calls Try.prog 23 #[.slice A b.length c] w (PAns w b) := by
  have HC := Lib.hid h
  have HCC := Lib.hid hc
  have HBY := Lib.hid hb
  have HL := Lib.hid hl
  have Z := Blk.new w #[.int .i64 0, .slice none 0 0] 28
  have B0 : Hid (Bel w (w.alloc (.cells #[.int .i64 0, .slice none 0 0] 28))) := Lib.hid ((Bel.refl w).alloc (Nat.le_refl _) _)
  have HP := Lib.hid (parse_short1 h1)
  have hlt : (b.length : Int) < 2 := by omega
  clear h1
  obtain ⟨t, ht⟩ : ∃ t, b.length = t := ⟨_, rfl⟩
  have HT := Lib.hid ht
  rw [ht] at HCC HL hlt ⊢
  clear h hc hb hl ht
  go_enter Try.func23, Try.ntmps23
  go_upto_region 1 with (fail)
  obtain ⟨W, hW⟩ : ∃ Y, w.alloc (.cells #[.int .i64 0, .slice none 0 0] 28) = Y := ⟨_, rfl⟩
  rw [hW] at Z B0 ⊢
  clear hW
  obtain ⟨g2, hg2⟩ : ∃ x, w.heap.size = x := ⟨_, rfl⟩
  have HG2 : Hid (w.heap.size = g2) := Lib.hid hg2
  rw [hg2] at Z ⊢
  clear hg2
  have G2 := Lib.hid Z
  clear Z
  obtain ⟨u0, u1⟩ := Blk.cells2 G2.out
  have f0 := G2.out.froz 0; have f1 := G2.out.froz 1
  have R9 := Lib.hid ((G2.out.set 0 (.int .i64 0)).set 1 (.slice none 0 0))
  have B9 := Lib.hid (below_set (i := 1) (below_set (i := 0) B0.out (show w.heap.size ≤ g2 by have := HG2.out; omega) (.int .i64 0)) (show w.heap.size ≤ g2 by have := HG2.out; omega) (.slice none 0 0))
  go_wp2
  refine ⟨rfl, .tuple #[.agg #[.int .i64 0, .slice none 0 0], .int .i64 8], ?_, PAns.bad HP.out B9.out⟩
  obtain ⟨q0, q1⟩ := Blk.cells2 R9.out
  simp [results, Try.results23, go_sem, q0, q1]
set_option maxHeartbeats 4000000 in
set_option maxRecDepth 100000 in
theorem rparse_short2 (w : World) (A : Option Addr) (c : Nat) (b : List Int) (h : CB w A b) (hc : b.length ≤ c) (hb : bytesOk b) (hl : b.length < 1000000) (h1 : ¬ b.length < 2) {N : Nat} (hN : b.getD 1 0 = N) (h2 : (b.length : Int) - 2 < 40 * N) :
    Calls Try.prog 23 #[.slice A b.length c] w (PAns w b) := by
  have HC := Lib.hid h
  have HCC := Lib.hid hc
  have HBY := Lib.hid hb
  have HL := Lib.hid hl
  have Z := Blk.new w #[.int .i64 0, .slice none 0 0] 28
  have B0 : Hid (Bel w (w.alloc (.cells #[.int .i64 0, .slice none 0 0] 28))) := Lib.hid ((Bel.refl w).alloc (Nat.le_refl _) _)
  have HP := Lib.hid (parse_short2 (b := b) (by rw [hN]; exact h2))
  have hlt : ¬ (b.length : Int) < 2 := by omega
  have hN255 := hb _ (MOct.getD_mem b 1 (by omega))
  rw [hN] at hN255
  have hw1 : IntKind.i64.wrap ((b.length : Int) - 2) = (b.length : Int) - 2 := IntWalk.i64_in _ (by omega)
  have hw2 : IntKind.i64.wrap (N : Int) = N := IntWalk.i64_in _ (by omega)
  have hw3 : IntKind.i64.wrap (40 * (N : Int)) = 40 * N := IntWalk.i64_in _ (by omega)
  obtain ⟨ad, hA, hcell⟩ := h.at_ 0 (by omega)
  subst hA
  obtain ⟨bk, off, rfl, _⟩ := add_none hcell
  have x1 : (w.alloc (.cells #[.int .i64 0, .slice none 0 0] 28)).cell? ⟨bk, off + 1, none⟩ = some (.int .u8 N) := by
    obtain ⟨ad, e, hx⟩ := (h.alloc (.cells #[.int .i64 0, .slice none 0 0] 28)).at_ 1 (by omega)
    injection e with e
    subst e
    rw [hN, add_mid] at hx
    exact hx
  have hi : (1 : Int) < b.length := by omega
  have hi2 : 1 < b.length := by omega
  clear hN hcell h1 hN255
  obtain ⟨t, ht⟩ : ∃ t, b.length = t := ⟨_, rfl⟩
  have HT := Lib.hid ht
  rw [ht] at HCC HL hlt h2 hw1 hi hi2 ⊢
  clear h hc hb hl ht
  go_enter Try.func23, Try.ntmps23
  go_upto_region 1 with (fail)
  obtain ⟨W, hW⟩ : ∃ Y, w.alloc (.cells #[.int .i64 0, .slice none 0 0] 28) = Y := ⟨_, rfl⟩
  rw [hW] at Z B0 x1 ⊢
  clear hW
  obtain ⟨g2, hg2⟩ : ∃ x, w.heap.size = x := ⟨_, rfl⟩
  have HG2 : Hid (w.heap.size = g2) := Lib.hid hg2
  rw [hg2] at Z ⊢
  clear hg2
  have G2 := Lib.hid Z
  clear Z
  obtain ⟨u0, u1⟩ := Blk.cells2 G2.out
  have f0 := G2.out.froz 0; have f1 := G2.out.froz 1
  have R9 := Lib.hid ((G2.out.set 0 (.int .i64 0)).set 1 (.slice none 0 0))
  have B9 := Lib.hid (below_set (i := 1) (below_set (i := 0) B0.out (show w.heap.size ≤ g2 by have := HG2.out; omega) (.int .i64 0)) (show w.heap.size ≤ g2 by have := HG2.out; omega) (.slice none 0 0))
  go_wp2
  refine ⟨rfl, .tuple #[.agg #[.int .i64 0, .slice none 0 0], .int .i64 8], ?_, PAns.bad HP.out B9.out⟩
  obtain ⟨q0, q1⟩ := Blk.cells2 R9.out
  simp [results, Try.results23, go_sem, q0, q1]

end Go.Proofs.Ytljcingmjemohaa.K
