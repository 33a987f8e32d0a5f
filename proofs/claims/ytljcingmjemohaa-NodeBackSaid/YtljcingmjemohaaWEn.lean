/- Entries, and rows of them. -/
import Derived.Test.YtljcingmjemohaaKB
import Derived.Handy
import Derived.Test.YtljcingmjemohaaKM2
namespace Go.Proofs.Ytljcingmjemohaa.K
open Go Go.RowKit Go.Proofs.YtljcingmjemohaaW.PrintWords Go.Proofs.YtljcingmjemohaaW.PrintLast Go.Proofs.YtljcingmjemohaaW.PrintMore
set_option linter.unusedVariables false
set_option linter.unusedSimpArgs false
open Go.Proofs.Ytljcingmjemohaa.MBox (Bx)
open Go.Proofs.Ytljcingmjemohaa.MChoose (En)
/-! ## entries, and rows of them -/
theorem add_mid (b o j : Nat) : (⟨b, o, none⟩ : Addr).add j = ⟨b, o + j, none⟩ := by unfold Addr.add; split <;> simp_all
theorem add_none {W : World} {a : Addr} {v : Value} (h : W.cell? (a.add 0) = some v) : ∃ b o, a = ⟨b, o, none⟩ ∧ b < W.heap.size := by
  have h0 : a.add 0 = a := by unfold Addr.add; rw [if_pos rfl]
  rw [h0] at h
  obtain ⟨b, o, sp⟩ := a
  exact ⟨b, o, by rw [show sp = none from World.cell?_spot h], World.block_lt_of_cell? _ _ h⟩
def enC (e : En) : List Value := [.int .i64 e.id, .bool e.bx.no, .int .i64 e.bx.lx, .int .i64 e.bx.ly, .int .i64 e.bx.hx, .int .i64 e.bx.hy]
def KEn : Kd En where
  sz := 6
  E := []
  K := fun _ x cs => cs = enC x
  M := fun _ _ _ x cs => cs = enC x
  K_len := by rintro w x cs rfl; rfl
  K_one := by
    rintro w x cs rfl u hu
    simp only [enC, List.mem_cons, List.not_mem_nil, or_false] at hu
    rcases hu with rfl | rfl | rfl | rfl | rfl | rfl <;> rfl
  K_below := fun _ h => h
  K_of_M := fun h => h
  M_mono := fun _ h => h
  M_bound := fun h => h
  M_move := fun _ h => h
  M_lower := fun _ h => h
/-- A row of entries (of type e) that a call which began in w0 has made. -/
def RE (e : Nat) (w0 w : World) (v : Value) (l : List En) : Prop := Kd.R KEn e w w0.heap.size (fun _ => True) v l
/-- A row of entries that is read. -/
def CE (w : World) (A : Option Addr) (l : List En) : Prop := Kd.C KEn w A l.length l
theorem RE.nil (e : Nat) (w0 w : World) : RE e w0 w (.slice none 0 0) [] := Kd.R_nil _ _ _ _ _
theorem RE.below {e : Nat} {w0 w w1 : World} {v : Value} {l : List En} (h : RE e w0 w v l) (hb : Below w.heap.size w w1) : RE e w0 w1 v l := Kd.R_below h hb
theorem RE.lower {e : Nat} {w0 w w1 : World} {v : Value} {l : List En} (h : RE e w w1 v l) (hb : w0.heap.size ≤ w.heap.size) : RE e w0 w1 v l := Kd.R_lower h hb
theorem RE.reads {e : Nat} {w0 w : World} {v : Value} {l : List En} (h : RE e w0 w v l) : ∃ A c, v = .slice A l.length c ∧ l.length ≤ c ∧ CE w A l := Kd.R_reads h
theorem CE.below {w w1 : World} {A : Option Addr} {l : List En} (h : CE w A l) (hb : Below w.heap.size w w1) : CE w1 A l := Kd.C_below h hb
theorem CE.nil (w : World) : CE w none [] := Kd.C_nil _ _
theorem CE.len {w : World} {A : Option Addr} {l : List En} (h : CE w A l) : l.length ≤ 9223372036854775807 := h.2.1
/-- A new block with one entry is a row of it. -/
theorem CE.one {W : World} {g t : Nat} {x : En} (h : Blk W g #[.int .i64 x.id, .bool x.bx.no, .int .i64 x.bx.lx, .int .i64 x.bx.ly, .int .i64 x.bx.hx, .int .i64 x.bx.hy] t) : CE W (some ⟨g, 0, none⟩) [x] := by
  refine ⟨rfl, by simp, fun h0 => ⟨⟨g, 0, none⟩, rfl, fun j p hj => ?_⟩⟩
  have hj0 : j = 0 := by
    rcases j with _ | j
    · rfl
    · simp at hj
  subst hj0
  obtain rfl : x = p := by simpa using hj
  refine ⟨enC x, rfl, rfl, fun i u hu => ?_⟩
  have e : (⟨g, 0, none⟩ : Addr).add (0 * KEn.sz + i) = ⟨g, i, none⟩ := by
    rw [add_mid]; simp
  rw [e]
  match i, hu with
  | 0, hu => cases hu; exact h.cell 0 rfl
  | 1, hu => cases hu; exact h.cell 1 rfl
  | 2, hu => cases hu; exact h.cell 2 rfl
  | 3, hu => cases hu; exact h.cell 3 rfl
  | 4, hu => cases hu; exact h.cell 4 rfl
  | 5, hu => cases hu; exact h.cell 5 rfl
theorem en_at {w : World} {A : Option Addr} {l : List En} (h : CE w A l) (k : Nat) (hk : k < l.length) : ∃ b off, A = some ⟨b, off, none⟩ ∧ b < w.heap.size ∧
    w.cell? ⟨b, off + k * 6, none⟩ = some (.int .i64 l[k].id) ∧ w.cell? ⟨b, off + k * 6 + 1, none⟩ = some (.bool l[k].bx.no) ∧ w.cell? ⟨b, off + k * 6 + 2, none⟩ = some (.int .i64 l[k].bx.lx) ∧ w.cell? ⟨b, off + k * 6 + 3, none⟩ = some (.int .i64 l[k].bx.ly) ∧ w.cell? ⟨b, off + k * 6 + 4, none⟩ = some (.int .i64 l[k].bx.hx) ∧ w.cell? ⟨b, off + k * 6 + 5, none⟩ = some (.int .i64 l[k].bx.hy) := by
  obtain ⟨ad, rfl, hx⟩ := h.2.2 (by omega)
  obtain ⟨c0, _, rfl, h0⟩ := hx 0 _ (List.getElem?_eq_getElem (by omega))
  obtain ⟨b, off, rfl, hb⟩ := add_none (h0 0 _ rfl)
  obtain ⟨c, _, rfl, hc⟩ := hx k _ (List.getElem?_eq_getElem hk)
  have e : KEn.sz = 6 := rfl
  have h0 := hc 0 _ rfl; have h1 := hc 1 _ rfl; have h2 := hc 2 _ rfl; have h3 := hc 3 _ rfl; have h4 := hc 4 _ rfl; have h5 := hc 5 _ rfl
  rw [add_mid, e] at h0 h1 h2 h3 h4 h5
  exact ⟨b, off, rfl, hb, h0, h1, h2, h3, h4, h5⟩
theorem CE.take {w : World} {A : Option Addr} {l : List En} (h : CE w A l) (k : Nat) (hk : k ≤ l.length) : CE w A (l.take k) := by
  refine ⟨rfl, by have := h.2.1; rw [List.length_take]; omega, fun h0 => ?_⟩
  rw [List.length_take] at h0
  obtain ⟨ad, e, hc⟩ := h.2.2 (by omega)
  refine ⟨ad, e, fun j p hj => hc j p ?_⟩
  rw [List.getElem?_take] at hj
  split at hj
  · exact hj
  · cases hj
/-- An entry, as its argument is read. -/
abbrev TEn := Int × Bool × (Int × Int) × (Int × Int)
def toEn (x : TEn) : En := ⟨x.1, ⟨x.2.1, x.2.2.1.1, x.2.2.1.2, x.2.2.2.1, x.2.2.2.2⟩⟩
abbrev KTn : Kd TEn := Kd.pair (Kd.int .i64) (Kd.pair Kd.bool (Kd.pair (Kd.pair (Kd.int .i64) (Kd.int .i64)) (Kd.pair (Kd.int .i64) (Kd.int .i64))))
theorem ktn_cells {w : World} {x : TEn} {cs : List Value} (h : KTn.K w x cs) : cs = enC (toEn x) := by
  obtain ⟨c1, c2, e, k1, c3, c4, e2, k3, c5, c6, e3, ⟨c7, c8, e4, k5, k6⟩, c9, c10, e5, k7, k8⟩ := h
  obtain rfl : c1 = [.int .i64 x.1] := k1
  obtain rfl : c3 = [.bool x.2.1] := k3
  obtain rfl : c7 = [.int .i64 x.2.2.1.1] := k5
  obtain rfl : c8 = [.int .i64 x.2.2.1.2] := k6
  obtain rfl : c9 = [.int .i64 x.2.2.2.1] := k7
  obtain rfl : c10 = [.int .i64 x.2.2.2.2] := k8
  subst e5 e4 e3 e2 e
  rfl
theorem CE.of {w : World} {A : Option Addr} {l : List TEn} (h : KTn.C w A l.length l) : CE w A (l.map toEn) := by
  refine ⟨rfl, by rw [List.length_map]; exact h.2.1, fun h0 => ?_⟩
  rw [List.length_map] at h0
  obtain ⟨ad, e, hc⟩ := h.2.2 h0
  refine ⟨ad, e, fun j p hj => ?_⟩
  rw [List.getElem?_map] at hj
  obtain ⟨q, hq, rfl⟩ := Option.map_eq_some_iff.1 hj
  obtain ⟨c, hcl, hk, hx⟩ := hc j q hq
  exact ⟨c, hcl, ktn_cells hk, hx⟩
theorem infoE : (Try.prog.info? 85).map (fun i => (i.zero, i.size, i.bytes)) = some (some (.agg #[.int .i64 0, .bool false, .int .i64 0, .int .i64 0, .int .i64 0, .int .i64 0]), 6, 48) := by kernel_rfl
section
variable {ops : Array Oper} {rest : List Oper} {o : Oper} {a : Act} {Q : Exit → Act → World → Prop}
/-- append(entries, entries...), in the document's form -/
theorem appEn {w0 W : World} (s x : Operand) (hgd : o.guard = none) (ho : o.op = .call { callee := .builtin .append, args := #[s, x], argTypes := #[26, 26] })
    (v : Value) (xs ys : List En) (A : Option Addr) (c : Nat) (hs : a.eval s = v) (hx : a.eval x = .slice A ys.length c)
    (HO : RE 85 w0 W v xs) (HR : CE W A ys) (HB : Below w0.heap.size w0 W) (hl : xs.length + ys.length < 100000000)
    (h : ∀ v1 w1, Hid (RE 85 w0 w1 v1 (xs ++ ys)) → Hid (Below w0.heap.size w0 w1 ∧ W.grownBy w1 v.ownBlock) → wpList Try.prog ops Q rest (a.put o.dst v1) w1) :
    wpList Try.prog ops Q (o :: rest) a W :=
  Kd.R_append_rows KEn (w0 := w0) w0.heap.size hgd s x 26 85 (.agg #[.int .i64 0, .bool false, .int .i64 0, .int .i64 0, .int .i64 0, .int .i64 0]) 48 ho Try.underlying26 infoE rfl (by decide) (by omega) v xs ys A ys.length c (fun _ => True) (fun _ => False) hs hx HO HR
    (fun x cs hk => hk) (fun _ hk => hk.elim) (fun _ _ => trivial) HB HB.size (by omega) (fun v1 w1 ho hb hg hat => h v1 w1 ho ⟨hb, hg⟩)
end

end Go.Proofs.Ytljcingmjemohaa.K
