/- What a claim leans on, part 33, cut by a program out of the texts WForms. -/
import Derived.Handy
import Derived.Test.YtfknhpgelleenaaDoorRows
import Derived.ChangeSame
import Derived.Test.YtfknhpgelleenaaDoorZB4
import Derived.Test.YtfknhpgelleenaaDoorZB17
section
namespace Go.Proofs.YtfknhpgelleenaaDoor.K
open Go Go.RowKit Go.Proofs.YtfknhpgelleenaaDoorW.PrintWords Go.Proofs.YtfknhpgelleenaaDoorW.PrintLast Go.Proofs.YtfknhpgelleenaaDoorW.PrintMore
set_option linter.unusedVariables false
set_option linter.unusedSimpArgs false
open Go.ChangeShapes
theorem int_of_trod9 {H : Type} {enc : TypeId × Value → H} {w : World} {base : Nat} {sp : Nat → Bool} {held : Bool} {fuel : Nat} {t : TypeId} {k : IntKind} {c : Value} {y : DataW H × List MemPlace}
    (ht : Tryd.prog.underlying t = some (.int k)) (h : DataW.trod enc Tryd.prog w base sp held fuel t [c] = some y) : ∃ n, c = .int k n ∧ y = (.lit (.int k n), []) := by
  cases fuel with
  | zero => simp [DataW.trod] at h
  | succ fuel =>
    cases c <;> simp [DataW.trod, ht] at h
    rename_i k' n
    obtain ⟨⟨rfl, _⟩, rfl⟩ := h
    exact ⟨n, rfl, rfl⟩
theorem cells83 : Tryd.prog.cellsOf 83 = 2 := by kernel_rfl
theorem cells84 : Tryd.prog.cellsOf 84 = 16 := by kernel_rfl
theorem cells9' : Tryd.prog.cellsOf 9 = 1 := by kernel_rfl
theorem cells3' : Tryd.prog.cellsOf 3 = 1 := by kernel_rfl
theorem pair_of_trod {H : Type} {enc : TypeId × Value → H} {w : World} {base : Nat} {sp : Nat → Bool} {held : Bool} {fuel : Nat} {c0 c1 : Value} {y : DataW H × List MemPlace}
    (h : DataW.trod enc Tryd.prog w base sp held fuel 83 [c0, c1] = some y) : ∃ (s : ByteArray) (n : Int), c0 = .string s ∧ c1 = .int .i64 n ∧ y.1 = .agg [.lit (.string s.data.toList), .lit (.int .i64 n)] := by
  obtain ⟨y0, y1, m, rfl, _, h0, h1⟩ := trod_struct2 Tryd.underlying83 h
  rw [cells9'] at h0
  rw [cells3'] at h1
  obtain ⟨s, hs, hx, _⟩ := DataW.trod_string Tryd.underlying9 h0
  simp at hs
  subst hs
  obtain ⟨n, rfl, rfl⟩ := int_of_trod9 Tryd.underlying3 h1
  exact ⟨s, n, rfl, rfl, by rw [hx]⟩
theorem list16 {l : List Value} (h : l.length = 16) : ∃ C0 C1 C2 C3 C4 C5 C6 C7 C8 C9 C10 C11 C12 C13 C14 C15, l = [C0, C1, C2, C3, C4, C5, C6, C7, C8, C9, C10, C11, C12, C13, C14, C15] := by
  match l, h with
  | [a0, a1, a2, a3, a4, a5, a6, a7, a8, a9, a10, a11, a12, a13, a14, a15], _ => exact ⟨_, _, _, _, _, _, _, _, _, _, _, _, _, _, _, _, rfl⟩
theorem list8 {α : Type} {l : List α} (h : l.length = 8) : ∃ C0 C1 C2 C3 C4 C5 C6 C7, l = [C0, C1, C2, C3, C4, C5, C6, C7] := by
  match l, h with
  | [a0, a1, a2, a3, a4, a5, a6, a7], _ => exact ⟨_, _, _, _, _, _, _, _, rfl⟩
theorem str_eq {s : ByteArray} {a : Array UInt8} (h : s.data.toList = a.toList) : Value.string s = .string ⟨a⟩ := by
  obtain ⟨d⟩ := s
  obtain ⟨d⟩ := d
  obtain ⟨a⟩ := a
  dsimp only at h
  rw [h]
set_option maxHeartbeats 1000000 in
theorem forms_of_vars {W : World} {r : List (String × DataW Unit)} {ps : List MemPlace} (h : DataW.LaidVars Tryd.prog W (("hachure/shape.forms", Rows.laid_hachure_shape_forms) :: r) ps) : FormsAt W ∧ 1 ≤ W.heap.size := by
  obtain ⟨g, t, cs, fuel, p, q, hg, ht, hvar, hd, _, _⟩ := h
  obtain rfl := Option.some.inj ((show Tryd.prog.globalNamed "hachure/shape.forms" = some 0 by kernel_rfl).symm.trans hg)
  obtain rfl := Option.some.inj ((show (Tryd.prog.globals[0]?).map (·.type) = some 84 by kernel_rfl).symm.trans ht)
  have hcell := fun i => World.var?_cell hg hvar i
  have hsz : 1 ≤ W.heap.size := by
    unfold World.var? at hvar
    rw [hg] at hvar
    rcases Nat.lt_or_ge 0 W.heap.size with h | h
    · omega
    · have : W.heap[0]? = none := Array.getElem?_eq_none h
      simp [this] at hvar
  clear hvar ht hg
  obtain ⟨xs, m, _, hx, hl, hlen, hf⟩ := DataW.trod_array Tryd.underlying84 hd
  rw [cells84] at hl
  rw [cells83] at hf
  obtain ⟨l⟩ := cs
  dsimp only at hl hf
  obtain ⟨C0, C1, C2, C3, C4, C5, C6, C7, C8, C9, C10, C11, C12, C13, C14, C15, rfl⟩ := list16 hl
  obtain ⟨y0, y1, y2, y3, y4, y5, y6, y7, rfl⟩ := list8 hlen
  obtain ⟨s0, n0, e0, e1, z0⟩ := pair_of_trod (show DataW.trod _ _ _ _ _ _ _ _ [C0, C1] = some y0 from hf 0 (by omega))
  obtain ⟨s1, n1, e2, e3, z1⟩ := pair_of_trod (show DataW.trod _ _ _ _ _ _ _ _ [C2, C3] = some y1 from hf 1 (by omega))
  obtain ⟨s2, n2, e4, e5, z2⟩ := pair_of_trod (show DataW.trod _ _ _ _ _ _ _ _ [C4, C5] = some y2 from hf 2 (by omega))
  obtain ⟨s3, n3, e6, e7, z3⟩ := pair_of_trod (show DataW.trod _ _ _ _ _ _ _ _ [C6, C7] = some y3 from hf 3 (by omega))
  obtain ⟨s4, n4, e8, e9, z4⟩ := pair_of_trod (show DataW.trod _ _ _ _ _ _ _ _ [C8, C9] = some y4 from hf 4 (by omega))
  obtain ⟨s5, n5, e10, e11, z5⟩ := pair_of_trod (show DataW.trod _ _ _ _ _ _ _ _ [C10, C11] = some y5 from hf 5 (by omega))
  obtain ⟨s6, n6, e12, e13, z6⟩ := pair_of_trod (show DataW.trod _ _ _ _ _ _ _ _ [C12, C13] = some y6 from hf 6 (by omega))
  obtain ⟨s7, n7, e14, e15, z7⟩ := pair_of_trod (show DataW.trod _ _ _ _ _ _ _ _ [C14, C15] = some y7 from hf 7 (by omega))
  simp only [Rows.laid_hachure_shape_forms, List.map_cons, List.map_nil, Prod.mk.injEq, z0, z1, z2, z3, z4, z5, z6, z7, DataW.agg.injEq, DataW.lit.injEq, Lit.string.injEq, Lit.int.injEq, List.cons.injEq, true_and, and_true] at hx
  obtain ⟨⟨⟨a0, b0⟩, ⟨a1, b1⟩, ⟨a2, b2⟩, ⟨a3, b3⟩, ⟨a4, b4⟩, ⟨a5, b5⟩, ⟨a6, b6⟩, ⟨a7, b7⟩⟩, -⟩ := hx
  subst b0 b1 b2 b3 b4 b5 b6 b7
  rw [str_eq (a := #[]) a0.symm] at e0
  rw [str_eq (a := #[80, 79, 73, 78, 84]) a1.symm] at e2
  rw [str_eq (a := #[76, 73, 78, 69, 83, 84, 82, 73, 78, 71]) a2.symm] at e4
  rw [str_eq (a := #[80, 79, 76, 89, 71, 79, 78]) a3.symm] at e6
  rw [str_eq (a := #[77, 85, 76, 84, 73, 80, 79, 73, 78, 84]) a4.symm] at e8
  rw [str_eq (a := #[77, 85, 76, 84, 73, 76, 73, 78, 69, 83, 84, 82, 73, 78, 71]) a5.symm] at e10
  rw [str_eq (a := #[77, 85, 76, 84, 73, 80, 79, 76, 89, 71, 79, 78]) a6.symm] at e12
  rw [str_eq (a := #[71, 69, 79, 77, 69, 84, 82, 89, 67, 79, 76, 76, 69, 67, 84, 73, 79, 78]) a7.symm] at e14
  subst e0 e1 e2 e3 e4 e5 e6 e7 e8 e9 e10 e11 e12 e13 e14 e15
  refine ⟨?_, hsz⟩
  unfold FormsAt
  exact ⟨(hcell 0).trans rfl, (hcell 1).trans rfl, (hcell 2).trans rfl, (hcell 3).trans rfl, (hcell 4).trans rfl, (hcell 5).trans rfl, (hcell 6).trans rfl, (hcell 7).trans rfl, (hcell 8).trans rfl, (hcell 9).trans rfl, (hcell 10).trans rfl, (hcell 11).trans rfl, (hcell 12).trans rfl, (hcell 13).trans rfl, (hcell 14).trans rfl, (hcell 15).trans rfl⟩
end Go.Proofs.YtfknhpgelleenaaDoor.K
end
