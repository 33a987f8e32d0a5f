/- Texts laid as one: The walks of octet.Source: the row it stands in, the failing, Num and what they are built of. · The walks of octet.Source: Byte, Int, Var, Bytes, Left, Err, End, Read. · Small laws for walks, the second part: a block of the call's own, appends and what they leave as it was. · The reference's source (layer 2): fail and Bytes, walked. -/
import Derived.Test.YtljcingmjemohaaKB
import Derived.Test.YtljcingmjemohaaKO
import Derived.Test.YtljcingmjemohaaKM
import Derived.Test.YtljcingmjemohaaWZeros
namespace Go.Proofs.Ytljcingmjemohaa.K
open Go Go.RowKit Go.Proofs.YtljcingmjemohaaW.PrintWords Go.Proofs.YtljcingmjemohaaW.PrintLast Go.Proofs.YtljcingmjemohaaW.PrintMore
set_option linter.unusedVariables false
set_option linter.unusedSimpArgs false
open Go.Proofs.Ytljcingmjemohaa.MOct (W V tk sz vr num head getV le be many putL)
/-- The bytes that are left: they lie in a block that is older than the source's own. -/
structure CBo (g : Nat) (w : World) (A : Option Addr) (l : List Int) : Prop where
  cb : CB w A l
  old : 0 < l.length → ∀ ad, A = some ad → ad.block < g
/-- A source: its block's cells, and the bytes that are left. -/
def Src (w : World) (g : Nat) (made : Bool) (l : List Int) (e : Int) : Prop :=
  ∃ A c, w.heap[g]? = some (.cells #[.bool made, .slice A l.length c, .int .i64 e] 140 (0, 0)) ∧ l.length ≤ c ∧ CBo g w A l
theorem CB.lt {w : World} {A : Option Addr} {l : List Int} (h : CB w A l) (h0 : 0 < l.length) (ad : Addr) (e : A = some ad) : ad.block < w.heap.size := by
  obtain ⟨ad', e', hx⟩ := h.at_ 0 h0
  rw [e] at e'
  obtain rfl := Option.some.inj e'
  have := World.block_lt_of_cell? w _ hx
  rwa [add_block] at this
/-- Bytes that are read lie in none of a block's cells that aren't bytes. -/
theorem CB.only {w w' : World} {g t : Nat} {cs : Array Value} {A : Option Addr} {l : List Int} (h : CB w A l) (hg : w.heap[g]? = some (.cells cs t (0, 0))) (hcs : ∀ v ∈ cs, ∀ x, v ≠ .int .u8 x) (ho : w.grownBy w' (some g)) : CB w' A l := by
  refine ⟨h.1, h.2.1, fun h0 => ?_⟩
  obtain ⟨ad, e, hc⟩ := h.2.2 h0
  refine ⟨ad, e, fun j p hj => ?_⟩
  obtain ⟨c, h1, h2, h3⟩ := hc j p hj
  refine ⟨c, h1, h2, fun i u hu => ?_⟩
  have hcell := h3 i u hu
  have hu8 : u = .int .u8 p := by
    have h2' : c = [.int .u8 p] := h2
    rw [h2'] at hu
    rcases i with _ | i
    · simpa using hu.symm
    · simp at hu
  have hlt := World.block_lt_of_cell? w _ hcell
  have hne : (ad.add (j * (Kd.int .u8).sz + i)).block ≠ g := by
    intro hb
    unfold World.cell? at hcell
    rw [hb, hg] at hcell
    simp only at hcell
    split at hcell
    · cases hcell
    · exact hcs u (Array.mem_of_getElem? hcell) p hu8
  exact (World.cell?_of_block (ho.block _ hlt (fun e => hne (Option.some.inj e)))).trans hcell
theorem Src.only {w w' : World} {g : Nat} {made : Bool} {l : List Int} {e : Int} (h : Src w g made l e) (hg : g < w.heap.size) {k : Nat} (hk : g ≠ k) (ho : w.grownBy w' (some k)) (hn : ∀ (A : Option Addr), CB w A l → CB w' A l) : Src w' g made l e := by
  obtain ⟨A, c, h1, h2, h3⟩ := h
  exact ⟨A, c, (ho.block g hg (fun e => hk (Option.some.inj e))).trans h1, h2, ⟨hn A h3.cb, h3.old⟩⟩
theorem Src.below {w w' : World} {g : Nat} {made : Bool} {l : List Int} {e : Int} (h : Src w g made l e) (hb : Below w.heap.size w w') : Src w' g made l e := by
  obtain ⟨A, c, h1, h2, h3⟩ := h
  exact ⟨A, c, (hb.block g (by
    rcases Nat.lt_or_ge g w.heap.size with hlt | hge
    · exact hlt
    · rw [Array.getElem?_eq_none hge] at h1; cases h1)).trans h1, h2, ⟨h3.cb.below hb, h3.old⟩⟩
theorem Src.lt {w : World} {g : Nat} {made : Bool} {l : List Int} {e : Int} (h : Src w g made l e) : g < w.heap.size := by
  obtain ⟨A, c, h1, h2, h3⟩ := h
  rcases Nat.lt_or_ge g w.heap.size with hlt | hge
  · exact hlt
  · rw [Array.getElem?_eq_none hge] at h1; cases h1
theorem is_nil (w : World) : Calls Try.prog 111 #[.pointer none] w fun e w' => e = .returned (.bool false) ∧ w = w' := by
  go_enter Try.func111, Try.ntmps111
  go_wp2
  go_ret
  exact ⟨rfl, rfl⟩
theorem is_calls (w : World) (g : Nat) (made : Bool) (l : List Int) (e : Int) (h : Src w g made l e) : Calls Try.prog 111 #[.pointer (some ⟨g, 0, none⟩)] w fun e w' => e = .returned (.bool made) ∧ w = w' := by
  obtain ⟨A, c, h1, h2, h3⟩ := h
  have c0 : w.cell? ⟨g, 0, none⟩ = some (.bool made) := cell_of_row w g 0 _ 140 (0, 0) h1
  clear h1 h3
  go_enter Try.func111, Try.ntmps111
  go_wp2
  go_ret
  exact ⟨rfl, rfl⟩

theorem fail_calls (w : World) (g : Nat) (made : Bool) (l : List Int) (e' : Int) (h : Src w g made l 0) : Calls Try.prog 112 #[.pointer (some ⟨g, 0, none⟩), .int .i64 e'] w fun e w' =>
    e = .returned (.tuple #[]) ∧ w.grownBy w' (some g) ∧ Src w' g made [] e' := by
  obtain ⟨A, c, h1, h2, h3⟩ := h
  have c0 : w.cell? ⟨g, 0, none⟩ = some (.bool made) := cell_of_row w g 0 _ 140 (0, 0) h1
  have c1 : w.cell? ⟨g, 1, none⟩ = some (.slice A l.length c) := cell_of_row w g 1 _ 140 (0, 0) h1
  have c2 : w.cell? ⟨g, 2, none⟩ = some (.int .i64 0) := cell_of_row w g 2 _ 140 (0, 0) h1
  have f1 : w.frozen? ⟨g, 1, none⟩ = false := by simp [World.frozen?, h1]
  have f2 : w.frozen? ⟨g, 2, none⟩ = false := by simp [World.frozen?, h1]
  have H1 := Lib.hid h1
  clear h1 h3 h2
  go_enter Try.func112, Try.ntmps112
  go_wp2
  go_end0
  refine ⟨rfl, ?_, ?_⟩
  · exact only_setCell (g := g) (p := ⟨g, 1, none⟩) (only_setCell (g := g) (p := ⟨g, 2, none⟩) (World.grownBy.refl _ _) (.inl rfl) _) (.inl rfl) _
  · refine ⟨none, 0, ?_, by simp, ⟨CB.nil _, fun h => absurd h (by simp)⟩⟩
    have e1 := heap_set _ _ 2 _ _ (.int .i64 e') H1.out
    have e2 := heap_set _ _ 1 _ _ (.slice none 0 0) e1
    simpa using e2
theorem num1_bad (w : World) (pz ps pl pn : Addr) (size : Int) (hz : w.cell? pz = some (.int .i64 size)) (k : size < 1 ∨ 8 < size) :
    Calls Try.prog 113 #[.pointer (some pz), .pointer (some ps), .pointer (some pl), .pointer (some pn)] w fun e w' => e = .returned (.tuple #[.int .i64 0, .int .i64 2]) ∧ w = w' := by
  by_cases k1 : size < 1
  · go_enter Try.func113, Try.ntmps113
    go_wp2
    go_ret2
    exact ⟨rfl, rfl⟩
  · have k2 : 8 < size := by omega
    clear k
    go_enter Try.func113, Try.ntmps113
    go_wp2
    go_ret2
    exact ⟨rfl, rfl⟩
theorem noU8 {cs : Array Value} {a b c : Value} (h : cs = #[a, b, c]) (ha : ∀ x, a ≠ .int .u8 x) (hb : ∀ x, b ≠ .int .u8 x) (hc : ∀ x, c ≠ .int .u8 x) : ∀ v ∈ cs, ∀ x, v ≠ .int .u8 x := by
  subst h
  intro v hv x
  simp only [List.mem_toArray, List.mem_cons, List.not_mem_nil, or_false] at hv
  rcases hv with rfl | rfl | rfl
  · exact ha x
  · exact hb x
  · exact hc x
/-- One variable may have turned to one value. -/
def OneX (pn t : Nat) (X : Value) (W W' : World) : Prop := W.grownBy W' (some pn) ∧ ∀ u, W.heap[pn]? = some (.cells #[u] t (0, 0)) → W'.heap[pn]? = some (.cells #[u] t (0, 0)) ∨ W'.heap[pn]? = some (.cells #[X] t (0, 0))
theorem OneX.refl (pn t : Nat) (X : Value) (W : World) : OneX pn t X W W := ⟨World.grownBy.refl _ _, fun u h => .inl h⟩
theorem grown2 {a b c : World} {row : Option Nat} (h : a.grownBy b row) (k : b.grownBy c row) : a.grownBy c row := ⟨k.os.trans h.os, k.tape.trans h.tape, k.output.trans h.output, Nat.le_trans h.size k.size, fun i hi hn => (k.block i (Nat.lt_of_lt_of_le hi h.size) hn).trans (h.block i hi hn)⟩
theorem OneX.go {pn t : Nat} {X : Value} {w W W' : World} (h : w.grownBy W (some pn) ∧ ∃ u, W.heap[pn]? = some (.cells #[u] t (0, 0))) (k : OneX pn t X W W') : w.grownBy W' (some pn) ∧ ∃ u, W'.heap[pn]? = some (.cells #[u] t (0, 0)) := by
  obtain ⟨h1, u, hu⟩ := h
  refine ⟨grown2 h1 k.1, ?_⟩
  rcases k.2 u hu with h | h
  · exact ⟨u, h⟩
  · exact ⟨X, h⟩
theorem OneX.kept {pn t : Nat} {X : Value} {W W' : World} (k : OneX pn t X W W') (h : W.heap[pn]? = some (.cells #[X] t (0, 0))) : W'.heap[pn]? = some (.cells #[X] t (0, 0)) := by
  rcases k.2 X h with h | h <;> exact h
theorem OneX.store {pn t : Nat} {u : Value} {W : World} (h : W.heap[pn]? = some (.cells #[u] t (0, 0))) (X : Value) : OneX pn t X W (W.setCell ⟨pn, 0, none⟩ X) ∧ (W.setCell ⟨pn, 0, none⟩ X).heap[pn]? = some (.cells #[X] t (0, 0)) := by
  have e := heap_set W pn 0 t _ X h
  have e2 : (W.setCell ⟨pn, 0, none⟩ X).heap[pn]? = some (.cells #[X] t (0, 0)) := by simpa using e
  exact ⟨⟨only_setCell (g := pn) (p := ⟨pn, 0, none⟩) (World.grownBy.refl _ _) (.inl rfl) _, fun _ _ => .inr e2⟩, e2⟩
set_option maxRecDepth 100000 in
theorem num1_calls (w : World) (g pz ps pl pn : Nat) (l : List Int) (size : Int) (little : Bool) (z : Int) (h : Src w g true l 0) (hb : bytesOk l)
    (hz : w.cell? ⟨pz, 0, none⟩ = some (.int .i64 size)) (hs : w.cell? ⟨ps, 0, none⟩ = some (.pointer (some ⟨g, 0, none⟩))) (hl : w.cell? ⟨pl, 0, none⟩ = some (.bool little)) (hn : w.heap[pn]? = some (.cells #[.int .u64 z] 59 (0, 0)))
    (nz : pz ≠ pn) (ns : ps ≠ pn) (nl : pl ≠ pn) (k1 : 1 ≤ size) (k2 : size ≤ 8) :
    Calls Try.prog 113 #[.pointer (some ⟨pz, 0, none⟩), .pointer (some ⟨ps, 0, none⟩), .pointer (some ⟨pl, 0, none⟩), .pointer (some ⟨pn, 0, none⟩)] w fun e w' =>
      e = .returned (.tuple (if (getV l size little).2 then #[.int .i64 size, .int .i64 0] else #[.int .i64 0, .int .i64 8])) ∧ w.grownBy w' (some pn) ∧ w'.heap[pn]? = some (.cells #[.int .u64 (getV l size little).1] 59 (0, 0)) := by
  obtain ⟨A, c, h1, h2, h3⟩ := h
  have h3 := h3.cb
  have ng : g ≠ pn := fun e => by
    rw [e, hn] at h1
    simp at h1
  have hcell : ∀ W : World, w.grownBy W (some pn) → W.cell? ⟨ps, 0, none⟩ = some (.pointer (some ⟨g, 0, none⟩)) ∧ W.cell? ⟨g, 1, none⟩ = some (.slice A l.length c) ∧ W.cell? ⟨pz, 0, none⟩ = some (.int .i64 size) ∧ W.cell? ⟨pl, 0, none⟩ = some (.bool little) ∧ CB W A l := by
    intro W hW
    have c1 : w.cell? ⟨g, 1, none⟩ = some (.slice A l.length c) := cell_of_row w g 1 _ 140 (0, 0) h1
    have key : ∀ (k j : Nat) (v : Value), k ≠ pn → w.cell? ⟨k, j, none⟩ = some v → W.cell? ⟨k, j, none⟩ = some v := fun k j v hk hv =>
      (World.cell?_of_block (hW.block k (World.block_lt_of_cell? w _ hv) (fun e => hk (Option.some.inj e)))).trans hv
    exact ⟨key _ _ _ ns hs, key _ _ _ ng c1, key _ _ _ nz hz, key _ _ _ nl hl, h3.only hn (by intro v hv x; simp at hv; subst hv; simp) hW⟩
  have HCELL := Lib.hid hcell
  obtain ⟨hps, hg1, hpz, hpl, _⟩ := hcell w (World.grownBy.refl _ _)
  obtain ⟨gv, hgv⟩ : ∃ gv, getV l size little = gv := ⟨_, rfl⟩
  obtain ⟨x, ok⟩ := gv
  have hc : ∀ W : World, w.grownBy W (some pn) → _ := fun W hW => octet_Get_calls A c l size little W (hcell W hW).2.2.2.2 h2 hb
  rw [hgv] at hc
  have HG := Lib.hid hc
  have HPN : Hid (∃ u, w.drew.heap[pn]? = some (.cells #[u] 59 (0, 0))) := Lib.hid ⟨.int .u64 z, hn⟩
  rw [hgv]
  clear h1 h3 hb hgv hc hcell hn nz ns nl ng hs hz hl
  cases ok with
  | true =>
    go_enter Try.func113, Try.ntmps113
    go_wp2
    refine Reg.region_mono (P := Try.prog) (Ext := OneX pn 59 (.int .u64 x)) (R := fun i v W => match i with
        | 0 => v = .pointer (some ⟨g, 0, none⟩)
        | 1 => v = .pointer (some ⟨g, 0, none⟩)
        | 2 => v = .pointer (some ⟨g, 1, none⟩)
        | 3 => v = .slice A l.length c
        | 4 => v = .int .i64 size
        | 5 => v = .bool little
        | 6 => v = .tuple #[.int .u64 x, .bool true]
        | 7 => v = .tuple #[.int .u64 x, .bool true]
        | 8 => v = .int .u64 x
        | 9 => v = .bool true
        | 10 => W.heap[pn]? = some (.cells #[.int .u64 x] 59 (0, 0))
        | 11 => v = .bool true
        | _ => True) (fun W => w.grownBy W (some pn) ∧ ∃ u, W.heap[pn]? = some (.cells #[u] 59 (0, 0))) rfl (by kernel_rfl) (by kernel_rfl) ⟨only_drew (World.grownBy.refl _ _), HPN.out⟩ (fun W W' h h' => OneX.go h h') (fun W => OneX.refl _ _ _ _) (by intro j v W W' hx h; split at h <;> first | exact h | exact OneX.kept hx h) ?_ ?_
    · intro i oi hoi a W hW need old
      match i, hoi with
      | 0, hoi =>
        simp only [List.getElem?_toArray, List.getElem?_cons_succ, List.getElem?_cons_zero, Option.some.injEq] at hoi
        subst hoi
        refine Reg.ob_plain rfl ?_
        have e1 : a.eval (.tmp 1) = .pointer (some ⟨ps, 0, none⟩) := old 1 (by kernel_rfl)
        have hx := (HCELL.out W hW.1).1
        refine Reg.wp_val (W' := W) (v := .pointer (some ⟨g, 0, none⟩)) (by simp only [execOp, e1, Reg.eval_const, resolve, invoke, builtin, List.map_toArray, List.map_cons, List.map_nil, Option.map_some, Option.map_none]; (first | rfl | go_simp | (go_simp; rfl))) ⟨_, rfl, OneX.refl _ _ _ _, rfl⟩
      | 1, hoi =>
        simp only [List.getElem?_toArray, List.getElem?_cons_succ, List.getElem?_cons_zero, Option.some.injEq] at hoi
        subst hoi
        refine Reg.ob_plain rfl ?_
        have e14 : a.eval (.tmp 14) = .pointer (some ⟨g, 0, none⟩) := need 0 _ 14 rfl rfl (by kernel_rfl)
        refine Reg.wp_val (W' := W) (v := .pointer (some ⟨g, 0, none⟩)) (by simp only [execOp, e14, Reg.eval_const, resolve, invoke, builtin, List.map_toArray, List.map_cons, List.map_nil, Option.map_some, Option.map_none]; (first | rfl | go_simp | (go_simp; rfl))) ⟨_, rfl, OneX.refl _ _ _ _, rfl⟩
      | 2, hoi =>
        simp only [List.getElem?_toArray, List.getElem?_cons_succ, List.getElem?_cons_zero, Option.some.injEq] at hoi
        subst hoi
        refine Reg.ob_plain rfl ?_
        have e15 : a.eval (.tmp 15) = .pointer (some ⟨g, 0, none⟩) := need 1 _ 15 rfl rfl (by kernel_rfl)
        refine Reg.wp_val (W' := W) (v := .pointer (some ⟨g, 1, none⟩)) (by simp only [execOp, e15, Reg.eval_const, resolve, invoke, builtin, List.map_toArray, List.map_cons, List.map_nil, Option.map_some, Option.map_none]; (first | rfl | go_simp | (go_simp; rfl))) ⟨_, rfl, OneX.refl _ _ _ _, rfl⟩
      | 3, hoi =>
        simp only [List.getElem?_toArray, List.getElem?_cons_succ, List.getElem?_cons_zero, Option.some.injEq] at hoi
        subst hoi
        refine Reg.ob_plain rfl ?_
        have e16 : a.eval (.tmp 16) = .pointer (some ⟨g, 1, none⟩) := need 2 _ 16 rfl rfl (by kernel_rfl)
        have hx := (HCELL.out W hW.1).2.1
        refine Reg.wp_val (W' := W) (v := .slice A l.length c) (by simp only [execOp, e16, Reg.eval_const, resolve, invoke, builtin, List.map_toArray, List.map_cons, List.map_nil, Option.map_some, Option.map_none]; (first | rfl | go_simp | (go_simp; rfl))) ⟨_, rfl, OneX.refl _ _ _ _, rfl⟩
      | 4, hoi =>
        simp only [List.getElem?_toArray, List.getElem?_cons_succ, List.getElem?_cons_zero, Option.some.injEq] at hoi
        subst hoi
        refine Reg.ob_plain rfl ?_
        have e0 : a.eval (.tmp 0) = .pointer (some ⟨pz, 0, none⟩) := old 0 (by kernel_rfl)
        have hx := (HCELL.out W hW.1).2.2.1
        refine Reg.wp_val (W' := W) (v := .int .i64 size) (by simp only [execOp, e0, Reg.eval_const, resolve, invoke, builtin, List.map_toArray, List.map_cons, List.map_nil, Option.map_some, Option.map_none]; (first | rfl | go_simp | (go_simp; rfl))) ⟨_, rfl, OneX.refl _ _ _ _, rfl⟩
      | 5, hoi =>
        simp only [List.getElem?_toArray, List.getElem?_cons_succ, List.getElem?_cons_zero, Option.some.injEq] at hoi
        subst hoi
        refine Reg.ob_plain rfl ?_
        have e2 : a.eval (.tmp 2) = .pointer (some ⟨pl, 0, none⟩) := old 2 (by kernel_rfl)
        have hx := (HCELL.out W hW.1).2.2.2.1
        refine Reg.wp_val (W' := W) (v := .bool little) (by simp only [execOp, e2, Reg.eval_const, resolve, invoke, builtin, List.map_toArray, List.map_cons, List.map_nil, Option.map_some, Option.map_none]; (first | rfl | go_simp | (go_simp; rfl))) ⟨_, rfl, OneX.refl _ _ _ _, rfl⟩
      | 6, hoi =>
        simp only [List.getElem?_toArray, List.getElem?_cons_succ, List.getElem?_cons_zero, Option.some.injEq] at hoi
        subst hoi
        refine Reg.ob_plain rfl ?_
        have e17 : a.eval (.tmp 17) = .slice A l.length c := need 3 _ 17 rfl rfl (by kernel_rfl)
        have e18 : a.eval (.tmp 18) = .int .i64 size := need 4 _ 18 rfl rfl (by kernel_rfl)
        have e19 : a.eval (.tmp 19) = .bool little := need 5 _ 19 rfl rfl (by kernel_rfl)
        refine Reg.wp_call (f := 114) (args := #[.slice A l.length c, .int .i64 size, .bool little]) (by simp only [execOp, e17, e18, e19, Reg.eval_const, resolve, invoke, List.map_toArray, List.map_cons, List.map_nil]; go_simp) ?_
        refine (HG.out W hW.1).mono ?_
        rintro e W' ⟨rfl, rfl⟩; exact ⟨_, rfl, _, rfl, OneX.refl _ _ _ _, rfl⟩
      | 7, hoi =>
        simp only [List.getElem?_toArray, List.getElem?_cons_succ, List.getElem?_cons_zero, Option.some.injEq] at hoi
        subst hoi
        refine Reg.ob_plain rfl ?_
        have e20 : a.eval (.tmp 20) = .tuple #[.int .u64 x, .bool true] := need 6 _ 20 rfl rfl (by kernel_rfl)
        refine Reg.wp_val (W' := W) (v := _) (by simp only [execOp, e20, Reg.eval_const]; rfl) ⟨_, rfl, OneX.refl _ _ _ _, rfl⟩
      | 8, hoi =>
        simp only [List.getElem?_toArray, List.getElem?_cons_succ, List.getElem?_cons_zero, Option.some.injEq] at hoi
        subst hoi
        refine Reg.ob_plain rfl ?_
        have e13 : a.eval (.tmp 13) = .tuple #[.int .u64 x, .bool true] := need 7 _ 13 rfl rfl (by kernel_rfl)
        refine Reg.wp_val (W' := W) (v := .int .u64 x) (by simp only [execOp, e13, Reg.eval_const, resolve, invoke, builtin, List.map_toArray, List.map_cons, List.map_nil, Option.map_some, Option.map_none]; (first | rfl | go_simp | (go_simp; rfl))) ⟨_, rfl, OneX.refl _ _ _ _, rfl⟩
      | 9, hoi =>
        simp only [List.getElem?_toArray, List.getElem?_cons_succ, List.getElem?_cons_zero, Option.some.injEq] at hoi
        subst hoi
        refine Reg.ob_plain rfl ?_
        have e13 : a.eval (.tmp 13) = .tuple #[.int .u64 x, .bool true] := need 7 _ 13 rfl rfl (by kernel_rfl)
        refine Reg.wp_val (W' := W) (v := .bool true) (by simp only [execOp, e13, Reg.eval_const, resolve, invoke, builtin, List.map_toArray, List.map_cons, List.map_nil, Option.map_some, Option.map_none]; (first | rfl | go_simp | (go_simp; rfl))) ⟨_, rfl, OneX.refl _ _ _ _, rfl⟩
      | 10, hoi =>
        simp only [List.getElem?_toArray, List.getElem?_cons_succ, List.getElem?_cons_zero, Option.some.injEq] at hoi
        subst hoi
        refine Reg.ob_plain rfl ?_
        have e3 : a.eval (.tmp 3) = .pointer (some ⟨pn, 0, none⟩) := old 3 (by kernel_rfl)
        have e21 : a.eval (.tmp 21) = .int .u64 x := need 8 _ 21 rfl rfl (by kernel_rfl)
        obtain ⟨u, hu⟩ := hW.2
        have hx : W.cell? ⟨pn, 0, none⟩ = some u := cell_of_row W pn 0 _ 59 (0, 0) hu
        have hf : W.frozen? ⟨pn, 0, none⟩ = false := by simp [World.frozen?, hu]
        have hst := OneX.store hu (.int .u64 x)
        refine Reg.wp_skip (W' := W.setCell ⟨pn, 0, none⟩ (.int .u64 x)) (by simp only [execOp, e3, e21, Reg.eval_const]; (first | rfl | go_simp | (go_simp; rfl))) ⟨undef, rfl, hst.1, hst.2⟩
      | 11, hoi =>
        simp only [List.getElem?_toArray, List.getElem?_cons_succ, List.getElem?_cons_zero, Option.some.injEq] at hoi
        subst hoi
        refine Reg.ob_plain rfl ?_
        have e22 : a.eval (.tmp 22) = .bool true := need 9 _ 22 rfl rfl (by kernel_rfl)
        refine Reg.wp_val (W' := W) (v := _) (by simp only [execOp, e22, Reg.eval_const]; rfl) ⟨_, rfl, OneX.refl _ _ _ _, rfl⟩
      | n + 12, hoi => simp at hoi
    · intro a w5 hW hsize hdef got same did
      have ha := Reg.act_of [14, 15, 16, 17, 18, 19, 20, 13, 21, 22, 6] hsize hdef same (by kernel_rfl)
      simp only [List.foldl_cons, List.foldl_nil] at ha
      generalize a.tmps.getD 14 undef = y14 at ha
      generalize a.tmps.getD 15 undef = y15 at ha
      generalize a.tmps.getD 16 undef = y16 at ha
      generalize a.tmps.getD 17 undef = y17 at ha
      generalize a.tmps.getD 18 undef = y18 at ha
      generalize a.tmps.getD 19 undef = y19 at ha
      generalize a.tmps.getD 20 undef = y20 at ha
      generalize a.tmps.getD 13 undef = y13 at ha
      generalize a.tmps.getD 21 undef = y21 at ha
      generalize a.tmps.getD 22 undef = y22 at ha
      have k6 := got 11 _ 6 rfl rfl
      simp only at k6
      rw [k6] at ha
      clear k6
      clear got same hsize hdef
      subst ha
      simp only [List.setIfInBounds_toArray, List.set_cons_zero, List.set_cons_succ]

      obtain ⟨_, hst⟩ := did 10 _ rfl rfl
      simp only at hst
      clear did
      have hx := (HCELL.out w5 hW.1).2.2.1
      go_wp2
      go_ret2
      exact ⟨rfl, hW.1, hst⟩
  | false =>
    go_enter Try.func113, Try.ntmps113
    go_wp2
    refine Reg.region_mono (P := Try.prog) (Ext := OneX pn 59 (.int .u64 x)) (R := fun i v W => match i with
        | 0 => v = .pointer (some ⟨g, 0, none⟩)
        | 1 => v = .pointer (some ⟨g, 0, none⟩)
        | 2 => v = .pointer (some ⟨g, 1, none⟩)
        | 3 => v = .slice A l.length c
        | 4 => v = .int .i64 size
        | 5 => v = .bool little
        | 6 => v = .tuple #[.int .u64 x, .bool false]
        | 7 => v = .tuple #[.int .u64 x, .bool false]
        | 8 => v = .int .u64 x
        | 9 => v = .bool false
        | 10 => W.heap[pn]? = some (.cells #[.int .u64 x] 59 (0, 0))
        | 11 => v = .bool false
        | _ => True) (fun W => w.grownBy W (some pn) ∧ ∃ u, W.heap[pn]? = some (.cells #[u] 59 (0, 0))) rfl (by kernel_rfl) (by kernel_rfl) ⟨only_drew (World.grownBy.refl _ _), HPN.out⟩ (fun W W' h h' => OneX.go h h') (fun W => OneX.refl _ _ _ _) (by intro j v W W' hx h; split at h <;> first | exact h | exact OneX.kept hx h) ?_ ?_
    · intro i oi hoi a W hW need old
      match i, hoi with
      | 0, hoi =>
        simp only [List.getElem?_toArray, List.getElem?_cons_succ, List.getElem?_cons_zero, Option.some.injEq] at hoi
        subst hoi
        refine Reg.ob_plain rfl ?_
        have e1 : a.eval (.tmp 1) = .pointer (some ⟨ps, 0, none⟩) := old 1 (by kernel_rfl)
        have hx := (HCELL.out W hW.1).1
        refine Reg.wp_val (W' := W) (v := .pointer (some ⟨g, 0, none⟩)) (by simp only [execOp, e1, Reg.eval_const, resolve, invoke, builtin, List.map_toArray, List.map_cons, List.map_nil, Option.map_some, Option.map_none]; (first | rfl | go_simp | (go_simp; rfl))) ⟨_, rfl, OneX.refl _ _ _ _, rfl⟩
      | 1, hoi =>
        simp only [List.getElem?_toArray, List.getElem?_cons_succ, List.getElem?_cons_zero, Option.some.injEq] at hoi
        subst hoi
        refine Reg.ob_plain rfl ?_
        have e14 : a.eval (.tmp 14) = .pointer (some ⟨g, 0, none⟩) := need 0 _ 14 rfl rfl (by kernel_rfl)
        refine Reg.wp_val (W' := W) (v := .pointer (some ⟨g, 0, none⟩)) (by simp only [execOp, e14, Reg.eval_const, resolve, invoke, builtin, List.map_toArray, List.map_cons, List.map_nil, Option.map_some, Option.map_none]; (first | rfl | go_simp | (go_simp; rfl))) ⟨_, rfl, OneX.refl _ _ _ _, rfl⟩
      | 2, hoi =>
        simp only [List.getElem?_toArray, List.getElem?_cons_succ, List.getElem?_cons_zero, Option.some.injEq] at hoi
        subst hoi
        refine Reg.ob_plain rfl ?_
        have e15 : a.eval (.tmp 15) = .pointer (some ⟨g, 0, none⟩) := need 1 _ 15 rfl rfl (by kernel_rfl)
        refine Reg.wp_val (W' := W) (v := .pointer (some ⟨g, 1, none⟩)) (by simp only [execOp, e15, Reg.eval_const, resolve, invoke, builtin, List.map_toArray, List.map_cons, List.map_nil, Option.map_some, Option.map_none]; (first | rfl | go_simp | (go_simp; rfl))) ⟨_, rfl, OneX.refl _ _ _ _, rfl⟩
      | 3, hoi =>
        simp only [List.getElem?_toArray, List.getElem?_cons_succ, List.getElem?_cons_zero, Option.some.injEq] at hoi
        subst hoi
        refine Reg.ob_plain rfl ?_
        have e16 : a.eval (.tmp 16) = .pointer (some ⟨g, 1, none⟩) := need 2 _ 16 rfl rfl (by kernel_rfl)
        have hx := (HCELL.out W hW.1).2.1
        refine Reg.wp_val (W' := W) (v := .slice A l.length c) (by simp only [execOp, e16, Reg.eval_const, resolve, invoke, builtin, List.map_toArray, List.map_cons, List.map_nil, Option.map_some, Option.map_none]; (first | rfl | go_simp | (go_simp; rfl))) ⟨_, rfl, OneX.refl _ _ _ _, rfl⟩
      | 4, hoi =>
        simp only [List.getElem?_toArray, List.getElem?_cons_succ, List.getElem?_cons_zero, Option.some.injEq] at hoi
        subst hoi
        refine Reg.ob_plain rfl ?_
        have e0 : a.eval (.tmp 0) = .pointer (some ⟨pz, 0, none⟩) := old 0 (by kernel_rfl)
        have hx := (HCELL.out W hW.1).2.2.1
        refine Reg.wp_val (W' := W) (v := .int .i64 size) (by simp only [execOp, e0, Reg.eval_const, resolve, invoke, builtin, List.map_toArray, List.map_cons, List.map_nil, Option.map_some, Option.map_none]; (first | rfl | go_simp | (go_simp; rfl))) ⟨_, rfl, OneX.refl _ _ _ _, rfl⟩
      | 5, hoi =>
        simp only [List.getElem?_toArray, List.getElem?_cons_succ, List.getElem?_cons_zero, Option.some.injEq] at hoi
        subst hoi
        refine Reg.ob_plain rfl ?_
        have e2 : a.eval (.tmp 2) = .pointer (some ⟨pl, 0, none⟩) := old 2 (by kernel_rfl)
        have hx := (HCELL.out W hW.1).2.2.2.1
        refine Reg.wp_val (W' := W) (v := .bool little) (by simp only [execOp, e2, Reg.eval_const, resolve, invoke, builtin, List.map_toArray, List.map_cons, List.map_nil, Option.map_some, Option.map_none]; (first | rfl | go_simp | (go_simp; rfl))) ⟨_, rfl, OneX.refl _ _ _ _, rfl⟩
      | 6, hoi =>
        simp only [List.getElem?_toArray, List.getElem?_cons_succ, List.getElem?_cons_zero, Option.some.injEq] at hoi
        subst hoi
        refine Reg.ob_plain rfl ?_
        have e17 : a.eval (.tmp 17) = .slice A l.length c := need 3 _ 17 rfl rfl (by kernel_rfl)
        have e18 : a.eval (.tmp 18) = .int .i64 size := need 4 _ 18 rfl rfl (by kernel_rfl)
        have e19 : a.eval (.tmp 19) = .bool little := need 5 _ 19 rfl rfl (by kernel_rfl)
        refine Reg.wp_call (f := 114) (args := #[.slice A l.length c, .int .i64 size, .bool little]) (by simp only [execOp, e17, e18, e19, Reg.eval_const, resolve, invoke, List.map_toArray, List.map_cons, List.map_nil]; go_simp) ?_
        refine (HG.out W hW.1).mono ?_
        rintro e W' ⟨rfl, rfl⟩; exact ⟨_, rfl, _, rfl, OneX.refl _ _ _ _, rfl⟩
      | 7, hoi =>
        simp only [List.getElem?_toArray, List.getElem?_cons_succ, List.getElem?_cons_zero, Option.some.injEq] at hoi
        subst hoi
        refine Reg.ob_plain rfl ?_
        have e20 : a.eval (.tmp 20) = .tuple #[.int .u64 x, .bool false] := need 6 _ 20 rfl rfl (by kernel_rfl)
        refine Reg.wp_val (W' := W) (v := _) (by simp only [execOp, e20, Reg.eval_const]; rfl) ⟨_, rfl, OneX.refl _ _ _ _, rfl⟩
      | 8, hoi =>
        simp only [List.getElem?_toArray, List.getElem?_cons_succ, List.getElem?_cons_zero, Option.some.injEq] at hoi
        subst hoi
        refine Reg.ob_plain rfl ?_
        have e13 : a.eval (.tmp 13) = .tuple #[.int .u64 x, .bool false] := need 7 _ 13 rfl rfl (by kernel_rfl)
        refine Reg.wp_val (W' := W) (v := .int .u64 x) (by simp only [execOp, e13, Reg.eval_const, resolve, invoke, builtin, List.map_toArray, List.map_cons, List.map_nil, Option.map_some, Option.map_none]; (first | rfl | go_simp | (go_simp; rfl))) ⟨_, rfl, OneX.refl _ _ _ _, rfl⟩
      | 9, hoi =>
        simp only [List.getElem?_toArray, List.getElem?_cons_succ, List.getElem?_cons_zero, Option.some.injEq] at hoi
        subst hoi
        refine Reg.ob_plain rfl ?_
        have e13 : a.eval (.tmp 13) = .tuple #[.int .u64 x, .bool false] := need 7 _ 13 rfl rfl (by kernel_rfl)
        refine Reg.wp_val (W' := W) (v := .bool false) (by simp only [execOp, e13, Reg.eval_const, resolve, invoke, builtin, List.map_toArray, List.map_cons, List.map_nil, Option.map_some, Option.map_none]; (first | rfl | go_simp | (go_simp; rfl))) ⟨_, rfl, OneX.refl _ _ _ _, rfl⟩
      | 10, hoi =>
        simp only [List.getElem?_toArray, List.getElem?_cons_succ, List.getElem?_cons_zero, Option.some.injEq] at hoi
        subst hoi
        refine Reg.ob_plain rfl ?_
        have e3 : a.eval (.tmp 3) = .pointer (some ⟨pn, 0, none⟩) := old 3 (by kernel_rfl)
        have e21 : a.eval (.tmp 21) = .int .u64 x := need 8 _ 21 rfl rfl (by kernel_rfl)
        obtain ⟨u, hu⟩ := hW.2
        have hx : W.cell? ⟨pn, 0, none⟩ = some u := cell_of_row W pn 0 _ 59 (0, 0) hu
        have hf : W.frozen? ⟨pn, 0, none⟩ = false := by simp [World.frozen?, hu]
        have hst := OneX.store hu (.int .u64 x)
        refine Reg.wp_skip (W' := W.setCell ⟨pn, 0, none⟩ (.int .u64 x)) (by simp only [execOp, e3, e21, Reg.eval_const]; (first | rfl | go_simp | (go_simp; rfl))) ⟨undef, rfl, hst.1, hst.2⟩
      | 11, hoi =>
        simp only [List.getElem?_toArray, List.getElem?_cons_succ, List.getElem?_cons_zero, Option.some.injEq] at hoi
        subst hoi
        refine Reg.ob_plain rfl ?_
        have e22 : a.eval (.tmp 22) = .bool false := need 9 _ 22 rfl rfl (by kernel_rfl)
        refine Reg.wp_val (W' := W) (v := _) (by simp only [execOp, e22, Reg.eval_const]; rfl) ⟨_, rfl, OneX.refl _ _ _ _, rfl⟩
      | n + 12, hoi => simp at hoi
    · intro a w5 hW hsize hdef got same did
      have ha := Reg.act_of [14, 15, 16, 17, 18, 19, 20, 13, 21, 22, 6] hsize hdef same (by kernel_rfl)
      simp only [List.foldl_cons, List.foldl_nil] at ha
      generalize a.tmps.getD 14 undef = y14 at ha
      generalize a.tmps.getD 15 undef = y15 at ha
      generalize a.tmps.getD 16 undef = y16 at ha
      generalize a.tmps.getD 17 undef = y17 at ha
      generalize a.tmps.getD 18 undef = y18 at ha
      generalize a.tmps.getD 19 undef = y19 at ha
      generalize a.tmps.getD 20 undef = y20 at ha
      generalize a.tmps.getD 13 undef = y13 at ha
      generalize a.tmps.getD 21 undef = y21 at ha
      generalize a.tmps.getD 22 undef = y22 at ha
      have k6 := got 11 _ 6 rfl rfl
      simp only at k6
      rw [k6] at ha
      clear k6
      clear got same hsize hdef
      subst ha
      simp only [List.setIfInBounds_toArray, List.set_cons_zero, List.set_cons_succ]

      obtain ⟨_, hst⟩ := did 10 _ rfl rfl
      simp only at hst
      clear did
      go_wp2
      go_ret2
      exact ⟨rfl, hW.1, hst⟩
/-- What Num tells, and what is left. -/
def numS (made : Bool) (l : List Int) (e size : Int) (little : Bool) : Int × List Int × Int :=
  if made = false ∨ e ≠ 0 then (0, l, e) else if size < 1 ∨ size > 8 then (0, [], 2) else if (getV l size little).2 then ((getV l size little).1, l.drop size.toNat, 0) else (0, [], 8)
/-- Two blocks may have turned. -/
def Two (a b : World) (g k : Nat) : Prop := b.os = a.os ∧ b.tape = a.tape ∧ b.output = a.output ∧ a.heap.size ≤ b.heap.size ∧ ∀ i, i < a.heap.size → i ≠ g → i ≠ k → b.heap[i]? = a.heap[i]?
theorem Two.refl (a : World) (g k : Nat) : Two a a g k := ⟨rfl, rfl, rfl, Nat.le_refl _, fun _ _ _ _ => rfl⟩
theorem Two.of_k {a b : World} {g k : Nat} (h : a.grownBy b (some k)) : Two a b g k := ⟨h.os, h.tape, h.output, h.size, fun i hi _ hk => h.block i hi (fun e => hk (Option.some.inj e))⟩
theorem Two.then_g {a b c : World} {g k : Nat} (h : Two a b g k) (h2 : b.grownBy c (some g)) : Two a c g k :=
  ⟨h2.os.trans h.1, h2.tape.trans h.2.1, h2.output.trans h.2.2.1, Nat.le_trans h.2.2.2.1 h2.size, fun i hi hg hk => (h2.block i (Nat.lt_of_lt_of_le hi h.2.2.2.1) (fun e => hg (Option.some.inj e))).trans (h.2.2.2.2 i hi hg hk)⟩
theorem CB.drop {w : World} {A : Option Addr} {l : List Int} (h : CB w A l) (n c : Nat) (hn : n ≤ l.length) (hc : l.length ≤ c) : CB w (if c = n then A else A.map (·.add n)) (l.drop n) := by
  have e : n * (Kd.int .u8).sz = n := Nat.mul_one n
  have := Kd.C_drop h hn hc
  rw [e] at this
  exact this
theorem Src.kept {W w1 : World} {g pn : Nat} {l : List Int} {e : Int} {made : Bool} (h : Src W g made l e) (hne : g ≠ pn) (hpn : ∃ u t, W.heap[pn]? = some (.cells #[u] t (0, 0)) ∧ ∀ x, u ≠ .int .u8 x) (hg : W.grownBy w1 (some pn)) : Src w1 g made l e := by
  obtain ⟨u, t, hu, hx⟩ := hpn
  exact h.only h.lt hne hg (fun A hA => hA.only hu (by intro v hv x; simp at hv; subst hv; exact hx x) hg)
theorem Src.cut {w1 : World} {g : Nat} {l : List Int} {A1 : Option Addr} {c1 m : Nat} (k1 : w1.heap[g]? = some (.cells #[.bool true, .slice A1 l.length c1, .int .i64 0] 140 (0, 0))) (k2 : l.length ≤ c1) (k3 : CBo g w1 A1 l) (hm : m ≤ l.length)
    (B : Option Addr) (n' cc : Nat) (hB : B = if c1 = m then A1 else A1.map (·.add m)) (hn : n' = l.length - m) (hcc : cc = c1 - m) : Src (w1.setCell ⟨g, 1, none⟩ (.slice B n' cc)) g true (l.drop m) 0 ∧ w1.grownBy (w1.setCell ⟨g, 1, none⟩ (.slice B n' cc)) (some g) := by
  subst hB
  have hg : w1.grownBy (w1.setCell ⟨g, 1, none⟩ (.slice (if c1 = m then A1 else A1.map (·.add m)) n' cc)) (some g) := only_setCell (g := g) (p := ⟨g, 1, none⟩) (World.grownBy.refl _ _) (.inl rfl) _
  refine ⟨⟨(if c1 = m then A1 else A1.map (·.add m)), cc, ?_, by rw [List.length_drop]; omega, ?_⟩, hg⟩
  · have := heap_set w1 g 1 140 _ (.slice (if c1 = m then A1 else A1.map (·.add m)) n' cc) k1
    rw [List.length_drop, ← hn]
    simpa using this
  · refine ⟨(k3.cb.drop m c1 hm k2).only k1 (noU8 rfl (by simp) (by simp) (by simp)) hg, fun h0 ad e => ?_⟩
    rw [List.length_drop] at h0
    split at e
    · exact k3.old (by omega) ad e
    · obtain ⟨x, hx, rfl⟩ := Option.map_eq_some_iff.1 e
      rw [add_block]
      exact k3.old (by omega) x hx
set_option maxHeartbeats 1000000 in
theorem step57_calls (W : World) (g pn : Nat) (caps : Array Value) (l : List Int) (n e1 : Int) (R : World → Prop) (h : Src W g true l 0) (hne : g ≠ pn) (hpn : ∃ u t, W.heap[pn]? = some (.cells #[u] t (0, 0)) ∧ ∀ x, u ≠ .int .u8 x)
    (hdo : ∀ w0 : World, w0 = W → Calls Try.prog 113 caps w0 fun e w1 => e = .returned (.tuple #[.int .i64 n, .int .i64 e1]) ∧ w0.grownBy w1 (some pn) ∧ R w1)
    (hn : e1 = 0 → 0 ≤ n ∧ n ≤ l.length) (hR : ∀ w1 w2 : World, w1.grownBy w2 (some g) → R w1 → R w2) :
    Calls Try.prog 95 #[.pointer (some ⟨g, 0, none⟩), .func (.func 113) #[] caps] W fun e w' => e = .returned (.tuple #[]) ∧ Two W w' g pn ∧ Src w' g true (if e1 = 0 then l.drop n.toNat else []) e1 ∧ R w' := by
  obtain ⟨A, c, h1, h2, h3⟩ := h
  have c0 : W.cell? ⟨g, 0, none⟩ = some (.bool true) := cell_of_row W g 0 _ 140 (0, 0) h1
  have c2 : W.cell? ⟨g, 2, none⟩ = some (.int .i64 0) := cell_of_row W g 2 _ 140 (0, 0) h1
  have H1 := Lib.hid h1
  have H2 := Lib.hid h2
  have H3 := Lib.hid h3
  have HD := Lib.hid hdo
  have HN := Lib.hid hn
  have HR := Lib.hid hR
  have HP := Lib.hid hpn
  clear h1 h2 h3 hdo hn hR hpn
  go_enter Try.func95, Try.ntmps95
  have hsrc : Src W g true l 0 := ⟨A, c, H1.out, H2.out, H3.out⟩
  have HS := Lib.hid hsrc
  clear hsrc
  by_cases he : e1 = 0
  · subst he
    obtain ⟨hn0, hnl⟩ := HN.out rfl
    obtain ⟨m, rfl⟩ : ∃ m : Nat, n = m := ⟨n.toNat, by omega⟩
    go_wp2_with (first
        | (go_at_call 111; refine (is_calls _ g true l 0 HS.out).mono ?_; rintro e w0 ⟨rfl, rfl⟩)
        | (go_at_call 113; refine (HD.out _ rfl).mono ?_; rintro e w1 ⟨rfl, hg1, hr1⟩
           have hs1 := HS.out.kept hne HP.out hg1
           obtain ⟨A1, c1, k1, k2, k3⟩ := hs1
           have q1 : w1.cell? ⟨g, 1, none⟩ = some (.slice A1 l.length c1) := cell_of_row w1 g 1 _ 140 (0, 0) k1
           have f1 : w1.frozen? ⟨g, 1, none⟩ = false := by simp [World.frozen?, k1]
           have K1 := Lib.hid k1
           have K2 := Lib.hid k2
           have K3 := Lib.hid k3
           have G1 := Lib.hid hg1
           have R1 := Lib.hid hr1
           clear k1 k3 hg1 hr1))
    · go_end0
      obtain ⟨s1, s2⟩ := Src.cut K1.out k2 K3.out (by omega) A1 (l.length - m) 0 (by rw [if_pos (by omega)]) rfl (by omega)
      exact ⟨rfl, Two.then_g (Two.of_k G1.out) s2, s1, HR.out _ _ s2 R1.out⟩
    · go_end0
      obtain ⟨s1, s2⟩ := Src.cut K1.out k2 K3.out (by omega) (A1.map (fun x => x.add m)) (l.length - m) (c1 - m) (by rw [if_neg (by assumption)]) rfl rfl
      exact ⟨rfl, Two.then_g (Two.of_k G1.out) s2, s1, HR.out _ _ s2 R1.out⟩
  · have b1 : (e1 != 0) = true := by simpa using he
    rw [if_neg he]
    clear he
    go_wp2_with (first
        | (go_at_call 111; refine (is_calls _ g true l 0 HS.out).mono ?_; rintro e w0 ⟨rfl, rfl⟩)
        | (go_at_call 113; refine (HD.out _ rfl).mono ?_; rintro e w1 ⟨rfl, hg1, hr1⟩
           have hs1 := Lib.hid (HS.out.kept hne HP.out hg1)
           have G1 := Lib.hid hg1
           have R1 := Lib.hid hr1
           clear hg1 hr1)
        | (go_at_call 112; refine (fail_calls _ g true l e1 hs1.out).mono ?_; rintro e w2 ⟨rfl, g2, s2⟩))
    refine bodyPost_ret (results_none rfl _ _ _) rfl ?_
    exact ⟨rfl, Two.then_g (Two.of_k G1.out) g2, s2, HR.out _ _ g2 R1.out⟩

set_option maxHeartbeats 1000000 in
set_option maxRecDepth 100000 in
theorem step_off (W : World) (g : Nat) (made : Bool) (l : List Int) (e : Int) (h : Src W g made l e) (hm : made = false ∨ e ≠ 0) (fv : Value) : Calls Try.prog 95 #[.pointer (some ⟨g, 0, none⟩), fv] W fun e w' => e = .returned (.tuple #[]) ∧ W = w' := by
  have HS := Lib.hid h
  obtain ⟨A, c, h1, h2, h3⟩ := h
  have c2 : W.cell? ⟨g, 2, none⟩ = some (.int .i64 e) := cell_of_row W g 2 _ 140 (0, 0) h1
  clear h1 h2 h3
  cases made with
  | false =>
    clear hm
    go_enter Try.func95, Try.ntmps95
    go_wp2_with (go_at_call 111; refine (is_calls _ g false l e HS.out).mono ?_; rintro e w0 ⟨rfl, rfl⟩)
    refine bodyPost_ret (results_none rfl _ _ _) rfl ?_
    exact ⟨rfl, rfl⟩
  | true =>
    have he : (e != 0) = true := by simpa using hm
    clear hm
    go_enter Try.func95, Try.ntmps95
    go_wp2_with (go_at_call 111; refine (is_calls _ g true l e HS.out).mono ?_; rintro e w0 ⟨rfl, rfl⟩)
    refine bodyPost_ret (results_none rfl _ _ _) rfl ?_
    exact ⟨rfl, rfl⟩
theorem step_nil (W : World) (fv : Value) : Calls Try.prog 95 #[.pointer none, fv] W fun e w' => e = .returned (.tuple #[]) ∧ W = w' := by
  go_enter Try.func95, Try.ntmps95
  go_wp2_with (go_at_call 111; refine (is_nil _).mono ?_; rintro e w0 ⟨rfl, rfl⟩)
  refine bodyPost_ret (results_none rfl _ _ _) rfl ?_
  exact ⟨rfl, rfl⟩
theorem four (w : World) (o1 o2 o3 o4 : Obj) : ((((w.alloc o1).alloc o2).alloc o3).alloc o4).heap[w.heap.size]? = some o1 ∧ ((((w.alloc o1).alloc o2).alloc o3).alloc o4).heap[w.heap.size + 1]? = some o2 ∧
    ((((w.alloc o1).alloc o2).alloc o3).alloc o4).heap[w.heap.size + 1 + 1]? = some o3 ∧ ((((w.alloc o1).alloc o2).alloc o3).alloc o4).heap[w.heap.size + 1 + 1 + 1]? = some o4 := by
  have s1 : (w.alloc o1).heap.size = w.heap.size + 1 := by simp
  have s2 : ((w.alloc o1).alloc o2).heap.size = w.heap.size + 1 + 1 := by simp
  have s3 : (((w.alloc o1).alloc o2).alloc o3).heap.size = w.heap.size + 1 + 1 + 1 := by simp
  have n1 := heap_alloc_new w o1
  have n2 := heap_alloc_new (w.alloc o1) o2
  have n3 := heap_alloc_new ((w.alloc o1).alloc o2) o3
  have n4 := heap_alloc_new (((w.alloc o1).alloc o2).alloc o3) o4
  rw [s1] at n2
  rw [s2] at n3
  rw [s3] at n4
  refine ⟨?_, ?_, ?_, n4⟩
  · rw [Below.heap_alloc _ _ _ (by omega), Below.heap_alloc _ _ _ (by omega), Below.heap_alloc _ _ _ (by omega)]; exact n1
  · rw [Below.heap_alloc _ _ _ (by omega), Below.heap_alloc _ _ _ (by omega)]; exact n2
  · rw [Below.heap_alloc _ _ _ (by omega)]; exact n3
/-- Only block g has turned, of those that were there. -/
theorem Two.only {w W w' : World} {g k : Nat} (h : Below w.heap.size w W) (h2 : Two W w' g k) (hk : w.heap.size ≤ k) : w.grownBy w' (some g) :=
  ⟨h2.1.trans h.os, h2.2.1.trans h.tape, h2.2.2.1.trans h.output, Nat.le_trans h.size h2.2.2.2.1, fun i hi hn => (h2.2.2.2.2 i (Nat.lt_of_lt_of_le hi h.size) (fun e => hn (by rw [e])) (by omega)).trans (h.block i hi)⟩
set_option maxHeartbeats 1000000 in
set_option maxRecDepth 100000 in
theorem Num_of (w : World) (p : Value) (g : Nat) (size : Int) (little : Bool) (v : Int) (Q : World → Prop)
    (hstep : ∀ W4 : World, Below w.heap.size w W4 → W4.heap[w.heap.size]? = some (.cells #[p] 94 (0, 0)) → W4.heap[w.heap.size + 1]? = some (.cells #[.int .i64 size] 3 (0, 0)) → W4.heap[w.heap.size + 1 + 1]? = some (.cells #[.bool little] 4 (0, 0)) → W4.heap[w.heap.size + 1 + 1 + 1]? = some (.cells #[.int .u64 0] 59 (0, 0)) →
      Calls Try.prog 95 #[p, .func (.func 113) #[] #[.pointer (some ⟨w.heap.size + 1, 0, none⟩), .pointer (some ⟨w.heap.size, 0, none⟩), .pointer (some ⟨w.heap.size + 1 + 1, 0, none⟩), .pointer (some ⟨w.heap.size + 1 + 1 + 1, 0, none⟩)]] W4 fun e w2 =>
        e = .returned (.tuple #[]) ∧ Q w2 ∧ w2.heap[w.heap.size + 1 + 1 + 1]? = some (.cells #[.int .u64 v] 59 (0, 0))) (hp : p = .pointer none ∨ p = .pointer (some ⟨g, 0, none⟩)) :
    Calls Try.prog 97 #[p, .int .i64 size, .bool little] w fun e' w' => e' = .returned (.int .u64 v) ∧ Q w' := by
  have HST := Lib.hid hstep
  clear hstep
  rcases hp with rfl | rfl
  all_goals
    go_enter Try.func97, Try.ntmps97
    go_upto_region 2 with (fail)
  · generalize hW4 : (((w.alloc (Obj.cells #[Value.pointer none] 94)).alloc (Obj.cells #[Value.int IntKind.i64 size] 3)).alloc (Obj.cells #[Value.bool little] 4)).alloc (Obj.cells #[Value.int IntKind.u64 0] 59) = W4
    obtain ⟨b0, b1, b2, b3⟩ := four w (Obj.cells #[Value.pointer none] 94) (Obj.cells #[Value.int IntKind.i64 size] 3) (Obj.cells #[Value.bool little] 4) (Obj.cells #[Value.int IntKind.u64 0] 59)
    have hB : Below w.heap.size w W4 := by
      subst hW4
      exact ((((Below.refl _ _).alloc (Nat.le_refl _) _).alloc (by simp) _).alloc (by simp; omega) _).alloc (by simp; omega) _
    rw [hW4] at b0 b1 b2 b3
    have x0 : W4.cell? ⟨w.heap.size, 0, none⟩ = some (.pointer none) := cell_of_row W4 _ 0 _ 94 (0, 0) b0
    have HS := Lib.hid (HST.out W4 hB b0 b1 b2 b3)
    clear hB hW4 b0 b1 b2 b3
    go_wp2_with (go_at_call 95; refine (HS.out).mono ?_; rintro e2 w2 ⟨rfl, hq, hr⟩; have x3 : w2.cell? ⟨w.heap.size + 1 + 1 + 1, 0, none⟩ = some (.int .u64 v) := cell_of_row w2 _ 0 _ 59 (0, 0) hr; have HQ := Lib.hid hq; clear hq hr)
    go_ret
    exact ⟨rfl, HQ.out⟩
  · generalize hW4 : (((w.alloc (Obj.cells #[Value.pointer (some ⟨g, 0, none⟩)] 94)).alloc (Obj.cells #[Value.int IntKind.i64 size] 3)).alloc (Obj.cells #[Value.bool little] 4)).alloc (Obj.cells #[Value.int IntKind.u64 0] 59) = W4
    obtain ⟨b0, b1, b2, b3⟩ := four w (Obj.cells #[Value.pointer (some ⟨g, 0, none⟩)] 94) (Obj.cells #[Value.int IntKind.i64 size] 3) (Obj.cells #[Value.bool little] 4) (Obj.cells #[Value.int IntKind.u64 0] 59)
    have hB : Below w.heap.size w W4 := by
      subst hW4
      exact ((((Below.refl _ _).alloc (Nat.le_refl _) _).alloc (by simp) _).alloc (by simp; omega) _).alloc (by simp; omega) _
    rw [hW4] at b0 b1 b2 b3
    have x0 : W4.cell? ⟨w.heap.size, 0, none⟩ = some (.pointer (some ⟨g, 0, none⟩)) := cell_of_row W4 _ 0 _ 94 (0, 0) b0
    have HS := Lib.hid (HST.out W4 hB b0 b1 b2 b3)
    clear hB hW4 b0 b1 b2 b3
    go_wp2_with (go_at_call 95; refine (HS.out).mono ?_; rintro e2 w2 ⟨rfl, hq, hr⟩; have x3 : w2.cell? ⟨w.heap.size + 1 + 1 + 1, 0, none⟩ = some (.int .u64 v) := cell_of_row w2 _ 0 _ 59 (0, 0) hr; have HQ := Lib.hid hq; clear hq hr)
    go_ret
    exact ⟨rfl, HQ.out⟩
theorem Num_nil (w : World) (size : Int) (little : Bool) : Calls Try.prog 97 #[.pointer none, .int .i64 size, .bool little] w fun e' w' => e' = .returned (.int .u64 0) ∧ Below w.heap.size w w' :=
  Num_of w (.pointer none) 0 size little 0 (fun w' => Below w.heap.size w w') (fun W4 hB b0 b1 b2 b3 => (step_nil W4 _).mono (by rintro e2 w2 ⟨rfl, rfl⟩; exact ⟨rfl, hB, b3⟩)) (.inl rfl)
theorem Num_calls (w : World) (g : Nat) (made : Bool) (l : List Int) (e size : Int) (little : Bool) (h : Src w g made l e) (hb : bytesOk l) :
    Calls Try.prog 97 #[.pointer (some ⟨g, 0, none⟩), .int .i64 size, .bool little] w fun e' w' => e' = .returned (.int .u64 (numS made l e size little).1) ∧ w.grownBy w' (some g) ∧ Src w' g made (numS made l e size little).2.1 (numS made l e size little).2.2 := by
  have hlt := h.lt
  refine Num_of w (.pointer (some ⟨g, 0, none⟩)) g size little (numS made l e size little).1 (fun w' => w.grownBy w' (some g) ∧ Src w' g made (numS made l e size little).2.1 (numS made l e size little).2.2) ?_ (.inr rfl)
  intro W4 hB b0 b1 b2 b3
  have hS := h.below hB
  have stab : ∀ (v : Int) (w1 w2 : World), w1.grownBy w2 (some g) → w1.heap[w.heap.size + 1 + 1 + 1]? = some (.cells #[.int .u64 v] 59 (0, 0)) → w2.heap[w.heap.size + 1 + 1 + 1]? = some (.cells #[.int .u64 v] 59 (0, 0)) :=
    fun v w1 w2 hg2 hr => (hg2.block _ (Array.getElem?_eq_some_iff.1 hr).1 (fun h => by have := Option.some.inj h; omega)).trans hr
  by_cases hm : made = false ∨ e ≠ 0
  · have hnum : numS made l e size little = (0, l, e) := by unfold numS; rw [if_pos hm]
    rw [hnum]
    refine (step_off W4 g made l e hS hm _).mono ?_
    rintro e2 w2 ⟨rfl, rfl⟩
    exact ⟨rfl, ⟨grown_of_below hB _, hS⟩, b3⟩
  · have hmt : made = true ∧ e = 0 := by cases made <;> simp_all
    obtain ⟨rfl, rfl⟩ := hmt
    by_cases hsz : size < 1 ∨ size > 8
    · have hnum : numS true l 0 size little = (0, [], 2) := by unfold numS; rw [if_neg hm, if_pos hsz]
      rw [hnum]
      refine (step57_calls W4 g (w.heap.size + 1 + 1 + 1) _ l 0 2 (fun W => W.heap[w.heap.size + 1 + 1 + 1]? = some (.cells #[.int .u64 0] 59 (0, 0))) hS (by omega) ⟨_, _, b3, by simp⟩ (fun w0 hw0 => (num1_bad w0 _ _ _ _ size (by rw [hw0]; exact cell_of_row W4 _ 0 _ 3 (0, 0) b1) (by omega)).mono (by rintro e2 w2 ⟨rfl, rfl⟩; exact ⟨rfl, World.grownBy.refl _ _, by rw [hw0]; exact b3⟩)) (fun h => absurd h (by decide)) (stab 0)).mono ?_
      rintro e2 w2 ⟨rfl, t2, s2, r2⟩
      exact ⟨rfl, ⟨Two.only hB t2 (by omega), s2⟩, r2⟩
    · have hc : ∀ w0 : World, w0 = W4 → _ := fun w0 hw0 => num1_calls w0 g (w.heap.size + 1) w.heap.size (w.heap.size + 1 + 1) (w.heap.size + 1 + 1 + 1) l size little 0 (by rw [hw0]; exact hS) hb (by rw [hw0]; exact cell_of_row W4 _ 0 _ 3 (0, 0) b1) (by rw [hw0]; exact cell_of_row W4 _ 0 _ 94 (0, 0) b0) (by rw [hw0]; exact cell_of_row W4 _ 0 _ 4 (0, 0) b2) (by rw [hw0]; exact b3) (by omega) (by omega) (by omega) (by omega) (by omega)
      cases hok : (getV l size little).2 with
      | true =>
        have hnum : numS true l 0 size little = ((getV l size little).1, l.drop size.toNat, 0) := by unfold numS; rw [if_neg hm, if_neg hsz, if_pos hok]
        rw [hnum]
        have hlen : size ≤ l.length := by
          unfold getV at hok
          split at hok
          · cases hok
          · omega
        rw [hok] at hc
        refine (step57_calls W4 g (w.heap.size + 1 + 1 + 1) _ l size 0 (fun W => W.heap[w.heap.size + 1 + 1 + 1]? = some (.cells #[.int .u64 (getV l size little).1] 59 (0, 0))) hS (by omega) ⟨_, _, b3, by simp⟩ hc (fun _ => ⟨by omega, hlen⟩) (stab _)).mono ?_
        rintro e2 w2 ⟨rfl, t2, s2, r2⟩
        exact ⟨rfl, ⟨Two.only hB t2 (by omega), s2⟩, r2⟩
      | false =>
        have hv : (getV l size little).1 = 0 := by
          unfold getV at hok ⊢
          split at hok
          · rename_i h1; rw [if_pos h1]
          · cases hok
        have hnum : numS true l 0 size little = (0, [], 8) := by unfold numS; rw [if_neg hm, if_neg hsz, if_neg (by rw [hok]; decide)]
        rw [hnum]
        rw [hok, hv] at hc
        refine (step57_calls W4 g (w.heap.size + 1 + 1 + 1) _ l 0 8 (fun W => W.heap[w.heap.size + 1 + 1 + 1]? = some (.cells #[.int .u64 0] 59 (0, 0))) hS (by omega) ⟨_, _, b3, by simp⟩ hc (fun h => absurd h (by decide)) (stab 0)).mono ?_
        rintro e2 w2 ⟨rfl, t2, s2, r2⟩
        exact ⟨rfl, ⟨Two.only hB t2 (by omega), s2⟩, r2⟩
end Go.Proofs.Ytljcingmjemohaa.K
namespace Go.Proofs.Ytljcingmjemohaa.K
open Go Go.RowKit Go.Proofs.YtljcingmjemohaaW.PrintWords Go.Proofs.YtljcingmjemohaaW.PrintLast Go.Proofs.YtljcingmjemohaaW.PrintMore
set_option linter.unusedVariables false
set_option linter.unusedSimpArgs false
open Go.Proofs.Ytljcingmjemohaa.MOct (W V tk sz vr num head getV le be many putL)

/-- Do bytes begin a Var that ends behind them? -/
def lacks (l : List Int) : Bool := decide ((l.length : Int) < 9) && !(l.any fun c => decide (c < 128))
/-- What is left, the first error, the end, of no source and of one. -/
theorem Left_nil (w : World) : Calls Try.prog 98 #[.pointer none] w fun e w' => e = .returned (.int .i64 0) ∧ w = w' := by
  go_enter Try.func98, Try.ntmps98
  go_wp2_with (go_at_call 111; refine (is_nil _).mono ?_; rintro e w0 ⟨rfl, rfl⟩)
  go_ret
  exact ⟨rfl, rfl⟩
theorem Left_calls (w : World) (g : Nat) (made : Bool) (l : List Int) (e : Int) (h : Src w g made l e) : Calls Try.prog 98 #[.pointer (some ⟨g, 0, none⟩)] w fun e' w' => e' = .returned (.int .i64 (if made then (l.length : Int) else 0)) ∧ w = w' := by
  have HS := Lib.hid h
  obtain ⟨A, c, h1, h2, h3⟩ := h
  have c1 : w.cell? ⟨g, 1, none⟩ = some (.slice A l.length c) := cell_of_row w g 1 _ 140 (0, 0) h1
  clear h1 h2 h3
  cases made
  all_goals
    go_enter Try.func98, Try.ntmps98
    go_wp2_with (go_at_call 111; refine (is_calls _ _ _ _ _ HS.out).mono ?_; rintro e w0 ⟨rfl, rfl⟩)
    go_ret
    exact ⟨rfl, rfl⟩
theorem Err_nil (w : World) : Calls Try.prog 99 #[.pointer none] w fun e w' => e = .returned (.int .i64 1) ∧ w = w' := by
  go_enter Try.func99, Try.ntmps99
  go_wp2_with (go_at_call 111; refine (is_nil _).mono ?_; rintro e w0 ⟨rfl, rfl⟩)
  go_ret
  exact ⟨rfl, rfl⟩
theorem Err_calls (w : World) (g : Nat) (made : Bool) (l : List Int) (e : Int) (h : Src w g made l e) : Calls Try.prog 99 #[.pointer (some ⟨g, 0, none⟩)] w fun e' w' => e' = .returned (.int .i64 (if made then e else 1)) ∧ w = w' := by
  have HS := Lib.hid h
  obtain ⟨A, c, h1, h2, h3⟩ := h
  have c1 : w.cell? ⟨g, 2, none⟩ = some (.int .i64 e) := cell_of_row w g 2 _ 140 (0, 0) h1
  clear h1 h2 h3
  cases made
  all_goals
    go_enter Try.func99, Try.ntmps99
    go_wp2_with (go_at_call 111; refine (is_calls _ _ _ _ _ HS.out).mono ?_; rintro e w0 ⟨rfl, rfl⟩)
    go_ret
    exact ⟨rfl, rfl⟩
theorem End_nil (w : World) : Calls Try.prog 58 #[.pointer none] w fun e w' => e = .returned (.int .i64 1) ∧ w = w' := by
  go_enter Try.func58, Try.ntmps58
  go_wp2_with (go_at_call 99; refine (Err_nil _).mono ?_; rintro e w0 ⟨rfl, rfl⟩)
  go_ret
  exact ⟨rfl, rfl⟩
/-- How a source ends. -/
def endS (made : Bool) (l : List Int) (e : Int) : Int := if made = false then 1 else if e ≠ 0 then e else if l.length = 0 then 0 else 9
theorem End_calls (w : World) (g : Nat) (made : Bool) (l : List Int) (e : Int) (h : Src w g made l e) : Calls Try.prog 58 #[.pointer (some ⟨g, 0, none⟩)] w fun e' w' => e' = .returned (.int .i64 (endS made l e)) ∧ w = w' := by
  have HS := Lib.hid h
  clear h
  cases made with
  | false =>
    go_enter Try.func58, Try.ntmps58
    go_wp2_with (go_at_call 99; refine (Err_calls _ _ _ _ _ HS.out).mono ?_; rintro e w0 ⟨rfl, rfl⟩)
    go_ret
    exact ⟨rfl, rfl⟩
  | true =>
    by_cases he : e = 0
    · subst he
      by_cases hl : l.length = 0
      · have hx : endS true l 0 = 0 := by simp [endS, hl]
        rw [hx]
        go_enter Try.func58, Try.ntmps58
        go_wp2_with (first
          | (go_at_call 99; refine (Err_calls _ _ _ _ _ HS.out).mono ?_; rintro e w0 ⟨rfl, rfl⟩)
          | (go_at_call 98; refine (Left_calls _ _ _ _ _ HS.out).mono ?_; rintro e w0 ⟨rfl, rfl⟩))
        go_ret
        exact ⟨rfl, rfl⟩
      · have hx : endS true l 0 = 9 := by simp [endS, hl]
        rw [hx]
        go_enter Try.func58, Try.ntmps58
        go_wp2_with (first
          | (go_at_call 99; refine (Err_calls _ _ _ _ _ HS.out).mono ?_; rintro e w0 ⟨rfl, rfl⟩)
          | (go_at_call 98; refine (Left_calls _ _ _ _ _ HS.out).mono ?_; rintro e w0 ⟨rfl, rfl⟩))
        go_ret
        exact ⟨rfl, rfl⟩
    · have hx : endS true l e = e := by simp [endS, he]
      rw [hx]
      have b1 : (e != 0) = true := by simpa using he
      go_enter Try.func58, Try.ntmps58
      go_wp2_with (go_at_call 99; refine (Err_calls _ _ _ _ _ HS.out).mono ?_; rintro e w0 ⟨rfl, rfl⟩)
      go_ret
      exact ⟨rfl, rfl⟩
theorem Int_nil (w : World) (little : Bool) : Calls Try.prog 56 #[.pointer none, .bool little] w fun e w' => e = .returned (.int .i64 0) ∧ Below w.heap.size w w' := by
  go_enter Try.func56, Try.ntmps56
  go_wp2_with (go_at_call 97; refine (Num_nil _ _ _).mono ?_; rintro e w1 ⟨rfl, hb⟩; have HB := Lib.hid hb; clear hb)
  go_ret
  exact ⟨rfl, HB.out⟩
theorem Int_calls (w : World) (g : Nat) (made : Bool) (l : List Int) (e : Int) (little : Bool) (h : Src w g made l e) (hb : bytesOk l) :
    Calls Try.prog 56 #[.pointer (some ⟨g, 0, none⟩), .bool little] w fun e' w' => e' = .returned (.int .i64 (wrap64 (numS made l e 8 little).1)) ∧ w.grownBy w' (some g) ∧ Src w' g made (numS made l e 8 little).2.1 (numS made l e 8 little).2.2 := by
  have HS := Lib.hid h
  have HB := Lib.hid hb
  clear h hb
  go_enter Try.func56, Try.ntmps56
  go_wp2_with (go_at_call 97; refine (Num_calls _ _ _ _ _ _ _ HS.out HB.out).mono ?_; rintro e w1 ⟨rfl, hb1, hs1⟩; have HB1 := Lib.hid hb1; have HS1 := Lib.hid hs1; clear hb1 hs1)
  go_ret
  exact ⟨rfl, HB1.out, HS1.out⟩

/-- What a Var of a source is: its number, how many bytes, the error. -/
def varR (l : List Int) (gr : Int) : Int × Int × Int := if (MOct.take l).2 = 0 then (0, 0, if lacks l then 8 else 9) else if (MOct.take l).1 > gr then (0, 0, 11) else ((MOct.take l).1, (MOct.take l).2, 0)
/-- What a source's Var tells, what is left, and the first error. -/
def varS (made : Bool) (l : List Int) (e gr : Int) : Int × List Int × Int :=
  if made = false ∨ e ≠ 0 then (0, l, e) else ((varR l gr).1, (if (varR l gr).2.2 = 0 then l.drop (varR l gr).2.1.toNat else []), (varR l gr).2.2)
theorem three (w : World) (o1 o2 o3 : Obj) : (((w.alloc o1).alloc o2).alloc o3).heap[w.heap.size]? = some o1 ∧ (((w.alloc o1).alloc o2).alloc o3).heap[w.heap.size + 1]? = some o2 ∧ (((w.alloc o1).alloc o2).alloc o3).heap[w.heap.size + 1 + 1]? = some o3 := by
  have s1 : (w.alloc o1).heap.size = w.heap.size + 1 := by simp
  have s2 : ((w.alloc o1).alloc o2).heap.size = w.heap.size + 1 + 1 := by simp
  have n1 := heap_alloc_new w o1
  have n2 := heap_alloc_new (w.alloc o1) o2
  have n3 := heap_alloc_new ((w.alloc o1).alloc o2) o3
  rw [s1] at n2
  rw [s2] at n3
  refine ⟨?_, ?_, n3⟩
  · rw [Below.heap_alloc _ _ _ (by omega), Below.heap_alloc _ _ _ (by omega)]; exact n1
  · rw [Below.heap_alloc _ _ _ (by omega)]; exact n2
theorem RB.only {w0 W W' : World} {v : Value} {l : List Int} {pn : Nat} (h : RB w0 W v l) (hp : pn < w0.heap.size) (hg : W.grownBy W' (some pn)) : RB w0 W' v l := Kd.R_grown1 h rfl hg (fun e => by have := Kd.R_base h pn e.symm; omega)
/-- One variable may have turned to a value of a kind. -/
def OneR (pn t : Nat) (Rv : Value → World → Prop) (W W' : World) : Prop := W.grownBy W' (some pn) ∧ ∀ u, W.heap[pn]? = some (.cells #[u] t (0, 0)) → W'.heap[pn]? = some (.cells #[u] t (0, 0)) ∨ ∃ v, W'.heap[pn]? = some (.cells #[v] t (0, 0)) ∧ Rv v W'
theorem OneR.refl (pn t : Nat) (Rv : Value → World → Prop) (W : World) : OneR pn t Rv W W := ⟨World.grownBy.refl _ _, fun u h => .inl h⟩
theorem OneR.below {pn t : Nat} {Rv : Value → World → Prop} {W W' : World} (h : Below W.heap.size W W') : OneR pn t Rv W W' :=
  ⟨grown_of_below h _, fun u hu => .inl ((h.block pn (Array.getElem?_eq_some_iff.1 hu).1).trans hu)⟩
theorem OneR.go {pn t : Nat} {Rv : Value → World → Prop} {w W W' : World} (h : w.grownBy W (some pn) ∧ ∃ u, W.heap[pn]? = some (.cells #[u] t (0, 0))) (k : OneR pn t Rv W W') : w.grownBy W' (some pn) ∧ ∃ u, W'.heap[pn]? = some (.cells #[u] t (0, 0)) := by
  obtain ⟨h1, u, hu⟩ := h
  refine ⟨grown2 h1 k.1, ?_⟩
  rcases k.2 u hu with h | ⟨v, h, _⟩
  · exact ⟨u, h⟩
  · exact ⟨v, h⟩
theorem OneR.kept {w0 : World} {pn t : Nat} {l : List Int} {W W' : World} (k : OneR pn t (fun v W => RB w0 W v l) W W') (h : ∃ v, W.heap[pn]? = some (.cells #[v] t (0, 0)) ∧ RB w0 W v l ∧ pn < w0.heap.size) : ∃ v, W'.heap[pn]? = some (.cells #[v] t (0, 0)) ∧ RB w0 W' v l ∧ pn < w0.heap.size := by
  obtain ⟨v, hv, hr, hp⟩ := h
  rcases k.2 v hv with h | ⟨u, h, h2⟩
  · exact ⟨v, h, RB.only hr hp k.1, hp⟩
  · exact ⟨u, h, h2, hp⟩
theorem OneR.store {w0 : World} {pn t : Nat} {l : List Int} {u : Value} {W : World} (h : W.heap[pn]? = some (.cells #[u] t (0, 0))) (X : Value) (hr : RB w0 W X l) (hp : pn < w0.heap.size) :
    OneR pn t (fun v W => RB w0 W v l) W (W.setCell ⟨pn, 0, none⟩ X) ∧ ∃ v, (W.setCell ⟨pn, 0, none⟩ X).heap[pn]? = some (.cells #[v] t (0, 0)) ∧ RB w0 (W.setCell ⟨pn, 0, none⟩ X) v l ∧ pn < w0.heap.size := by
  have e := heap_set W pn 0 t _ X h
  have e2 : (W.setCell ⟨pn, 0, none⟩ X).heap[pn]? = some (.cells #[X] t (0, 0)) := by simpa using e
  have g1 : W.grownBy (W.setCell ⟨pn, 0, none⟩ X) (some pn) := only_setCell (g := pn) (p := ⟨pn, 0, none⟩) (World.grownBy.refl _ _) (.inl rfl) _
  exact ⟨⟨g1, fun _ _ => .inr ⟨X, e2, RB.only hr hp g1⟩⟩, X, e2, RB.only hr hp g1, hp⟩
theorem clone57 (A : Option Addr) (c m : Nat) (l : List Int) (w : World) (h : CB w A (l.take m)) (hm : m ≤ l.length) (hc : l.length ≤ c) (hl : l.length < 140737488355328) : Calls Try.prog 89 #[.slice A m c] w fun e w' => ∃ v, e = .returned v ∧ RB w w' v (l.take m) ∧ Below w.heap.size w w' := by
  have e : (l.take m).length = m := by rw [List.length_take]; omega
  have := clone_calls A c (l.take m) w h (by omega) (by omega)
  rwa [e] at this
/-- What the next bytes of a source are: they, how many, the error. -/
def bytesR (l : List Int) (n : Int) : List Int × Int × Int := if n < 0 then ([], 0, 2) else if n > l.length then ([], 0, 8) else (l.take n.toNat, n, 0)
set_option maxHeartbeats 1000000 in
set_option maxRecDepth 100000 in
theorem bytes1_calls (w : World) (g pz ps pn : Nat) (l : List Int) (n : Int) (h : Src w g true l 0) (hl : l.length < 140737488355328)
    (hz : w.cell? ⟨pz, 0, none⟩ = some (.int .i64 n)) (hs : w.cell? ⟨ps, 0, none⟩ = some (.pointer (some ⟨g, 0, none⟩))) (hn : w.heap[pn]? = some (.cells #[.slice none 0 0] 32 (0, 0)))
    (nz : pz ≠ pn) (ns : ps ≠ pn) :
    Calls Try.prog 96 #[.pointer (some ⟨pz, 0, none⟩), .pointer (some ⟨ps, 0, none⟩), .pointer (some ⟨pn, 0, none⟩)] w fun e w' =>
      e = .returned (.tuple #[.int .i64 (bytesR l n).2.1, .int .i64 (bytesR l n).2.2]) ∧ w.grownBy w' (some pn) ∧ ∃ v, w'.heap[pn]? = some (.cells #[v] 32 (0, 0)) ∧ RB w w' v (bytesR l n).1 := by
  obtain ⟨A, c, h1, hc, h3⟩ := h
  have h3 := h3.cb
  have ng : g ≠ pn := fun e => by
    rw [e, hn] at h1
    simp at h1
  have hpn : pn < w.heap.size := (Array.getElem?_eq_some_iff.1 hn).1
  have hcell : ∀ W : World, w.grownBy W (some pn) → W.cell? ⟨ps, 0, none⟩ = some (.pointer (some ⟨g, 0, none⟩)) ∧ W.cell? ⟨g, 1, none⟩ = some (.slice A l.length c) ∧ W.cell? ⟨pz, 0, none⟩ = some (.int .i64 n) ∧ CB W A l := by
    intro W hW
    have c1 : w.cell? ⟨g, 1, none⟩ = some (.slice A l.length c) := cell_of_row w g 1 _ 140 (0, 0) h1
    have key : ∀ (k j : Nat) (v : Value), k ≠ pn → w.cell? ⟨k, j, none⟩ = some v → W.cell? ⟨k, j, none⟩ = some v := fun k j v hk hv =>
      (World.cell?_of_block (hW.block k (World.block_lt_of_cell? w _ hv) (fun e => hk (Option.some.inj e)))).trans hv
    exact ⟨key _ _ _ ns hs, key _ _ _ ng c1, key _ _ _ nz hz, h3.only hn (by intro v hv x; simp at hv; subst hv; simp) hW⟩
  have HCELL := Lib.hid hcell
  obtain ⟨hps, hg1, hpz, _⟩ := hcell w (World.grownBy.refl _ _)
  have HN := Lib.hid hn
  have HPN : Hid (∃ u, w.drew.drew.heap[pn]? = some (.cells #[u] 32 (0, 0))) := Lib.hid ⟨_, hn⟩
  clear h1 h3 hcell hn nz ns ng hs hz
  by_cases k1 : n < 0
  · have e : bytesR l n = ([], 0, 2) := by unfold bytesR; rw [if_pos k1]
    rw [e]
    clear e
    go_enter Try.func96, Try.ntmps96
    go_wp2
    go_ret2
    exact ⟨rfl, World.grownBy.refl _ _, _, HN.out, RB.nil _ _⟩
  · by_cases k2 : n > l.length
    · have e : bytesR l n = ([], 0, 8) := by unfold bytesR; rw [if_neg k1, if_pos k2]
      rw [e]
      clear e
      go_enter Try.func96, Try.ntmps96
      go_wp2
      go_region
      go_wp2
      go_ret2
      exact ⟨rfl, only_drew (World.grownBy.refl _ _), _, HN.out, RB.nil _ _⟩
    · obtain ⟨m, rfl⟩ : ∃ m : Nat, n = m := ⟨n.toNat, by omega⟩
      have hm : m ≤ l.length := by omega
      have e : bytesR l (m : Int) = (l.take m, (m : Int), 0) := by unfold bytesR; rw [if_neg k1, if_neg k2]; rfl
      rw [e]
      clear e
      go_enter Try.func96, Try.ntmps96
      go_wp2
      go_region
      go_wp2
      refine Reg.region_mono (P := Try.prog) (Ext := OneR pn 32 (fun v W => RB w W v (l.take m))) (R := fun i v W => match i with
          | 0 => v = .pointer (some ⟨g, 0, none⟩)
          | 1 => v = .pointer (some ⟨g, 0, none⟩)
          | 2 => v = .pointer (some ⟨g, 1, none⟩)
          | 3 => v = .slice A l.length c
          | 4 => v = .int .i64 (m : Int)
          | 5 => v = .slice A m c
          | 6 => RB w W v (l.take m)
          | 7 => ∃ v, W.heap[pn]? = some (.cells #[v] 32 (0, 0)) ∧ RB w W v (l.take m) ∧ pn < w.heap.size
          | _ => True) (fun W => w.grownBy W (some pn) ∧ ∃ u, W.heap[pn]? = some (.cells #[u] 32 (0, 0))) rfl (by kernel_rfl) (by kernel_rfl) ⟨only_drew (only_drew (World.grownBy.refl _ _)), HPN.out⟩ (fun W W' h h' => OneR.go h h') (fun W => OneR.refl _ _ _ _) (by intro j v W W' hx h; split at h <;> first | exact h | exact OneR.kept hx h | exact RB.only h hpn hx.1) ?_ ?_
      · intro i oi hoi a W hW need old
        match i, hoi with
        | 0, hoi =>
          simp only [List.getElem?_toArray, List.getElem?_cons_succ, List.getElem?_cons_zero, Option.some.injEq] at hoi
          subst hoi
          refine Reg.ob_plain rfl ?_
          have e1 : a.eval (.tmp 1) = .pointer (some ⟨ps, 0, none⟩) := old 1 (by kernel_rfl)
          have hx := (HCELL.out W hW.1).1
          refine Reg.wp_val (W' := W) (v := .pointer (some ⟨g, 0, none⟩)) (by simp only [execOp, e1, Reg.eval_const, resolve, invoke, builtin, List.map_toArray, List.map_cons, List.map_nil, Option.map_some, Option.map_none]; (first | rfl | go_simp | (go_simp; rfl))) ⟨_, rfl, OneR.refl _ _ _ _, rfl⟩
        | 1, hoi =>
          simp only [List.getElem?_toArray, List.getElem?_cons_succ, List.getElem?_cons_zero, Option.some.injEq] at hoi
          subst hoi
          refine Reg.ob_plain rfl ?_
          have e16 : a.eval (.tmp 16) = .pointer (some ⟨g, 0, none⟩) := need 0 _ 16 rfl rfl (by kernel_rfl)
          refine Reg.wp_val (W' := W) (v := .pointer (some ⟨g, 0, none⟩)) (by simp only [execOp, e16, Reg.eval_const, resolve, invoke, builtin, List.map_toArray, List.map_cons, List.map_nil, Option.map_some, Option.map_none]; (first | rfl | go_simp | (go_simp; rfl))) ⟨_, rfl, OneR.refl _ _ _ _, rfl⟩
        | 2, hoi =>
          simp only [List.getElem?_toArray, List.getElem?_cons_succ, List.getElem?_cons_zero, Option.some.injEq] at hoi
          subst hoi
          refine Reg.ob_plain rfl ?_
          have e17 : a.eval (.tmp 17) = .pointer (some ⟨g, 0, none⟩) := need 1 _ 17 rfl rfl (by kernel_rfl)
          refine Reg.wp_val (W' := W) (v := .pointer (some ⟨g, 1, none⟩)) (by simp only [execOp, e17, Reg.eval_const, resolve, invoke, builtin, List.map_toArray, List.map_cons, List.map_nil, Option.map_some, Option.map_none]; (first | rfl | go_simp | (go_simp; rfl))) ⟨_, rfl, OneR.refl _ _ _ _, rfl⟩
        | 3, hoi =>
          simp only [List.getElem?_toArray, List.getElem?_cons_succ, List.getElem?_cons_zero, Option.some.injEq] at hoi
          subst hoi
          refine Reg.ob_plain rfl ?_
          have e18 : a.eval (.tmp 18) = .pointer (some ⟨g, 1, none⟩) := need 2 _ 18 rfl rfl (by kernel_rfl)
          have hx := (HCELL.out W hW.1).2.1
          refine Reg.wp_val (W' := W) (v := .slice A l.length c) (by simp only [execOp, e18, Reg.eval_const, resolve, invoke, builtin, List.map_toArray, List.map_cons, List.map_nil, Option.map_some, Option.map_none]; (first | rfl | go_simp | (go_simp; rfl))) ⟨_, rfl, OneR.refl _ _ _ _, rfl⟩
        | 4, hoi =>
          simp only [List.getElem?_toArray, List.getElem?_cons_succ, List.getElem?_cons_zero, Option.some.injEq] at hoi
          subst hoi
          refine Reg.ob_plain rfl ?_
          have e0 : a.eval (.tmp 0) = .pointer (some ⟨pz, 0, none⟩) := old 0 (by kernel_rfl)
          have hx := (HCELL.out W hW.1).2.2.1
          refine Reg.wp_val (W' := W) (v := .int .i64 (m : Int)) (by simp only [execOp, e0, Reg.eval_const, resolve, invoke, builtin, List.map_toArray, List.map_cons, List.map_nil, Option.map_some, Option.map_none]; (first | rfl | go_simp | (go_simp; rfl))) ⟨_, rfl, OneR.refl _ _ _ _, rfl⟩
        | 5, hoi =>
          simp only [List.getElem?_toArray, List.getElem?_cons_succ, List.getElem?_cons_zero, Option.some.injEq] at hoi
          subst hoi
          refine Reg.ob_plain rfl ?_
          have e19 : a.eval (.tmp 19) = .slice A l.length c := need 3 _ 19 rfl rfl (by kernel_rfl)
          have e20 : a.eval (.tmp 20) = .int .i64 (m : Int) := need 4 _ 20 rfl rfl (by kernel_rfl)
          have hkc : 0 ≤ (m : Int) ∧ (m : Int) ≤ c := by omega
          have htn : (m : Int).toNat = m := by omega
          refine Reg.wp_val (W' := W) (v := .slice A m c) (by simp only [execOp, e19, e20, Reg.eval_const, resolve, invoke, builtin, List.map_toArray, List.map_cons, List.map_nil, Option.map_some, Option.map_none]; (first | rfl | go_simp | (go_simp; rfl))) ⟨_, rfl, OneR.refl _ _ _ _, rfl⟩
        | 6, hoi =>
          simp only [List.getElem?_toArray, List.getElem?_cons_succ, List.getElem?_cons_zero, Option.some.injEq] at hoi
          subst hoi
          refine Reg.ob_plain rfl ?_
          have e21 : a.eval (.tmp 21) = .slice A m c := need 5 _ 21 rfl rfl (by kernel_rfl)
          refine Reg.wp_call (f := 89) (args := #[.slice A m c]) (by simp only [execOp, e21, Reg.eval_const, resolve, invoke, List.map_toArray, List.map_cons, List.map_nil]; go_simp) ?_
          refine (clone57 _ _ _ _ _ ((HCELL.out W hW.1).2.2.2.take m hm) hm hc hl).mono ?_
          rintro e W' ⟨v, rfl, hr, hb⟩; exact ⟨_, rfl, _, rfl, OneR.below hb, hr.lower hW.1.size⟩
        | 7, hoi =>
          simp only [List.getElem?_toArray, List.getElem?_cons_succ, List.getElem?_cons_zero, Option.some.injEq] at hoi
          subst hoi
          refine Reg.ob_plain rfl ?_
          have e2 : a.eval (.tmp 2) = .pointer (some ⟨pn, 0, none⟩) := old 2 (by kernel_rfl)
          have r22 := need 6 _ 22 rfl rfl (by kernel_rfl)
          simp only at r22
          obtain ⟨x22, e22⟩ : ∃ x, a.eval (.tmp 22) = x := ⟨_, rfl⟩
          rw [← Reg.eval_tmp, e22] at r22
          obtain ⟨A2, c2, k2, _⟩ := r22.reads
          subst k2
          obtain ⟨u, hu⟩ := hW.2
          have hx : W.cell? ⟨pn, 0, none⟩ = some u := cell_of_row W pn 0 _ 32 (0, 0) hu
          have hf : W.frozen? ⟨pn, 0, none⟩ = false := by simp [World.frozen?, hu]
          have hst := OneR.store hu _ r22 hpn
          refine Reg.wp_skip (W' := W.setCell ⟨pn, 0, none⟩ (.slice A2 (l.take m).length c2)) (by simp only [execOp, e2, e22, Reg.eval_const]; (first | rfl | go_simp | (go_simp; rfl))) ⟨undef, rfl, hst.1, hst.2⟩
        | n + 8, hoi => simp at hoi
      · intro a w5 hW hsize hdef got same did
        have ha := Reg.act_of [16, 17, 18, 19, 20, 21, 22] hsize hdef same (by kernel_rfl)
        simp only [List.foldl_cons, List.foldl_nil] at ha
        generalize a.tmps.getD 16 undef = y16 at ha
        generalize a.tmps.getD 17 undef = y17 at ha
        generalize a.tmps.getD 18 undef = y18 at ha
        generalize a.tmps.getD 19 undef = y19 at ha
        generalize a.tmps.getD 20 undef = y20 at ha
        generalize a.tmps.getD 21 undef = y21 at ha
        generalize a.tmps.getD 22 undef = y22 at ha
        clear got same hsize hdef
        subst ha
        simp only [List.setIfInBounds_toArray, List.set_cons_zero, List.set_cons_succ]


        obtain ⟨_, hst⟩ := did 7 _ rfl rfl
        simp only at hst
        clear did
        have hx := (HCELL.out w5 hW.1).2.2.1
        go_wp2
        go_ret2
        obtain ⟨v, hv, hr, _⟩ := hst
        exact ⟨rfl, hW.1, v, hv, hr⟩
set_option maxHeartbeats 1000000 in
theorem step60_calls (W : World) (g pn : Nat) (caps : Array Value) (l : List Int) (n e1 : Int) (R : World → Prop) (h : Src W g true l 0) (hne : g ≠ pn) (hpn : ∃ u t, W.heap[pn]? = some (.cells #[u] t (0, 0)) ∧ ∀ x, u ≠ .int .u8 x)
    (hdo : ∀ w0 : World, w0 = W → Calls Try.prog 96 caps w0 fun e w1 => e = .returned (.tuple #[.int .i64 n, .int .i64 e1]) ∧ w0.grownBy w1 (some pn) ∧ R w1)
    (hn : e1 = 0 → 0 ≤ n ∧ n ≤ l.length) (hR : ∀ w1 w2 : World, w1.grownBy w2 (some g) → R w1 → R w2) :
    Calls Try.prog 95 #[.pointer (some ⟨g, 0, none⟩), .func (.func 96) #[] caps] W fun e w' => e = .returned (.tuple #[]) ∧ Two W w' g pn ∧ Src w' g true (if e1 = 0 then l.drop n.toNat else []) e1 ∧ R w' := by
  obtain ⟨A, c, h1, h2, h3⟩ := h
  have c0 : W.cell? ⟨g, 0, none⟩ = some (.bool true) := cell_of_row W g 0 _ 140 (0, 0) h1
  have c2 : W.cell? ⟨g, 2, none⟩ = some (.int .i64 0) := cell_of_row W g 2 _ 140 (0, 0) h1
  have H1 := Lib.hid h1
  have H2 := Lib.hid h2
  have H3 := Lib.hid h3
  have HD := Lib.hid hdo
  have HN := Lib.hid hn
  have HR := Lib.hid hR
  have HP := Lib.hid hpn
  clear h1 h2 h3 hdo hn hR hpn
  go_enter Try.func95, Try.ntmps95
  have hsrc : Src W g true l 0 := ⟨A, c, H1.out, H2.out, H3.out⟩
  have HS := Lib.hid hsrc
  clear hsrc
  by_cases he : e1 = 0
  · subst he
    obtain ⟨hn0, hnl⟩ := HN.out rfl
    obtain ⟨m, rfl⟩ : ∃ m : Nat, n = m := ⟨n.toNat, by omega⟩
    go_wp2_with (first
        | (go_at_call 111; refine (is_calls _ g true l 0 HS.out).mono ?_; rintro e w0 ⟨rfl, rfl⟩)
        | (go_at_call 96; refine (HD.out _ rfl).mono ?_; rintro e w1 ⟨rfl, hg1, hr1⟩
           have hs1 := HS.out.kept hne HP.out hg1
           obtain ⟨A1, c1, k1, k2, k3⟩ := hs1
           have q1 : w1.cell? ⟨g, 1, none⟩ = some (.slice A1 l.length c1) := cell_of_row w1 g 1 _ 140 (0, 0) k1
           have f1 : w1.frozen? ⟨g, 1, none⟩ = false := by simp [World.frozen?, k1]
           have K1 := Lib.hid k1
           have K2 := Lib.hid k2
           have K3 := Lib.hid k3
           have G1 := Lib.hid hg1
           have R1 := Lib.hid hr1
           clear k1 k3 hg1 hr1))
    · go_end0
      obtain ⟨s1, s2⟩ := Src.cut K1.out k2 K3.out (by omega) A1 (l.length - m) 0 (by rw [if_pos (by omega)]) rfl (by omega)
      exact ⟨rfl, Two.then_g (Two.of_k G1.out) s2, s1, HR.out _ _ s2 R1.out⟩
    · go_end0
      obtain ⟨s1, s2⟩ := Src.cut K1.out k2 K3.out (by omega) (A1.map (fun x => x.add m)) (l.length - m) (c1 - m) (by rw [if_neg (by assumption)]) rfl rfl
      exact ⟨rfl, Two.then_g (Two.of_k G1.out) s2, s1, HR.out _ _ s2 R1.out⟩
  · have b1 : (e1 != 0) = true := by simpa using he
    rw [if_neg he]
    clear he
    go_wp2_with (first
        | (go_at_call 111; refine (is_calls _ g true l 0 HS.out).mono ?_; rintro e w0 ⟨rfl, rfl⟩)
        | (go_at_call 96; refine (HD.out _ rfl).mono ?_; rintro e w1 ⟨rfl, hg1, hr1⟩
           have hs1 := Lib.hid (HS.out.kept hne HP.out hg1)
           have G1 := Lib.hid hg1
           have R1 := Lib.hid hr1
           clear hg1 hr1)
        | (go_at_call 112; refine (fail_calls _ g true l e1 hs1.out).mono ?_; rintro e w2 ⟨rfl, g2, s2⟩))
    refine bodyPost_ret (results_none rfl _ _ _) rfl ?_
    exact ⟨rfl, Two.then_g (Two.of_k G1.out) g2, s2, HR.out _ _ g2 R1.out⟩


/-- What a source's Bytes tells, what is left, and the first error. -/
def bytesS (made : Bool) (l : List Int) (e n : Int) : List Int × List Int × Int :=
  if made = false ∨ e ≠ 0 then ([], l, e) else ((bytesR l n).1, (if (bytesR l n).2.2 = 0 then l.drop (bytesR l n).2.1.toNat else []), (bytesR l n).2.2)
set_option maxHeartbeats 1000000 in
theorem Bytes_of (w : World) (p : Value) (g : Nat) (n : Int) (bs : List Int) (Q : World → Prop)
    (hstep : ∀ W4 : World, Below w.heap.size w W4 → W4.heap[w.heap.size]? = some (.cells #[p] 94 (0, 0)) → W4.heap[w.heap.size + 1]? = some (.cells #[.int .i64 n] 3 (0, 0)) → W4.heap[w.heap.size + 1 + 1]? = some (.cells #[.slice none 0 0] 32 (0, 0)) →
      Calls Try.prog 95 #[p, .func (.func 96) #[] #[.pointer (some ⟨w.heap.size + 1, 0, none⟩), .pointer (some ⟨w.heap.size, 0, none⟩), .pointer (some ⟨w.heap.size + 1 + 1, 0, none⟩)]] W4 fun e w2 =>
        e = .returned (.tuple #[]) ∧ Q w2 ∧ ∃ v, w2.heap[w.heap.size + 1 + 1]? = some (.cells #[v] 32 (0, 0)) ∧ RB w w2 v bs) (hp : p = .pointer none ∨ p = .pointer (some ⟨g, 0, none⟩)) :
    Calls Try.prog 55 #[p, .int .i64 n] w fun e' w' => ∃ v, e' = .returned v ∧ RB w w' v bs ∧ Q w' := by
  have HST := Lib.hid hstep
  clear hstep
  have HP := Lib.hid hp
  obtain ⟨pp, rfl⟩ : ∃ a, p = .pointer a := by rcases hp with rfl | rfl <;> exact ⟨_, rfl⟩
  clear hp
  go_enter Try.func55, Try.ntmps55
  go_upto_region 2 with (fail)
  generalize hW4 : ((w.alloc (Obj.cells #[Value.pointer pp] 94)).alloc (Obj.cells #[Value.int IntKind.i64 n] 3)).alloc (Obj.cells #[Value.slice none 0 0] 32) = W4
  obtain ⟨b0, b1, b2⟩ := three w (Obj.cells #[Value.pointer pp] 94) (Obj.cells #[Value.int IntKind.i64 n] 3) (Obj.cells #[Value.slice none 0 0] 32)
  have hB : Below w.heap.size w W4 := by
    subst hW4
    exact (((Below.refl _ _).alloc (Nat.le_refl _) _).alloc (by simp) _).alloc (by simp; omega) _
  rw [hW4] at b0 b1 b2
  have x0 : W4.cell? ⟨w.heap.size, 0, none⟩ = some (.pointer pp) := cell_of_row W4 _ 0 _ 94 (0, 0) b0
  have HS := Lib.hid (HST.out W4 hB b0 b1 b2)
  clear hB hW4 b0 b1 b2
  go_wp2_with (go_at_call 95; refine (HS.out).mono ?_; rintro e2 w2 ⟨rfl, hq, v, hr, hv⟩; have x3 : w2.cell? ⟨w.heap.size + 1 + 1, 0, none⟩ = some v := cell_of_row w2 _ 0 _ 32 (0, 0) hr; have HQ := Lib.hid hq; have HV := Lib.hid hv; obtain ⟨A2, c2, rfl, _⟩ := hv.reads; clear hq hr hv)
  go_ret
  exact ⟨_, rfl, HV.out, HQ.out⟩
theorem Bytes_nil (w : World) (n : Int) : Calls Try.prog 55 #[.pointer none, .int .i64 n] w fun e' w' => ∃ v, e' = .returned v ∧ RB w w' v [] ∧ Below w.heap.size w w' :=
  Bytes_of w (.pointer none) 0 n [] (fun w' => Below w.heap.size w w') (fun W4 hB b0 b1 b2 => (step_nil W4 _).mono (by rintro e2 w2 ⟨rfl, rfl⟩; exact ⟨rfl, hB, _, b2, RB.nil _ _⟩)) (.inl rfl)
theorem Bytes_calls (w : World) (g : Nat) (made : Bool) (l : List Int) (e n : Int) (h : Src w g made l e) (hl : l.length < 140737488355328) :
    Calls Try.prog 55 #[.pointer (some ⟨g, 0, none⟩), .int .i64 n] w fun e' w' => ∃ v, e' = .returned v ∧ RB w w' v (bytesS made l e n).1 ∧ w.grownBy w' (some g) ∧ Src w' g made (bytesS made l e n).2.1 (bytesS made l e n).2.2 := by
  have hlt := h.lt
  refine Bytes_of w (.pointer (some ⟨g, 0, none⟩)) g n (bytesS made l e n).1 (fun w' => w.grownBy w' (some g) ∧ Src w' g made (bytesS made l e n).2.1 (bytesS made l e n).2.2) ?_ (.inr rfl)
  intro W4 hB b0 b1 b2
  have hS := h.below hB
  have hgW : g < W4.heap.size := Nat.lt_of_lt_of_le hlt hB.size
  have stab : ∀ (bs : List Int) (w1 w2 : World), w1.grownBy w2 (some g) → (∃ v, w1.heap[w.heap.size + 1 + 1]? = some (.cells #[v] 32 (0, 0)) ∧ RB W4 w1 v bs) → ∃ v, w2.heap[w.heap.size + 1 + 1]? = some (.cells #[v] 32 (0, 0)) ∧ RB W4 w2 v bs :=
    fun bs w1 w2 hg2 ⟨v, hr, hv⟩ => ⟨v, (hg2.block _ (Array.getElem?_eq_some_iff.1 hr).1 (fun h => by have := Option.some.inj h; omega)).trans hr, hv.only hgW hg2⟩
  by_cases hm : made = false ∨ e ≠ 0
  · have hnum : bytesS made l e n = ([], l, e) := by unfold bytesS; rw [if_pos hm]
    rw [hnum]
    refine (step_off W4 g made l e hS hm _).mono ?_
    rintro e2 w2 ⟨rfl, rfl⟩
    exact ⟨rfl, ⟨grown_of_below hB _, hS⟩, _, b2, RB.nil _ _⟩
  · have hmt : made = true ∧ e = 0 := by cases made <;> simp_all
    obtain ⟨rfl, rfl⟩ := hmt
    have hnum : bytesS true l 0 n = ((bytesR l n).1, (if (bytesR l n).2.2 = 0 then l.drop (bytesR l n).2.1.toNat else []), (bytesR l n).2.2) := by unfold bytesS; rw [if_neg hm]
    rw [hnum]
    have hle : (bytesR l n).2.2 = 0 → 0 ≤ (bytesR l n).2.1 ∧ (bytesR l n).2.1 ≤ l.length := by
      unfold bytesR
      intro _
      repeat' split
      all_goals (dsimp only; omega)
    refine (step60_calls W4 g (w.heap.size + 1 + 1) _ l (bytesR l n).2.1 (bytesR l n).2.2 (fun W => ∃ v, W.heap[w.heap.size + 1 + 1]? = some (.cells #[v] 32 (0, 0)) ∧ RB W4 W v (bytesR l n).1) hS (by omega) ⟨_, _, b2, by simp⟩
      (fun w0 hw0 => (bytes1_calls w0 g (w.heap.size + 1) w.heap.size (w.heap.size + 1 + 1) l n (by rw [hw0]; exact hS) hl (by rw [hw0]; exact cell_of_row W4 _ 0 _ 3 (0, 0) b1) (by rw [hw0]; exact cell_of_row W4 _ 0 _ 94 (0, 0) b0) (by rw [hw0]; exact b2) (by omega) (by omega)).mono (by
        rintro e2 w2 ⟨rfl, g2, v, hv, hr⟩
        subst hw0
        exact ⟨rfl, g2, v, hv, hr⟩)) hle (stab _)).mono ?_
    rintro e2 w2 ⟨rfl, t2, s2, v, hv, hr⟩
    exact ⟨rfl, ⟨Two.only hB t2 (by omega), s2⟩, v, hv, hr.lower hB.size⟩
/-- A source of bytes. -/
theorem Read_calls (w : World) (A : Option Addr) (c : Nat) (l : List Int) (h : CB w A l) (hc : l.length ≤ c) (hl : l.length < 140737488355328) :
    Calls Try.prog 54 #[.slice A l.length c] w fun e' w' => ∃ g, e' = .returned (.pointer (some ⟨g, 0, none⟩)) ∧ w.heap.size ≤ g ∧ Below w.heap.size w w' ∧ Src w' g true l 0 := by
  have H := Lib.hid h
  clear h
  go_enter Try.func54, Try.ntmps54
  go_wp2_with (go_at_call 89; refine (clone_calls A c l w H.out hc hl).mono ?_; rintro e2 w2 ⟨v, rfl, hr, hb⟩; have HR := Lib.hid hr; have HB := Lib.hid hb; obtain ⟨A2, c2, rfl, h2, _⟩ := hr.reads; clear hr hb)
  go_ret
  refine ⟨_, rfl, HB.out.size, HB.out.alloc HB.out.size _, A2, c2, heap_alloc_new _ _, h2, ?_⟩
  obtain ⟨A3, c3, e3, _, h3⟩ := HR.out.reads
  injection e3 with e3
  subst e3
  exact ⟨h3.alloc _, fun h0 ad e => h3.lt h0 ad e⟩
end Go.Proofs.Ytljcingmjemohaa.K
namespace Go.Proofs.Ytljcingmjemohaa.K
open Go Go.RowKit Go.Proofs.YtljcingmjemohaaW.PrintWords Go.Proofs.YtljcingmjemohaaW.PrintLast Go.Proofs.YtljcingmjemohaaW.PrintMore
set_option linter.unusedVariables false
set_option linter.unusedSimpArgs false
open Go.Proofs.Ytljcingmjemohaa.MOct (W V tk sz vr num head getV le be many putL)
theorem wrap_u64m (n : Int) : IntKind.u64.wrap n = MOct.u64 n := by rw [IntKind.wrap_u64]; rfl
/-- A world that goes on from w0, with a block of the call's own that is as it was laid. -/
def Bx (w0 : World) (cs : Array Value) (t : Nat) (W : World) : Prop := Below w0.heap.size w0 W ∧ W.heap[w0.heap.size]? = some (.cells cs t (0, 0))
theorem Bx.new (w0 : World) (cs : Array Value) (t : Nat) : Bx w0 cs t (w0.alloc (.cells cs t)) := ⟨(Below.refl _ _).alloc (Nat.le_refl _) _, heap_alloc_new w0 _⟩
theorem Bx.drew {w0 W : World} {cs : Array Value} {t : Nat} (h : Bx w0 cs t W) : Bx w0 cs t W.drew := ⟨h.1.drew, h.2⟩
theorem Bx.below {w0 W W' : World} {cs : Array Value} {t : Nat} (h : Bx w0 cs t W) (hb : Below W.heap.size W W') : Bx w0 cs t W' := ⟨bthen h.1 hb, (hb.block _ (blk_lt h.2)).trans h.2⟩
theorem Bx.cell {w0 W : World} {cs : Array Value} {t : Nat} (h : Bx w0 cs t W) {i : Nat} {u : Value} (hi : cs[i]? = some u) : W.cell? ⟨w0.heap.size, i, none⟩ = some u := (cell_of_row W _ i _ t (0, 0) h.2).trans hi
section
variable {ops : Array Oper} {rest : List Oper} {o : Oper} {a : Act} {Q : Exit → Act → World → Prop}
/-- append(row, bytes...), and what it leaves as it was. -/
theorem appN2 {w0 W : World} (s x : Operand) (hgd : o.guard = none) (ho : o.op = .call { callee := .builtin .append, args := #[s, x], argTypes := #[32, 32] })
    (v : Value) (xs ys : List Int) (A : Option Addr) (c : Nat) (hs : a.eval s = v) (hx : a.eval x = .slice A ys.length c)
    (HO : RB w0 W v xs) (HR : CB W A ys) (HB : Below w0.heap.size w0 W) (hl : xs.length + ys.length < 140737488355328)
    (h : ∀ v1 w1, Hid (RB w0 w1 v1 (xs ++ ys)) → Hid (Below w0.heap.size w0 w1 ∧ W.grownBy w1 v.ownBlock) → wpList Try.prog ops Q rest (a.put o.dst v1) w1) :
    wpList Try.prog ops Q (o :: rest) a W :=
  Kd.R_append_rows (Kd.int .u8) (w0 := w0) w0.heap.size hgd s x 32 5 (.int .u8 0) 1 ho Try.underlying32 infoB rfl (by decide) (by omega) v xs ys A ys.length c (fun _ => True) (fun _ => False) hs hx HO HR
    (fun x cs hk => hk) (fun _ hk => hk.elim) (fun _ _ => trivial) HB HB.size (by omega) (fun v1 w1 ho hb hg hat => h v1 w1 ho ⟨hb, hg⟩)
end
theorem Bx.app {w0 W w1 : World} {cs : Array Value} {t : Nat} {v : Value} {l : List Int} (h : Bx w0 cs t W) (hr : RB w0 W v l) (hb : Below w0.heap.size w0 w1) (hg : W.grownBy w1 v.ownBlock) (ht : 5 ≠ t) : Bx w0 cs t w1 :=
  ⟨hb, (hg.block _ (blk_lt h.2) (own_ne (Kd.own_of_R hr) h.2 ht)).trans h.2⟩
section
variable {ops : Array Oper} {rest : List Oper} {o : Oper} {a : Act} {Q : Exit → Act → World → Prop}
/-- append(row, make([]byte, n)...) -/
theorem appZ {w0 W : World} (s x : Operand) (hgd : o.guard = none) (ho : o.op = .call { callee := .builtin .append, args := #[s, x], argTypes := #[32, 3] })
    (v : Value) (xs : List Int) (n : Int) (hs : a.eval s = v) (hx : a.eval x = .int .i64 n) (h0 : 0 ≤ n)
    (HO : RB w0 W v xs) (HB : Below w0.heap.size w0 W) (hl : xs.length + n.toNat < 140737488355328)
    (h : ∀ v1 w1, Hid (RB w0 w1 v1 (xs ++ List.replicate n.toNat 0)) → Hid (Below w0.heap.size w0 w1 ∧ W.grownBy w1 v.ownBlock) → wpList Try.prog ops Q rest (a.put o.dst v1) w1) :
    wpList Try.prog ops Q (o :: rest) a W :=
  Kd.R_append_zeros (Kd.int .u8) (w0 := w0) w0.heap.size hgd s x 32 3 5 (.int .u8 0) 1 ho Try.underlying32 Try.underlying3 infoB rfl (by decide) (by omega) v xs 0 n (fun _ => True) hs hx rfl (fun _ _ => trivial)
    HO h0 HB HB.size (by omega) (fun v1 w1 ho hb hg hat => h v1 w1 ho ⟨hb, hg⟩)
end
/-- A page that is told whole: its slice is 512 long. -/
theorem page_form {w0 w : World} {v : Value} {l : List Int} (h : RB w0 w v l) (hl : l.length = 512) : ∃ A c, v = .slice A 512 c ∧ 512 ≤ c ∧ CB w A l := by
  obtain ⟨A, c, rfl, h1, h2⟩ := h.reads
  rw [hl] at h1
  exact ⟨A, c, by rw [hl], h1, h2⟩
end Go.Proofs.Ytljcingmjemohaa.K
namespace Go.Proofs.Ytljcingmjemohaa.K
open Go Go.RowKit Go.Proofs.YtljcingmjemohaaW.PrintWords Go.Proofs.YtljcingmjemohaaW.PrintLast Go.Proofs.YtljcingmjemohaaW.PrintMore
set_option linter.unusedVariables false
set_option linter.unusedSimpArgs false
open Go.Proofs.Ytljcingmjemohaa.MOct (W V tk sz vr num head getV le be many putL)

/-- The reference's source: its block's cells, and the bytes that are left. -/
def RSrc (w : World) (g : Nat) (l : List Int) (e : Int) : Prop :=
  ∃ A c, w.heap[g]? = some (.cells #[.slice A l.length c, .int .i64 e] 158 (0, 0)) ∧ l.length ≤ c ∧ CBo g w A l
theorem RSrc.lt {w : World} {g : Nat} {l : List Int} {e : Int} (h : RSrc w g l e) : g < w.heap.size := by
  obtain ⟨A, c, h1, _⟩ := h
  exact blk_lt h1
theorem RSrc.below {w w' : World} {g : Nat} {l : List Int} {e : Int} (h : RSrc w g l e) (hb : Below w.heap.size w w') : RSrc w' g l e := by
  obtain ⟨A, c, h1, h2, h3⟩ := h
  exact ⟨A, c, (hb.block g (blk_lt h1)).trans h1, h2, ⟨h3.cb.below hb, h3.old⟩⟩
theorem rfail0_calls (w : World) (g : Nat) (l : List Int) (e' : Int) (h : RSrc w g l 0) : Calls Try.prog 118 #[.pointer (some ⟨g, 0, none⟩), .int .i64 e'] w fun e w' =>
    e = .returned (.tuple #[]) ∧ w.grownBy w' (some g) ∧ RSrc w' g [] e' := by
  obtain ⟨A, c, h1, h2, h3⟩ := h
  have c0 : w.cell? ⟨g, 0, none⟩ = some (.slice A l.length c) := cell_of_row w g 0 _ 158 (0, 0) h1
  have c1 : w.cell? ⟨g, 1, none⟩ = some (.int .i64 0) := cell_of_row w g 1 _ 158 (0, 0) h1
  have f0 : w.frozen? ⟨g, 0, none⟩ = false := blk_frozen h1 0
  have f1 : w.frozen? ⟨g, 1, none⟩ = false := blk_frozen h1 1
  have H1 := Lib.hid h1
  clear h1 h3 h2
  go_enter Try.func118, Try.ntmps118
  go_wp2
  go_end0
  refine ⟨rfl, only_setCell (g := g) (p := ⟨g, 0, none⟩) (only_setCell (g := g) (p := ⟨g, 1, none⟩) (World.grownBy.refl _ _) (.inl rfl) _) (.inl rfl) _, none, 0, ?_, by simp, ⟨CB.nil _, fun h => absurd h (by simp)⟩⟩
  have e1 := heap_set _ _ 1 158 _ (.int .i64 e') H1.out
  have e2 := heap_set _ _ 0 158 _ (.slice none 0 0) e1
  simpa using e2
theorem rfail1_calls (w : World) (g : Nat) (l : List Int) (e e' : Int) (h : RSrc w g l e) (he : e ≠ 0) : Calls Try.prog 118 #[.pointer (some ⟨g, 0, none⟩), .int .i64 e'] w fun e2 w' =>
    e2 = .returned (.tuple #[]) ∧ w = w' := by
  obtain ⟨A, c, h1, h2, h3⟩ := h
  have c1 : w.cell? ⟨g, 1, none⟩ = some (.int .i64 e) := cell_of_row w g 1 _ 158 (0, 0) h1
  have b1 : (e == 0) = false := by simpa using he
  clear h1 h3 h2
  go_enter Try.func118, Try.ntmps118
  go_wp2
  go_end0
  exact ⟨rfl, rfl⟩

theorem RSrc.cut {w1 : World} {g : Nat} {l : List Int} {A1 : Option Addr} {c1 m : Nat} (k1 : w1.heap[g]? = some (.cells #[.slice A1 l.length c1, .int .i64 0] 158 (0, 0))) (k2 : l.length ≤ c1) (k3 : CBo g w1 A1 l) (hm : m ≤ l.length)
    (B : Option Addr) (n' cc : Nat) (hB : B = if c1 = m then A1 else A1.map (·.add m)) (hn : n' = l.length - m) (hcc : cc = c1 - m) : RSrc (w1.setCell ⟨g, 0, none⟩ (.slice B n' cc)) g (l.drop m) 0 ∧ w1.grownBy (w1.setCell ⟨g, 0, none⟩ (.slice B n' cc)) (some g) := by
  subst hB
  have hg : w1.grownBy (w1.setCell ⟨g, 0, none⟩ (.slice (if c1 = m then A1 else A1.map (·.add m)) n' cc)) (some g) := only_setCell (g := g) (p := ⟨g, 0, none⟩) (World.grownBy.refl _ _) (.inl rfl) _
  refine ⟨⟨(if c1 = m then A1 else A1.map (·.add m)), cc, ?_, by rw [List.length_drop]; omega, ?_⟩, hg⟩
  · have := heap_set w1 g 0 158 _ (.slice (if c1 = m then A1 else A1.map (·.add m)) n' cc) k1
    rw [List.length_drop, ← hn]
    simpa using this
  · refine ⟨(k3.cb.drop m c1 hm k2).only k1 (by intro v hv x; simp at hv; rcases hv with rfl | rfl <;> simp) hg, fun h0 ad e => ?_⟩
    rw [List.length_drop] at h0
    split at e
    · exact k3.old (by omega) ad e
    · obtain ⟨x, hx, rfl⟩ := Option.map_eq_some_iff.1 e
      rw [add_block]
      exact k3.old (by omega) x hx
theorem RB.setR {w0 w : World} {v : Value} {l : List Int} (h : RB w0 w v l) {k t : Nat} {cs : Array Value} (hb : w.heap[k]? = some (.cells cs t (0, 0))) (ht : 5 ≠ t) (i : Nat) (u : Value) : RB w0 (w.setCell ⟨k, i, none⟩ u) v l :=
  Kd.R_grown1 h rfl (only_setCell (g := k) (World.grownBy.refl _ _) (.inl rfl) _) (own_ne (Kd.own_of_R h) hb ht)
set_option maxHeartbeats 1000000 in
set_option maxRecDepth 100000 in
theorem rBytes_calls (w : World) (g : Nat) (l : List Int) (e n : Int) (h : RSrc w g l e) (hl : l.length < 140737488355328) :
    Calls Try.prog 119 #[.pointer (some ⟨g, 0, none⟩), .int .i64 n] w fun e' w' => ∃ v, e' = .returned v ∧ RB w w' v (bytesS true l e n).1 ∧ w.grownBy w' (some g) ∧ RSrc w' g (bytesS true l e n).2.1 (bytesS true l e n).2.2 := by
  have hlt := h.lt
  have HS := Lib.hid h
  unfold bytesS bytesR
  by_cases he : e = 0
  · subst he
    rw [if_neg (by simp)]
    have HF := Lib.hid (fun e' => rfail0_calls w g l e' h)
    obtain ⟨A, c, h1, h2, h3⟩ := h
    have c0 : w.cell? ⟨g, 0, none⟩ = some (.slice A l.length c) := cell_of_row w g 0 _ 158 (0, 0) h1
    have c1 : w.cell? ⟨g, 1, none⟩ = some (.int .i64 0) := cell_of_row w g 1 _ 158 (0, 0) h1
    have H1 := Lib.hid h1
    have H3 := Lib.hid h3
    clear h1 h3
    by_cases hn : n < 0
    · rw [if_pos hn]
      go_enter Try.func119, Try.ntmps119
      go_wp2_with (go_at_call 118; refine (HF.out _).mono ?_; rintro e w1 ⟨rfl, hg1, hs1⟩)
      go_ret
      exact ⟨_, rfl, RB.nil _ _, hg1, hs1⟩
    · rw [if_neg hn]
      by_cases hn2 : n > l.length
      · rw [if_pos hn2]
        go_enter Try.func119, Try.ntmps119
        go_wp2_with (go_at_call 118; refine (HF.out _).mono ?_; rintro e w1 ⟨rfl, hg1, hs1⟩)
        go_ret
        exact ⟨_, rfl, RB.nil _ _, hg1, hs1⟩
      · rw [if_neg hn2]
        obtain ⟨m, rfl⟩ : ∃ m : Nat, n = m := ⟨n.toNat, by omega⟩
        have hm : m ≤ l.length := by omega
        have htk : (l.take m).length = m := by rw [List.length_take]; omega
        have HTK := Lib.hid htk
        clear htk hn hn2
        by_cases hcm : c = m
        · subst hcm
          go_enter Try.func119, Try.ntmps119
          go_wp2_with (at_builtin; refine appN2 (w0 := w) _ _ rfl rfl _ [] (l.take c) A c rfl (by rw [HTK.out]; rfl) (RB.lit0 (Nat.le_refl _)) (((H3.out.cb).take c hm).alloc _) ((Below.refl _ _).alloc (Nat.le_refl _) _) (by rw [HTK.out, List.length_nil]; omega) ?_; intro v2 w2 HO2 HB2; have x0 := pw_cell_below HB2.out.1 c0; have z1 := (HB2.out.1.block _ (blk_lt H1.out)).trans H1.out; have f0 := blk_frozen z1 0; have HZ1 := Lib.hid z1; clear z1)
          go_ret
          have hb3 : CBo g w2 A l := ⟨H3.out.cb.below HB2.out.1, H3.out.old⟩
          obtain ⟨s1, s2⟩ := RSrc.cut HZ1.out h2 hb3 hm A 0 0 (by rw [if_pos rfl]) (by omega) (by omega)
          exact ⟨_, rfl, by have h9 := HO2.out; rw [List.nil_append] at h9; exact h9.setR (k := g) HZ1.out (by decide) 0 _, grown2 (grown_of_below HB2.out.1 (some g)) s2, s1⟩
        · skip
          go_enter Try.func119, Try.ntmps119
          go_wp2_with (at_builtin; refine appN2 (w0 := w) _ _ rfl rfl _ [] (l.take m) A c rfl (by rw [HTK.out]; rfl) (RB.lit0 (Nat.le_refl _)) (((H3.out.cb).take m hm).alloc _) ((Below.refl _ _).alloc (Nat.le_refl _) _) (by rw [HTK.out, List.length_nil]; omega) ?_; intro v2 w2 HO2 HB2; have x0 := pw_cell_below HB2.out.1 c0; have z1 := (HB2.out.1.block _ (blk_lt H1.out)).trans H1.out; have f0 := blk_frozen z1 0; have HZ1 := Lib.hid z1; clear z1)
          go_ret
          have hb3 : CBo g w2 A l := ⟨H3.out.cb.below HB2.out.1, H3.out.old⟩
          obtain ⟨s1, s2⟩ := RSrc.cut HZ1.out h2 hb3 hm (A.map (fun x => x.add m)) (l.length - m) (c - m) (by rw [if_neg (by assumption)]) rfl rfl
          exact ⟨_, rfl, by have h9 := HO2.out; rw [List.nil_append] at h9; exact h9.setR (k := g) HZ1.out (by decide) 0 _, grown2 (grown_of_below HB2.out.1 (some g)) s2, s1⟩
  · rw [if_pos (.inr he)]
    obtain ⟨A, c, h1, h2, h3⟩ := h
    have c1 : w.cell? ⟨g, 1, none⟩ = some (.int .i64 e) := cell_of_row w g 1 _ 158 (0, 0) h1
    have b1 : (e != 0) = true := by simpa using he
    clear h1 h3 he
    go_enter Try.func119, Try.ntmps119
    go_wp2
    go_ret
    exact ⟨_, rfl, RB.nil _ _, World.grownBy.refl _ _, HS.out⟩

theorem getV_nil (size : Int) (little : Bool) (h : 1 ≤ size) : getV [] size little = (0, false) := by
  unfold MOct.getV
  rw [if_pos (by simp; omega)]
theorem getV_take (l : List Int) (size : Int) (little : Bool) (h : 1 ≤ size) (hl : size ≤ l.length) : getV (l.take size.toNat) size little = getV l size little := by
  unfold MOct.getV MOct.head
  rw [List.length_take]
  have : ((min size.toNat l.length : Nat) : Int) < size ↔ (l.length : Int) < size := by omega
  simp only [this, List.take_take, Nat.min_self]
set_option maxHeartbeats 1000000 in
set_option maxRecDepth 100000 in
theorem rNum_calls (w : World) (g : Nat) (l : List Int) (e size : Int) (little : Bool) (h : RSrc w g l e) (hb : bytesOk l) (hl : l.length < 140737488355328) :
    Calls Try.prog 115 #[.pointer (some ⟨g, 0, none⟩), .int .i64 size, .bool little] w fun e' w' => e' = .returned (.int .u64 (numS true l e size little).1) ∧ w.grownBy w' (some g) ∧ RSrc w' g (numS true l e size little).2.1 (numS true l e size little).2.2 := by
  have HS := Lib.hid h
  by_cases hs : size < 1 ∨ size > 8
  · have hf : Calls Try.prog 118 #[.pointer (some ⟨g, 0, none⟩), .int .i64 2] w fun e2 w' => e2 = .returned (.tuple #[]) ∧ w.grownBy w' (some g) ∧ RSrc w' g (numS true l e size little).2.1 (numS true l e size little).2.2 := by
      by_cases he : e = 0
      · subst he
        have : numS true l 0 size little = (0, [], 2) := by unfold numS; rw [if_neg (by simp), if_pos hs]
        rw [this]
        exact rfail0_calls w g l 2 h
      · have : numS true l e size little = (0, l, e) := by unfold numS; rw [if_pos (.inr he)]
        rw [this]
        exact (rfail1_calls w g l e 2 h he).mono (by rintro e2 w' ⟨rfl, rfl⟩; exact ⟨rfl, World.grownBy.refl _ _, h⟩)
    have h0 : (numS true l e size little).1 = 0 := by
      unfold numS
      split
      · rfl
      · first | rfl | (rw [if_pos hs])
    have HF := Lib.hid hf
    rw [h0]
    clear hf h0 h
    by_cases h1 : size < 1
    · clear hs
      go_enter Try.func115, Try.ntmps115
      go_wp2_with (go_at_call 118; refine (HF.out).mono ?_; rintro e w1 ⟨rfl, hg1, hs1⟩)
      go_ret
      exact ⟨rfl, hg1, hs1⟩
    · have h2 : size > 8 := by omega
      clear hs
      go_enter Try.func115, Try.ntmps115
      go_wp2_with (go_at_call 118; refine (HF.out).mono ?_; rintro e w1 ⟨rfl, hg1, hs1⟩)
      go_ret
      exact ⟨rfl, hg1, hs1⟩
  · have h1 : 1 ≤ size := by omega
    have h2 : size ≤ 8 := by omega
    have hq : (getV (bytesS true l e size).1 size little).1 = (numS true l e size little).1 ∧ (bytesS true l e size).2 = (numS true l e size little).2 ∧ bytesOk (bytesS true l e size).1 := by
      by_cases he : e = 0
      · subst he
        by_cases h3 : size > l.length
        · have hB : bytesS true l 0 size = ([], [], 8) := by
            unfold bytesS bytesR
            rw [if_neg (by simp), if_neg (show ¬ size < 0 by omega), if_pos h3]; rfl
          have hg : (getV l size little).2 = false := by unfold MOct.getV; rw [if_pos (by omega)]
          have hN : numS true l 0 size little = (0, [], 8) := by
            unfold numS
            rw [if_neg (by simp), if_neg hs, hg]; rfl
          rw [hB, hN]
          exact ⟨by rw [getV_nil size little h1], rfl, bytesOk_nil⟩
        · have hB : bytesS true l 0 size = (l.take size.toNat, l.drop size.toNat, 0) := by
            unfold bytesS bytesR
            rw [if_neg (by simp), if_neg (show ¬ size < 0 by omega), if_neg h3]; rfl
          have hg : (getV l size little).2 = true := by unfold MOct.getV; rw [if_neg (by omega)]
          have hN : numS true l 0 size little = ((getV l size little).1, l.drop size.toNat, 0) := by
            unfold numS
            rw [if_neg (by simp), if_neg hs, hg]; rfl
          rw [hB, hN]
          exact ⟨by rw [getV_take l size little h1 (by omega)], rfl, fun x hx => hb x (List.mem_of_mem_take hx)⟩
      · have hB : bytesS true l e size = ([], l, e) := by unfold bytesS; rw [if_pos (.inr he)]
        have hN : numS true l e size little = (0, l, e) := by unfold numS; rw [if_pos (.inr he)]
        rw [hB, hN]
        exact ⟨by rw [getV_nil size little h1], rfl, bytesOk_nil⟩
    have HB := Lib.hid (rBytes_calls w g l e size h hl)
    obtain ⟨q1, q2, q3⟩ := hq
    rw [q2] at HB
    rw [← q1]
    obtain ⟨bs, hbs⟩ : ∃ bs, (bytesS true l e size).1 = bs := ⟨_, rfl⟩
    rw [hbs] at HB q3 ⊢
    have HG := Lib.hid (fun A c W (hC : CB W A bs) (hc : bs.length ≤ c) => ref02_Get_calls A c bs size little W hC hc q3)
    obtain ⟨gv, hgv⟩ : ∃ gv, getV bs size little = gv := ⟨_, rfl⟩
    rw [hgv] at HG ⊢
    clear q1 q2 q3 hbs hgv hs h hb
    go_enter Try.func115, Try.ntmps115
    go_wp2_with (first
      | (go_at_call 59; refine (HG.out A2 c2 _ HC2.out h2c).mono ?_; rintro e w2 ⟨rfl, rfl⟩)
      | (go_at_call 119; refine (HB.out).mono ?_; rintro e w1 ⟨v1, rfl, hr1, hg1, hs1⟩; obtain ⟨A2, c2, rfl, h2c, hC2⟩ := hr1.reads; have HC2 := Lib.hid hC2; have HG1 := Lib.hid hg1; have HS1 := Lib.hid hs1; clear hr1 hC2 hg1 hs1))
    go_ret
    exact ⟨rfl, HG1.out, HS1.out⟩

theorem rRead_calls (w : World) (A : Option Addr) (c : Nat) (l : List Int) (h : CB w A l) (hc : l.length ≤ c) (hl : l.length < 140737488355328) :
    Calls Try.prog 100 #[.slice A l.length c] w fun e' w' => ∃ g, e' = .returned (.pointer (some ⟨g, 0, none⟩)) ∧ w.heap.size ≤ g ∧ Below w.heap.size w w' ∧ RSrc w' g l 0 := by
  have H := Lib.hid h
  clear h
  go_enter Try.func100, Try.ntmps100
  go_wp2_with (at_builtin; refine appN (w0 := w) _ _ rfl rfl _ [] l A c rfl rfl (RB.lit0 (Nat.le_refl _)) (H.out.alloc _) ((Below.refl _ _).alloc (Nat.le_refl _) _) (by simpa using hl) ?_; intro v2 w2 HO2 HB2; have ho2 := HO2.out; rw [List.nil_append] at ho2; obtain ⟨A2, c2, rfl, h2, _⟩ := ho2.reads; have HR := Lib.hid ho2; clear ho2 HO2)
  go_ret
  refine ⟨_, rfl, HB2.out.size, HB2.out.alloc HB2.out.size _, A2, c2, heap_alloc_new _ _, h2, ?_⟩
  obtain ⟨A3, c3, e3, _, h3⟩ := HR.out.reads
  injection e3 with e3
  subst e3
  exact ⟨h3.alloc _, fun h0 ad e => h3.lt h0 ad e⟩

end Go.Proofs.Ytljcingmjemohaa.K
