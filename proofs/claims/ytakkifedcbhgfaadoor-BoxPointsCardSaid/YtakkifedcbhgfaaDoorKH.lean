/- Texts laid as one: Shapes in memory, however deep, and their points, one after another: each, All. · What shape.All hands back, ranged over. · box.Of, at every shape. -/
import Derived.Test.YtakkifedcbhgfaaDoorKB
import Derived.Handy
import Derived.Test.YtakkifedcbhgfaaDoorKX1
import Derived.RangeFuncNested
import Derived.RangeFuncBound
import Derived.RangeFuncCalls
import Derived.RangeFuncLeaves
import Derived.Shelf.Abstract
import Derived.Shelf.RegionOpen
import Derived.OwnWalkIn
import Derived.TacticsInMore
import Derived.LoopNIn
import Derived.LoopIn
import Derived.Sort.CutIn
import Derived.Test.YtakkifedcbhgfaaDoorKW3
namespace Go.Proofs.YtakkifedcbhgfaaDoor.K
open Go Go.RowKit Go.Proofs.YtakkifedcbhgfaaDoorW.PrintWords Go.Proofs.YtakkifedcbhgfaaDoorW.PrintLast Go.Proofs.YtakkifedcbhgfaaDoorW.PrintMore
set_option linter.unusedVariables false
set_option linter.unusedSimpArgs false
open Go.Shelf
open Go.Proofs.YtakkifedcbhgfaaDoor.MBox (Bx I64)
/-- Every block of cells but block k lies as it lay. -/
def Kx (k : Nat) (W W' : World) : Prop := W.heap.size ≤ W'.heap.size ∧ ∀ j, j ≠ k → ∀ cs t r, W.heap[j]? = some (.cells cs t r) → W'.heap[j]? = some (.cells cs t r)
theorem Kx.refl (k : Nat) (W : World) : Kx k W W := ⟨Nat.le_refl _, fun _ _ _ _ _ h => h⟩
theorem Kx.trans {k : Nat} {A B C : World} (h : Kx k A B) (h' : Kx k B C) : Kx k A C := ⟨Nat.le_trans h.1 h'.1, fun j hj cs t r hc => h'.2 j hj cs t r (h.2 j hj cs t r hc)⟩
theorem Kx.bel {k : Nat} {A B : World} (h : Bel A B) : Kx k A B := ⟨h.size, fun j _ cs t r hc => (h.block j (Array.getElem?_eq_some_iff.1 hc).1).trans hc⟩
theorem Kx.alloc {k : Nat} (W : World) (o : Obj) : Kx k W (W.alloc o) := Kx.bel ((Bel.refl W).alloc (Nat.le_refl _) o)
theorem Kx.put {k : Nat} (W : World) (l : Nat) (o o' : Obj) (h : W.heap[l]? = some o) (ho : o.isCells = false) : Kx k W (W.putObj l o') :=
  ⟨by simp, fun j _ cs t r hc => by
    by_cases e : j = l
    · subst e
      rw [h] at hc
      cases hc
      simp [Obj.isCells] at ho
    · rw [World.putObj_heap_other e]; exact hc⟩
theorem Kx.cell {k : Nat} {W W' : World} (h : Kx k W W') {j i : Nat} {v : Value} (hj : j ≠ k) (hc : W.cell? ⟨j, i, none⟩ = some v) : W'.cell? ⟨j, i, none⟩ = some v := by
  unfold World.cell? at hc ⊢
  cases ho : W.heap[j]? with
  | none => rw [ho] at hc; simp at hc
  | some o =>
    cases o with
    | cells cs t r => rw [h.2 j hj cs t r ho]; rw [ho] at hc; exact hc
    | _ => rw [ho] at hc; simp at hc
theorem Blk.kx {k : Nat} {W W' : World} {g t : Nat} {cs : Array Value} (h : Kx k W W') (hg : g ≠ k) (hb : Blk W g cs t) : Blk W' g cs t := h.2 g hg _ _ _ hb
/-- Points in a row. -/
def PtsAt (k : Nat) (W : World) (v : Value) (pts : List (Int × Int)) : Prop :=
  ∃ a cap, v = .slice a pts.length cap ∧ pts.length ≤ 9223372036854775807 ∧ ∀ i (hi : i < pts.length), ∃ b off, a = some ⟨b, off, none⟩ ∧ b ≠ k ∧ W.cell? ⟨b, off + i * 2, none⟩ = some (.int .i64 (pts[i]'hi).1) ∧ W.cell? ⟨b, off + i * 2 + 1, none⟩ = some (.int .i64 (pts[i]'hi).2)
/-- Shapes' cells in a row. -/
def PartsAt (k : Nat) (W : World) (v : Value) (ps : List (Value × Value × Value)) : Prop :=
  ∃ a cap, v = .slice a ps.length cap ∧ ps.length ≤ 9223372036854775807 ∧ ∀ i (hi : i < ps.length), ∃ b off, a = some ⟨b, off, none⟩ ∧ b ≠ k ∧ W.cell? ⟨b, off + i * 3, none⟩ = some (ps[i]'hi).1 ∧ W.cell? ⟨b, off + i * 3 + 1, none⟩ = some (ps[i]'hi).2.1 ∧ W.cell? ⟨b, off + i * 3 + 2, none⟩ = some (ps[i]'hi).2.2
/-- A shape of a depth, by its three cells; its points in order. -/
def IsSh (k : Nat) (W : World) : Nat → Value × Value × Value → List (Int × Int) → Prop
  | 0, _, _ => False
  | d + 1, c, out => ∃ (kind : Int) (pts : List (Int × Int)) (cs : List ((Value × Value × Value) × List (Int × Int))), c.1 = .int .i64 kind ∧ PtsAt k W c.2.1 pts ∧ PartsAt k W c.2.2 (cs.map (·.1)) ∧ (∀ p ∈ cs, IsSh k W d p.1 p.2) ∧ out = pts ++ (cs.map (·.2)).flatten
theorem PtsAt.kx {k : Nat} {W W' : World} (h : Kx k W W') {v : Value} {pts : List (Int × Int)} (hp : PtsAt k W v pts) : PtsAt k W' v pts := by
  obtain ⟨a, cap, hv, hm, hx⟩ := hp
  exact ⟨a, cap, hv, hm, fun i hi => by obtain ⟨b, off, e, hb, h1, h2⟩ := hx i hi; exact ⟨b, off, e, hb, h.cell hb h1, h.cell hb h2⟩⟩
theorem PartsAt.kx {k : Nat} {W W' : World} (h : Kx k W W') {v : Value} {ps : List (Value × Value × Value)} (hp : PartsAt k W v ps) : PartsAt k W' v ps := by
  obtain ⟨a, cap, hv, hm, hx⟩ := hp
  exact ⟨a, cap, hv, hm, fun i hi => by obtain ⟨b, off, e, hb, h1, h2, h3⟩ := hx i hi; exact ⟨b, off, e, hb, h.cell hb h1, h.cell hb h2, h.cell hb h3⟩⟩
theorem IsSh.kx {k : Nat} {W W' : World} (h : Kx k W W') : ∀ (d : Nat) {c : Value × Value × Value} {out : List (Int × Int)}, IsSh k W d c out → IsSh k W' d c out
  | 0, _, _, hs => hs
  | d + 1, _, _, ⟨kind, pts, cs, h1, h2, h3, h4, h5⟩ => ⟨kind, pts, cs, h1, h2.kx h, h3.kx h, fun p hp => IsSh.kx h d (h4 p hp), h5⟩
set_option maxRecDepth 100000 in
theorem All_in (F : Fence) (n : Nat) (h : F.fn 73) (hro : F.round = none) (k xy ps : Value) (w : World) :
    CallsIn F n Tryd.prog 73 #[.agg #[k, xy, ps]] w fun e w' => e = .returned (.func (.func 97) #[] #[.pointer (some ⟨w.heap.size, 0, none⟩)]) ∧ w' = w.alloc (.cells #[k, xy, ps] 46) := by
  refine callsIn_of_wp Tryd.func73 rfl h ?_ hro
  simp only [Tryd.ntmps73, List.size_toArray, List.length_cons, List.length_nil, Nat.reduceAdd, Nat.reduceSub, Array.replicate_succ, Array.replicate_zero, List.push_toArray, List.append_toArray, List.nil_append, List.cons_append]
  gi_wp2
  go_ret
  exact ⟨rfl, rfl⟩
theorem PtsAt.open {k : Nat} {W : World} {v : Value} {pts : List (Int × Int)} (h : PtsAt k W v pts) : ∃ a cap, v = .slice a pts.length cap ∧ pts.length ≤ 9223372036854775807 ∧ ∀ i (hi : i < pts.length), ∃ b off, a = some ⟨b, off, none⟩ ∧ b ≠ k ∧ W.cell? ⟨b, off + i * 2, none⟩ = some (.int .i64 (pts[i]'hi).1) ∧ W.cell? ⟨b, off + i * 2 + 1, none⟩ = some (.int .i64 (pts[i]'hi).2) := h
theorem PartsAt.open {k : Nat} {W : World} {v : Value} {ps : List (Value × Value × Value)} (h : PartsAt k W v ps) : ∃ a cap, v = .slice a ps.length cap ∧ ps.length ≤ 9223372036854775807 ∧ ∀ i (hi : i < ps.length), ∃ b off, a = some ⟨b, off, none⟩ ∧ b ≠ k ∧ W.cell? ⟨b, off + i * 3, none⟩ = some (ps[i]'hi).1 ∧ W.cell? ⟨b, off + i * 3 + 1, none⟩ = some (ps[i]'hi).2.1 ∧ W.cell? ⟨b, off + i * 3 + 2, none⟩ = some (ps[i]'hi).2.2 := h
theorem IsSh.forms {k : Nat} {W : World} {d : Nat} {c : Value × Value × Value} {out : List (Int × Int)} (h : IsSh k W d c out) : ∃ (kind : Int) (a : Option Addr) (n m : Nat) (a' : Option Addr) (n' m' : Nat), c = (.int .i64 kind, .slice a n m, .slice a' n' m') := by
  cases d with
  | zero => exact h.elim
  | succ d =>
    obtain ⟨kind, pts, cs, h1, h2, h3, _, _⟩ := h
    obtain ⟨a, m, e, _, _⟩ := h2.open
    obtain ⟨a', m', e', _, _⟩ := h3.open
    exact ⟨kind, a, pts.length, m, a', (cs.map (·.1)).length, m', Prod.ext h1 (Prod.ext e e')⟩
/-- A round of yield, as 'each' meets it. -/
def Yk (F : Fence) (l k N : Nat) (J Jx : List (Int × Int) → World → Prop) : Prop := ∀ m pre (x : Int × Int) W, J pre W → pre.length < N → YieldAt F m Tryd.prog l #[.agg #[.int .i64 x.1, .int .i64 x.2]] W fun e W' =>
  (e = .returned (.bool true) ∧ J (pre ++ [x]) W' ∧ Kx k W W') ∨ (e = .returned (.bool false) ∧ Jx (pre ++ [x]) W')
set_option maxHeartbeats 2000000 in
set_option maxRecDepth 100000 in
theorem each_in (F : Fence) (hd : F.depth = none) (hf : F.fn 98) (hro : F.round = none) (l k B0 N : Nat) (J Jx : List (Int × Int) → World → Prop) (hJ : AbidesFrom B0 J) (hY : Yk F l k N J Jx) :
    ∀ (d : Nat) (c : Value × Value × Value) (out : List (Int × Int)) (n : Nat) (pre : List (Int × Int)) (W : World), IsSh k W d c out → J pre W → k < W.heap.size → pre.length + out.length ≤ N →
      CallsIn F n Tryd.prog 98 #[.agg #[c.1, c.2.1, c.2.2], .func (.yield l) #[] #[]] W fun e W' =>
        (e = .returned (.bool true) ∧ J (pre ++ out) W' ∧ Kx k W W') ∨ (e = .returned (.bool false) ∧ ∃ q, q <+: out ∧ Jx (pre ++ q) W') := by
  intro d
  induction d with
  | zero => intro c out n pre W h; exact h.elim
  | succ d ih =>
    intro c out n pre W hs hJ0 hk hN
    have hdd : ∀ k : Nat, (F.depth.isSome = true → 1 ≤ k) := fun k h => by rw [hd] at h; cases h
    obtain ⟨c1, xy, ps⟩ := c
    obtain ⟨kind, pts, cs, h1, h2, h3, h4, h5⟩ := hs
    dsimp only at h1 h2 h3
    subst h1
    obtain ⟨a1, cap1, hxy, hmP, hP⟩ := h2.open
    obtain ⟨a2, cap2, hps, hmQ, hQ⟩ := h3.open
    rw [List.length_map] at hps hmQ
    subst hxy hps
    have A := Blk.new W #[.int .i64 kind, .slice a1 pts.length cap1, .slice a2 cs.length cap2] 46
    have hJ1 := hJ pre W _ none hJ0 (World.grownBy_alloc W (.cells #[.int .i64 kind, .slice a1 pts.length cap1, .slice a2 cs.length cap2] 46) none) (fun r e => by cases e)
    have hK1 : Kx k W _ := Kx.alloc W (.cells #[.int .i64 kind, .slice a1 pts.length cap1, .slice a2 cs.length cap2] 46)
    refine callsIn_of_wp Tryd.func98 rfl hf ?_ hro
    simp only [Tryd.ntmps98, List.size_toArray, List.length_cons, List.length_nil, Nat.reduceAdd, Nat.reduceSub, Array.replicate_succ, Array.replicate_zero, List.push_toArray, List.append_toArray, List.nil_append, List.cons_append]
    gi_upto_region 1 with (fail)
    obtain ⟨W1, hW⟩ : ∃ X, W.alloc (.cells #[.int .i64 kind, .slice a1 pts.length cap1, .slice a2 cs.length cap2] 46) = X := ⟨_, rfl⟩
    rw [hW] at A hJ1 hK1 ⊢
    clear hW
    obtain ⟨a0, b1, b2⟩ := Blk.cells3 A
    have hPk : PtsAt k W1 (.slice a1 pts.length cap1) pts := h2.kx hK1
    gi_wp2_with (fail)
    gi_loopw [12] (fun iv wr => ∃ i : Nat, i ≤ pts.length ∧ iv = .int .i64 i ∧ J (pre ++ pts.take i) wr ∧ Kx k W1 wr) (fun iv _ => pts.length - (intOf iv).toNat)
    case atStart => exact ⟨0, Nat.zero_le _, rfl, by simpa using hJ1, Kx.refl _ _⟩
    case round =>
      obtain ⟨i, hi, rfl, hJr, hKr⟩ := hrel
      by_cases hlt : i < pts.length
      · obtain ⟨b, off, rfl, hbk, hc0, hc1⟩ := hP i hlt
        have hc0r := hKr.cell hbk (hK1.cell hbk hc0)
        have hc1r := hKr.cell hbk (hK1.cell hbk hc1)
        obtain ⟨x, hx⟩ : ∃ x, pts[i]'hlt = x := ⟨_, rfl⟩
        rw [hx] at hc0r hc1r
        have hltz : (i : Int) < pts.length := by omega
        have hwz : wrap64 ((i : Int) + 1) = i + 1 := Go.IntWalk.wrap64_in _ (by omega)
        have htk : pts.take (i + 1) = pts.take i ++ [x] := by rw [List.take_add_one, List.getElem?_eq_getElem hlt, hx]; rfl
        have hout : pre.length + pts.length ≤ N := by rw [h5] at hN; simp only [List.length_append] at hN; omega
        have hJa := hJ _ wr _ none hJr (World.grownBy_alloc wr (.cells #[.int .i64 x.1, .int .i64 x.2] 50) none) (fun r e => by cases e)
        obtain ⟨fn, tmps, assign, body, hy, hR⟩ := hY (n - 1) _ x _ hJa (by simp only [List.length_append, List.length_take]; omega)
        gi_wp2_with (fail)
        refine hR.mono ?_
        rintro e W3 (⟨rfl, hJ3, hk3⟩ | ⟨rfl, hx3⟩)
        · have hK3 : Kx k W1 W3 := (hKr.trans (Kx.alloc wr _)).trans hk3
          rw [List.append_assoc, ← htk] at hJ3
          gi_wp2_with (fail)
          go_roundw
          case rel => exact ⟨i + 1, hlt, by go_num, hJ3, hK3⟩
          case measure => simp [intOf]; omega
        · rw [List.append_assoc, ← htk] at hx3
          gi_wp2_with (fail)
          go_ret
          exact .inr ⟨by simp, pts.take (i + 1), (List.take_prefix _ _).trans ⟨_, h5.symm⟩, hx3⟩
      · have hii : i = pts.length := by omega
        have b2r := hKr.cell (Nat.ne_of_gt hk) b2
        subst hii
        have hltf : decide ((pts.length : Int) < pts.length) = false := decide_eq_false (by omega)
        rw [List.take_length] at hJr
        gi_wp2_with (fail)
        gi_loopw [24] (fun iv wr => ∃ j : Nat, j ≤ cs.length ∧ iv = .int .i64 j ∧ J (pre ++ pts ++ ((cs.take j).map (·.2)).flatten) wr ∧ Kx k W1 wr) (fun iv _ => cs.length - (intOf iv).toNat)
        case atStart => exact ⟨0, Nat.zero_le _, rfl, by simpa using hJr, hKr⟩
        case round =>
          clear hJr hKr b2r hltf hlt
          obtain ⟨j, hj, rfl, hJr, hKr⟩ := hrel
          by_cases hlt : j < cs.length
          · obtain ⟨b, off, rfl, hbk, hc0, hc1, hc2⟩ := hQ j (by rw [List.length_map]; exact hlt)
            rw [List.getElem_map] at hc0 hc1 hc2
            obtain ⟨p, hp⟩ : ∃ x, cs[j]'hlt = x := ⟨_, rfl⟩
            have hmem : p ∈ cs := by rw [← hp]; exact List.getElem_mem hlt
            rw [hp] at hc0 hc1 hc2
            have hc0r := hKr.cell hbk (hK1.cell hbk hc0)
            have hc1r := hKr.cell hbk (hK1.cell hbk hc1)
            have hc2r := hKr.cell hbk (hK1.cell hbk hc2)
            have hltz : (j : Int) < cs.length := by omega
            have hwz : wrap64 ((j : Int) + 1) = j + 1 := Go.IntWalk.wrap64_in _ (by omega)
            obtain ⟨q, po⟩ := p
            have hsp := h4 _ hmem
            obtain ⟨kd, e1, e2, e3, e4, e5, e6, hq⟩ := hsp.forms
            dsimp only at hq hsp hc0r hc1r hc2r
            subst hq
            dsimp only at hc0r hc1r hc2r
            have htk : ((cs.take (j + 1)).map (·.2)).flatten = ((cs.take j).map (·.2)).flatten ++ po := by rw [List.take_add_one, List.getElem?_eq_getElem hlt, hp]; simp
            have hJa := hJ _ wr _ none hJr (World.grownBy_alloc wr (.cells #[.int .i64 kd, .slice e1 e2 e3, .slice e4 e5 e6] 46) none) (fun r e => by cases e)
            have hKa : Kx k W (wr.alloc (.cells #[.int .i64 kd, .slice e1 e2 e3, .slice e4 e5 e6] 46)) := (hK1.trans hKr).trans (Kx.alloc wr _)
            have hsz := hKa.1
            have hNN : (pre ++ pts ++ ((cs.take j).map (·.2)).flatten).length + po.length ≤ N := by
              have h6 : (cs.map (·.2)).flatten = ((cs.take (j + 1)).map (·.2)).flatten ++ ((cs.drop (j + 1)).map (·.2)).flatten := by
                rw [← List.flatten_append, ← List.map_append, List.take_append_drop]
              rw [h5, h6, htk] at hN
              simp only [List.length_append] at hN ⊢
              omega
            have hcall := ih _ po (n - 1) _ _ (IsSh.kx hKa d hsp) hJa (Nat.lt_of_lt_of_le hk hsz) hNN
            gi_wp2_with (fail)
            refine hcall.mono ?_
            rintro e W3 (⟨rfl, hJ3, hk3⟩ | ⟨rfl, q', hq', hx3⟩)
            · have hK3 : Kx k W1 W3 := (hKr.trans (Kx.alloc wr _)).trans hk3
              rw [List.append_assoc, ← htk] at hJ3
              gi_wp2_with (fail)
              go_roundw
              case rel => exact ⟨j + 1, hlt, by go_num, hJ3, hK3⟩
              case measure => simp [intOf]; omega
            · rw [List.append_assoc, List.append_assoc] at hx3
              gi_wp2_with (fail)
              go_ret
              refine .inr ⟨by simp, pts ++ (((cs.take j).map (·.2)).flatten ++ q'), ?_, hx3⟩
              rw [h5]
              refine (List.prefix_append_right_inj _).2 ?_
              have h6 : (cs.map (·.2)).flatten = ((cs.take (j + 1)).map (·.2)).flatten ++ ((cs.drop (j + 1)).map (·.2)).flatten := by
                rw [← List.flatten_append, ← List.map_append, List.take_append_drop]
              rw [h6, htk, List.append_assoc]
              exact (List.prefix_append_right_inj _).2 (hq'.trans (List.prefix_append _ _))
          · have hjj : j = cs.length := by omega
            subst hjj
            have hltf : decide ((cs.length : Int) < cs.length) = false := decide_eq_false (by omega)
            rw [List.take_length] at hJr
            gi_wp2_with (fail)
            go_ret
            exact .inl ⟨by simp, by rw [h5, ← List.append_assoc]; exact hJr, hK1.trans hKr⟩

end Go.Proofs.YtakkifedcbhgfaaDoor.K
namespace Go.Proofs.YtakkifedcbhgfaaDoor.K
open Go Go.RowKit Go.Proofs.YtakkifedcbhgfaaDoorW.PrintWords Go.Proofs.YtakkifedcbhgfaaDoorW.PrintLast Go.Proofs.YtakkifedcbhgfaaDoorW.PrintMore
set_option linter.unusedVariables false
set_option linter.unusedSimpArgs false
open Go.Shelf
open Go.Proofs.YtakkifedcbhgfaaDoor.MBox (Bx I64)
theorem room_of_none {F : Fence} (hd : F.depth = none) (k : Nat) : F.room k := fun d h => by rw [hd] at h; cases h
theorem round_anyDepth {F : Fence} (hd : F.depth = none) {m m' : Nat} {P : Program} {l : Nat} {f : FuncId} {tmps : Array Value} {assign body : Code} {w : World} {R : Ending → World → Prop}
    (h : RoundIn F m P l f tmps assign body w R) : RoundIn F m' P l f tmps assign body w R := ⟨h.1, fun c cs _ => h.2 c cs (room_of_none hd _)⟩
theorem yield_anyDepth {F : Fence} (hd : F.depth = none) {m : Nat} (m' : Nat) {P : Program} {l : Nat} {args : Array Value} {W : World} {R : Ending → World → Prop} (h : YieldAt F m P l args W R) : YieldAt F m' P l args W R := by
  obtain ⟨fn, tmps, assign, body, hy, hR⟩ := h
  exact ⟨fn, tmps, assign, body, hy, round_anyDepth hd hR⟩
set_option maxHeartbeats 1000000 in
set_option maxRecDepth 100000 in
/-- What shape.All hands back, ranged over: the shape's points, in order. -/
theorem seq_stops (F : Fence) (hd : F.depth = none) (n : Nat) (h97 : F.fn 97) (h98 : F.fn 98) (hro : F.round = none) (B k d : Nat) (c : Value × Value × Value) (out : List (Int × Int)) (w : World)
    (hB : Blk w B #[c.1, c.2.1, c.2.2] 46) (hk : k < w.heap.size) (hs : IsSh k w d c out) :
    SeqStopsK F n Tryd.prog 97 #[.pointer (some ⟨B, 0, none⟩)] (fun x : Int × Int => #[Value.agg #[.int .i64 x.1, .int .i64 x.2]]) (Kx k) (fun ys => ys = out) (fun pre => pre <+: out) out.length w := fun l J Jx W hW hJ hJx hY h0 => by
  have hdd : ∀ k : Nat, (F.depth.isSome = true → 1 ≤ k) := fun k h => by rw [hd] at h; cases h
  have hs' := IsSh.kx (Kx.bel hW) d hs
  obtain ⟨kd, e1, e2, e3, e4, e5, e6, rfl⟩ := hs.forms
  have hB' := Blk.bel hB hW
  dsimp only at hB'
  obtain ⟨b0, b1, b2⟩ := Blk.cells3 hB'
  have hp := each_in F hd h98 hro l k W.heap.size out.length J Jx hJ (fun m pre x W1 hj hl => yield_anyDepth hd m (hY pre x W1 hj hl)) d _ out (n - 1) [] W hs' h0 (Nat.lt_of_lt_of_le hk hW.size) (by simp)
  dsimp only at hp
  refine callsIn_of_wp Tryd.func97 rfl h97 ?_ hro
  simp only [Tryd.ntmps97, List.size_toArray, List.length_cons, List.length_nil, Nat.reduceAdd, Nat.reduceSub, Array.replicate_succ, Array.replicate_zero, List.push_toArray, List.append_toArray, List.nil_append, List.cons_append]
  gi_wp2_with ((try refine ⟨hdd _, ?_⟩); gi_at_call 98; refine hp.mono ?_; clear hp; rintro e W1 (⟨rfl, hJ1, _⟩ | ⟨rfl, q, hq, hx⟩))
  · go_end0
    exact ⟨⟨_, rfl⟩, .inl ⟨_, rfl, by simpa using hJ1⟩⟩
  · go_end0
    exact ⟨⟨_, rfl⟩, .inr ⟨q, hq, by simpa using hx⟩⟩

end Go.Proofs.YtakkifedcbhgfaaDoor.K
namespace Go.Proofs.YtakkifedcbhgfaaDoor.K
open Go Go.RowKit Go.Proofs.YtakkifedcbhgfaaDoorW.PrintWords Go.Proofs.YtakkifedcbhgfaaDoorW.PrintLast Go.Proofs.YtakkifedcbhgfaaDoorW.PrintMore
set_option linter.unusedVariables false
set_option linter.unusedSimpArgs false
open Go.Shelf
attribute [local go_sem] Oper.semAt_some
open Go.Proofs.YtakkifedcbhgfaaDoor.MBox (Bx I64)
theorem blk_own {β : Type} {g t : Nat} (f : β → Array Value) : Own (fun (s : β) W => Blk W g (f s) t) := fun s X Y row hs hg hrow =>
  (hg.block g (Array.getElem?_eq_some_iff.1 (show X.heap[g]? = _ from hs)).1 (fun e' => by obtain ⟨o, ho, hc⟩ := hrow g e'.symm; rw [show X.heap[g]? = _ from hs] at ho; cases ho; cases hc)).trans hs
theorem kf_bel {B : Nat} {X Y : World} (h : Bel X Y) : KeepsFrom B X Y := KeepsFrom.of_grownBy (row := none) ⟨h.os, h.tape, h.output, h.size, fun j hj _ => h.block j hj⟩ (fun _ e => by cases e)
theorem kf_set {B : Nat} {X Y : World} (h : KeepsFrom B X Y) (p : Addr) (u : Value) : KeepsFrom B X (Y.setCell p u) := h.trans ((KeepsOthers.setCell _ _ _).from B)
theorem kx_set {X Y : World} {g : Nat} (h : Kx g X Y) (n : Nat) (u : Value) : Kx g X (Y.setCell ⟨g, n, none⟩ u) :=
  h.trans ⟨by simp, fun j hj cs t r hc => by rw [Below.heap_setCell _ _ _ _ hj]; exact hc⟩
/-- The box around points, one after another. -/
def boxOf (l : List (Int × Int)) : Bx := l.foldl (fun b p => MBox.union b ⟨false, p.1, p.2, p.1, p.2⟩) MBox.noneB
theorem boxOf_snoc (l : List (Int × Int)) (p : Int × Int) : boxOf (l ++ [p]) = MBox.union (boxOf l) ⟨false, p.1, p.2, p.1, p.2⟩ := by simp [boxOf]
set_option maxHeartbeats 2000000 in
set_option maxRecDepth 100000 in
theorem boxOf_calls (w : World) (c : Value × Value × Value) (d : Nat) (out : List (Int × Int)) (hs : ∀ k, w.heap.size ≤ k → IsSh k w d c out) :
    Calls Tryd.prog 28 #[.agg #[c.1, c.2.1, c.2.2]] w fun e w' => e = .returned (.agg #[.bool (boxOf out).no, .int .i64 (boxOf out).lx, .int .i64 (boxOf out).ly, .int .i64 (boxOf out).hx, .int .i64 (boxOf out).hy]) ∧ Bel w w' := by
  obtain ⟨kd, e1, e2, e3, e4, e5, e6, rfl⟩ := (hs _ (Nat.le_refl _)).forms
  dsimp only
  refine (callsIn_wide (n := 5)).1 ?_
  refine callsIn_of_wp_marks Tryd.func28 rfl trivial ?_ rfl
  simp only [Tryd.ntmps28, List.size_toArray, List.length_cons, List.length_nil, Nat.reduceAdd, Nat.reduceSub, Array.replicate_succ, Array.replicate_zero, List.push_toArray, List.append_toArray, List.nil_append, List.cons_append]
  have A := (Blk.new w #[.int .i64 kd, .slice e1 e2 e3, .slice e4 e5 e6] 46).alloc (.cells #[.bool false, .int .i64 0, .int .i64 0, .int .i64 0, .int .i64 0] 52)
  have R := Blk.new_at (W := w.alloc (.cells #[.int .i64 kd, .slice e1 e2 e3, .slice e4 e5 e6] 46)) (g := w.heap.size + 1) (by simp) #[.bool false, .int .i64 0, .int .i64 0, .int .i64 0, .int .i64 0] 52
  have HB : Hid (Below w.heap.size w ((w.alloc (.cells #[.int .i64 kd, .slice e1 e2 e3, .slice e4 e5 e6] 46)).alloc (.cells #[.bool false, .int .i64 0, .int .i64 0, .int .i64 0, .int .i64 0] 52))) := Lib.hid (by repeat (first | exact Below.refl _ _ | refine Below.alloc ?_ (by simp <;> omega) _))
  gi_upto_region 1 with (fail)
  obtain ⟨W, hW⟩ : ∃ W, (w.alloc (.cells #[.int .i64 kd, .slice e1 e2 e3, .slice e4 e5 e6] 46)).alloc (.cells #[.bool false, .int .i64 0, .int .i64 0, .int .i64 0, .int .i64 0] 52) = W := ⟨_, rfl⟩
  rw [hW] at A R HB ⊢
  clear hW
  gi_upto_region 2 with ((try refine ⟨trivial, ?_⟩); gi_at_call 33; refine (callsIn_wide.2 (none_calls _)).mono ?_; rintro e w1 ⟨rfl, hb1⟩)
  have A1 := Blk.bel A hb1
  have R1 := Blk.bel R hb1
  have HB1 := Lib.hid (bthen HB.out hb1)
  have S := Blk.new w1 #[.bool MBox.noneB.no, .int .i64 MBox.noneB.lx, .int .i64 MBox.noneB.ly, .int .i64 MBox.noneB.hx, .int .i64 MBox.noneB.hy] 52
  have A2 := Blk.alloc A1 (.cells #[.bool MBox.noneB.no, .int .i64 MBox.noneB.lx, .int .i64 MBox.noneB.ly, .int .i64 MBox.noneB.hx, .int .i64 MBox.noneB.hy] 52)
  have R2 := Blk.alloc R1 (.cells #[.bool MBox.noneB.no, .int .i64 MBox.noneB.lx, .int .i64 MBox.noneB.ly, .int .i64 MBox.noneB.hx, .int .i64 MBox.noneB.hy] 52)
  have HB2 := Lib.hid (HB1.out.alloc HB1.out.size (.cells #[.bool MBox.noneB.no, .int .i64 MBox.noneB.lx, .int .i64 MBox.noneB.ly, .int .i64 MBox.noneB.hx, .int .i64 MBox.noneB.hy] 52))
  obtain ⟨W2, hW⟩ : ∃ W, w1.alloc (.cells #[.bool MBox.noneB.no, .int .i64 MBox.noneB.lx, .int .i64 MBox.noneB.ly, .int .i64 MBox.noneB.hx, .int .i64 MBox.noneB.hy] 52) = W := ⟨_, rfl⟩
  rw [hW] at A2 R2 HB2 S ⊢
  have hg0 := Blk.lt R1
  have hgs := Blk.lt S
  obtain ⟨g, hg⟩ : ∃ g, w1.heap.size = g := ⟨_, rfl⟩
  rw [hg] at S hg0 hgs ⊢
  clear hW hg A1 R1 HB1 A R HB hb1
  obtain ⟨a0, a1, a2⟩ := Blk.cells3 A2
  gi_wp2_with ((try refine ⟨trivial, ?_⟩); gi_at_call 73; refine (All_in Fence.wide _ trivial rfl _ _ _ _).mono ?_; rintro e w' ⟨rfl, rfl⟩)
  have A3 := Blk.alloc A2 (.cells #[.int .i64 kd, .slice e1 e2 e3, .slice e4 e5 e6] 46)
  have R3 := Blk.alloc R2 (.cells #[.int .i64 kd, .slice e1 e2 e3, .slice e4 e5 e6] 46)
  have S3 := Blk.alloc S (.cells #[.int .i64 kd, .slice e1 e2 e3, .slice e4 e5 e6] 46)
  have C3 := Blk.new W2 #[.int .i64 kd, .slice e1 e2 e3, .slice e4 e5 e6] 46
  have HB3 := Lib.hid (HB2.out.alloc HB2.out.size (.cells #[.int .i64 kd, .slice e1 e2 e3, .slice e4 e5 e6] 46))
  obtain ⟨W3, hW⟩ : ∃ W, W2.alloc (.cells #[.int .i64 kd, .slice e1 e2 e3, .slice e4 e5 e6] 46) = W := ⟨_, rfl⟩
  rw [hW] at A3 R3 S3 C3 HB3 ⊢
  have hB2 := HB2.out.size
  obtain ⟨B, hBB⟩ : ∃ b, W2.heap.size = b := ⟨_, rfl⟩
  rw [hBB] at C3 hgs hB2 ⊢
  clear hW hBB A2 R2 S HB2 a0 a1 a2
  have hgk : g < W3.heap.size := Blk.lt S3
  have hs3 : IsSh g W3 d (.int .i64 kd, .slice e1 e2 e3, .slice e4 e5 e6) out := IsSh.kx ⟨HB3.out.size, fun j _ cs t r hc => (HB3.out.block j (Array.getElem?_eq_some_iff.1 hc).1).trans hc⟩ d (hs g (by omega))
  refine wpIn_rangeFunc_ownH (F := Fence.wide) rfl (by omega) (gf := 97) (lb := #[.pointer (some ⟨B, 0, none⟩)]) rfl trivial (enters_of Tryd.func97 (by kernel_rfl) rfl)
    (seq_stops Fence.wide rfl 4 trivial trivial rfl B g d _ out W3 C3 hgk hs3) Kx.trans (fun W l o o' _ h ho _ => Kx.put W l o o' h ho) (Below.refl _ _) (fun _ => rfl)
    (fun pre W => (Blk W g #[.bool (boxOf pre).no, .int .i64 (boxOf pre).lx, .int .i64 (boxOf pre).ly, .int .i64 (boxOf pre).hx, .int .i64 (boxOf pre).hy] 52 ∧ Blk W (w.heap.size + 1) #[.bool false, .int .i64 0, .int .i64 0, .int .i64 0, .int .i64 0] 52) ∧ Below w.heap.size w W)
    (fun _ _ _ => False)
    (OwnFrom.and (OwnFrom.and (Own.from (blk_own _) _) (Own.from (blk_own _) _)) (ownFrom_below (Nat.le_refl _) (HB3.out.size)))
    (fun _ _ _ _ _ hs _ _ => hs)
    ⟨⟨S3, R3⟩, HB3.out⟩
    (fun x a' W => ∃ q, g < q ∧ Blk W q #[.int .i64 x.1, .int .i64 x.2] 50 ∧ a' = { tmps := #[.agg #[.int .i64 kd, .slice e1 e2 e3, .slice e4 e5 e6], .pointer (some ⟨w.heap.size, 0, none⟩), .pointer (some ⟨w.heap.size + 1, 0, none⟩), .pointer (some ⟨g, 0, none⟩), .pointer (some ⟨q, 0, none⟩), .agg #[.bool MBox.noneB.no, .int .i64 MBox.noneB.lx, .int .i64 MBox.noneB.ly, .int .i64 MBox.noneB.hx, .int .i64 MBox.noneB.hy], .agg #[.int .i64 kd, .slice e1 e2 e3, .slice e4 e5 e6], .func (.func 97) #[] #[.pointer (some ⟨B, 0, none⟩)], .agg #[.int .i64 x.1, .int .i64 x.2], undef, undef, undef, undef, undef, undef], defers := [] })
    (fun x a' s X Y row hx hg hr => by
      obtain ⟨q, h1, h2, h3⟩ := hx
      exact ⟨q, h1, (Own.from (blk_own (fun _ : Unit => #[.int .i64 x.1, .int .i64 x.2])) _) () X Y row h2 hg hr, h3⟩) ?assign ?body ?done ?stop
  case assign =>
    rintro l pre x W K ⟨⟨hi1, hi2⟩, hi3⟩ hK
    have hq := Blk.lt hi1
    gi_wp2
    exact hK _ _ ((KeepsOthers.alloc _ _).from _) (Kx.alloc _ _) ⟨⟨Blk.alloc hi1 _, Blk.alloc hi2 _⟩, hi3.alloc hi3.size _⟩ ⟨W.heap.size, hq, Blk.new W _ _, rfl⟩
  case body =>
    rintro l pre x a' W hl hr ⟨⟨hi1, hi2⟩, hi3⟩ ⟨q, hq, hqb, rfl⟩ hlt
    obtain ⟨c0, c1, c2, c3, c4⟩ := Blk.cells5 hi1
    have p0 : W.cell? ⟨q, 0, none⟩ = some (.int .i64 x.1) := Blk.cell hqb 0 rfl
    have p1 : W.cell? ⟨q, 1, none⟩ = some (.int .i64 x.2) := Blk.cell hqb 1 rfl
    have HU := Lib.hid (fun w => union_calls (boxOf pre) ⟨false, x.1, x.2, x.1, x.2⟩ w)
    rw [← boxOf_snoc] at HU
    dsimp only at HU
    obtain ⟨b0, hb0⟩ : ∃ b, boxOf pre = b := ⟨_, rfl⟩
    obtain ⟨b9, hb9⟩ : ∃ b, boxOf (pre ++ [x]) = b := ⟨_, rfl⟩
    rw [hb0] at c0 c1 c2 c3 c4 HU hi1
    rw [hb9] at HU
    gi_wp2_with ((try refine ⟨trivial, ?_⟩); gi_at_call 41; refine (CallsIn.inRound l (callsIn_wide.2 (HU.out _))).mono ?_; rintro e w' ⟨rfl, hb⟩; have S9 := Blk.bel hi1 hb; have R9 := Blk.bel hi2 hb; obtain ⟨c0, c1, c2, c3, c4⟩ := Blk.cells5 S9; have f0 := S9.froz 0; have f1 := S9.froz 1; have f2 := S9.froz 2; have f3 := S9.froz 3; have f4 := S9.froz 4)
    refine ⟨kf_set (kf_set (kf_set (kf_set (kf_set (kf_bel hb) _ _) _ _) _ _) _ _) _ _, kx_set (kx_set (kx_set (kx_set (kx_set (Kx.bel hb) 0 _) 1 _) 2 _) 3 _) 4 _, ⟨?_, ?_⟩, below_set5 (bthen hi3 hb) (by omega) _ _ _ _ _⟩
    · rw [hb9]; exact Blk.set5 S9
    · exact ((((R9.set_ne (by omega) _).set_ne (by omega) _).set_ne (by omega) _).set_ne (by omega) _).set_ne (by omega) _
  case done =>
    rintro D ys W hD rfl ⟨⟨hi1, hi2⟩, hi3⟩ hK
    obtain ⟨c0, c1, c2, c3, c4⟩ := Blk.cells5 hi1
    obtain ⟨r0, r1, r2, r3, r4⟩ := Blk.cells5 hi2
    have f0 := hi2.froz 0; have f1 := hi2.froz 1; have f2 := hi2.froz 2; have f3 := hi2.froz 3; have f4 := hi2.froz 4
    have R9 := Blk.set5 hi2 (x' := .bool (boxOf ys).no) (y' := .int .i64 (boxOf ys).lx) (z' := .int .i64 (boxOf ys).ly) (p' := .int .i64 (boxOf ys).hx) (q' := .int .i64 (boxOf ys).hy)
    have B9 := below_set5 hi3 (g := w.heap.size + 1) (by omega) (.bool (boxOf ys).no) (.int .i64 (boxOf ys).lx) (.int .i64 (boxOf ys).ly) (.int .i64 (boxOf ys).hx) (.int .i64 (boxOf ys).hy)
    have K9 := (kf_set (kf_set (kf_set (kf_set (kf_set (KeepsFrom.refl 0 W) ⟨w.heap.size + 1, 0, none⟩ (.bool (boxOf ys).no)) ⟨w.heap.size + 1, 1, none⟩ (.int .i64 (boxOf ys).lx)) ⟨w.heap.size + 1, 2, none⟩ (.int .i64 (boxOf ys).ly)) ⟨w.heap.size + 1, 3, none⟩ (.int .i64 (boxOf ys).hx)) ⟨w.heap.size + 1, 4, none⟩ (.int .i64 (boxOf ys).hy)).same D _ (Nat.zero_le _) hK rfl
    gi_wp2
    obtain ⟨W9, hW⟩ : ∃ X, ((((W.setCell ⟨w.heap.size + 1, 0, none⟩ (.bool (boxOf ys).no)).setCell ⟨w.heap.size + 1, 1, none⟩ (.int .i64 (boxOf ys).lx)).setCell ⟨w.heap.size + 1, 2, none⟩ (.int .i64 (boxOf ys).ly)).setCell ⟨w.heap.size + 1, 3, none⟩ (.int .i64 (boxOf ys).hx)).setCell ⟨w.heap.size + 1, 4, none⟩ (.int .i64 (boxOf ys).hy) = X := ⟨_, rfl⟩
    rw [hW] at R9 B9 K9 ⊢
    clear hW c0 c1 c2 c3 c4 r0 r1 r2 r3 r4 f0 f1 f2 f3 f4 hi1 hi2 hi3 hK
    refine ⟨by simp, .inl ⟨_, _, rfl, run_takeDeferred K9, ?_⟩⟩
    have R10 := Blk.put R9 (j := D) (by omega) (.deferred none)
    obtain ⟨q0, q1, q2, q3, q4⟩ := Blk.cells5 R10
    refine ⟨.agg #[.bool (boxOf ys).no, .int .i64 (boxOf ys).lx, .int .i64 (boxOf ys).ly, .int .i64 (boxOf ys).hx, .int .i64 (boxOf ys).hy], ?_, rfl, below_put B9 (by omega) _⟩
    simp [results, Tryd.results28, go_sem, q0, q1, q2, q3, q4]
  case stop =>
    rintro D c pre W _ _ h _
    exact h.elim

end Go.Proofs.YtakkifedcbhgfaaDoor.K
