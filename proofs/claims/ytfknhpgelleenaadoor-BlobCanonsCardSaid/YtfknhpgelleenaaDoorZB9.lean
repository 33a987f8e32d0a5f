/- What a claim leans on, part 9, cut by a program out of the texts WShape1 WShape2 WShapeK. -/
import Derived.Handy
import Derived.RangeFuncNested
import Derived.RangeFuncBound
import Derived.RangeFuncCalls
import Derived.RangeFuncLeaves
import Derived.Shelf.Abstract
import Derived.Shelf.RegionOpen
import Derived.OwnWalkIn
import Derived.TacticsInMore
import Derived.LoopNIn
import Derived.LoopIn
import Derived.Sort.CutIn
import Derived.Test.YtfknhpgelleenaaDoorZB3
import Derived.Test.YtfknhpgelleenaaDoorZB4
section
namespace Go.Proofs.YtfknhpgelleenaaDoor.K
open Go Go.RowKit Go.Proofs.YtfknhpgelleenaaDoorW.PrintWords Go.Proofs.YtfknhpgelleenaaDoorW.PrintLast Go.Proofs.YtfknhpgelleenaaDoorW.PrintMore
set_option linter.unusedVariables false
set_option linter.unusedSimpArgs false
open Go.Shelf
/-- Every block of cells but block k lies as it lay. -/
def Kx (k : Nat) (W W' : World) : Prop := W.heap.size ≤ W'.heap.size ∧ ∀ j, j ≠ k → ∀ cs t r, W.heap[j]? = some (.cells cs t r) → W'.heap[j]? = some (.cells cs t r)
theorem Kx.refl (k : Nat) (W : World) : Kx k W W := ⟨Nat.le_refl _, fun _ _ _ _ _ h => h⟩
theorem Kx.trans {k : Nat} {A B C : World} (h : Kx k A B) (h' : Kx k B C) : Kx k A C := ⟨Nat.le_trans h.1 h'.1, fun j hj cs t r hc => h'.2 j hj cs t r (h.2 j hj cs t r hc)⟩
theorem Kx.bel {k : Nat} {A B : World} (h : Bel A B) : Kx k A B := ⟨h.size, fun j _ cs t r hc => (h.block j (Array.getElem?_eq_some_iff.1 hc).1).trans hc⟩
theorem Kx.alloc {k : Nat} (W : World) (o : Obj) : Kx k W (W.alloc o) := Kx.bel ((Bel.refl W).alloc (Nat.le_refl _) o)
theorem Kx.put {k : Nat} (W : World) (l : Nat) (o o' : Obj) (h : W.heap[l]? = some o) (ho : o.isCells = false) : Kx k W (W.putObj l o') :=
  ⟨by simp, fun j _ cs t r hc => by
    by_cases e : j = l
    · subst e
      rw [h] at hc
      cases hc
      simp [Obj.isCells] at ho
    · rw [World.putObj_heap_other e]; exact hc⟩
theorem Kx.cell {k : Nat} {W W' : World} (h : Kx k W W') {j i : Nat} {v : Value} (hj : j ≠ k) (hc : W.cell? ⟨j, i, none⟩ = some v) : W'.cell? ⟨j, i, none⟩ = some v := by
  unfold World.cell? at hc ⊢
  cases ho : W.heap[j]? with
  | none => rw [ho] at hc; simp at hc
  | some o =>
    cases o with
    | cells cs t r => rw [h.2 j hj cs t r ho]; rw [ho] at hc; exact hc
    | _ => rw [ho] at hc; simp at hc
theorem Blk.kx {k : Nat} {W W' : World} {g t : Nat} {cs : Array Value} (h : Kx k W W') (hg : g ≠ k) (hb : Blk W g cs t) : Blk W' g cs t := h.2 g hg _ _ _ hb
/-- Points in a row. -/
def PtsAt (k : Nat) (W : World) (v : Value) (pts : List (Int × Int)) : Prop :=
  ∃ a cap, v = .slice a pts.length cap ∧ pts.length ≤ 9223372036854775807 ∧ ∀ i (hi : i < pts.length), ∃ b off, a = some ⟨b, off, none⟩ ∧ b ≠ k ∧ W.cell? ⟨b, off + i * 2, none⟩ = some (.int .i64 (pts[i]'hi).1) ∧ W.cell? ⟨b, off + i * 2 + 1, none⟩ = some (.int .i64 (pts[i]'hi).2)
/-- Shapes' cells in a row. -/
def PartsAt (k : Nat) (W : World) (v : Value) (ps : List (Value × Value × Value)) : Prop :=
  ∃ a cap, v = .slice a ps.length cap ∧ ps.length ≤ 9223372036854775807 ∧ ∀ i (hi : i < ps.length), ∃ b off, a = some ⟨b, off, none⟩ ∧ b ≠ k ∧ W.cell? ⟨b, off + i * 3, none⟩ = some (ps[i]'hi).1 ∧ W.cell? ⟨b, off + i * 3 + 1, none⟩ = some (ps[i]'hi).2.1 ∧ W.cell? ⟨b, off + i * 3 + 2, none⟩ = some (ps[i]'hi).2.2
/-- A shape of a depth, by its three cells; its points in order. -/
def IsSh (k : Nat) (W : World) : Nat → Value × Value × Value → List (Int × Int) → Prop
  | 0, _, _ => False
  | d + 1, c, out => ∃ (kind : Int) (pts : List (Int × Int)) (cs : List ((Value × Value × Value) × List (Int × Int))), c.1 = .int .i64 kind ∧ PtsAt k W c.2.1 pts ∧ PartsAt k W c.2.2 (cs.map (·.1)) ∧ (∀ p ∈ cs, IsSh k W d p.1 p.2) ∧ out = pts ++ (cs.map (·.2)).flatten
theorem PtsAt.kx {k : Nat} {W W' : World} (h : Kx k W W') {v : Value} {pts : List (Int × Int)} (hp : PtsAt k W v pts) : PtsAt k W' v pts := by
  obtain ⟨a, cap, hv, hm, hx⟩ := hp
  exact ⟨a, cap, hv, hm, fun i hi => by obtain ⟨b, off, e, hb, h1, h2⟩ := hx i hi; exact ⟨b, off, e, hb, h.cell hb h1, h.cell hb h2⟩⟩
theorem PartsAt.kx {k : Nat} {W W' : World} (h : Kx k W W') {v : Value} {ps : List (Value × Value × Value)} (hp : PartsAt k W v ps) : PartsAt k W' v ps := by
  obtain ⟨a, cap, hv, hm, hx⟩ := hp
  exact ⟨a, cap, hv, hm, fun i hi => by obtain ⟨b, off, e, hb, h1, h2, h3⟩ := hx i hi; exact ⟨b, off, e, hb, h.cell hb h1, h.cell hb h2, h.cell hb h3⟩⟩
theorem IsSh.kx {k : Nat} {W W' : World} (h : Kx k W W') : ∀ (d : Nat) {c : Value × Value × Value} {out : List (Int × Int)}, IsSh k W d c out → IsSh k W' d c out
  | 0, _, _, hs => hs
  | d + 1, _, _, ⟨kind, pts, cs, h1, h2, h3, h4, h5⟩ => ⟨kind, pts, cs, h1, h2.kx h, h3.kx h, fun p hp => IsSh.kx h d (h4 p hp), h5⟩
set_option maxRecDepth 100000 in
theorem All_in (F : Fence) (n : Nat) (h : F.fn 28) (hro : F.round = none) (k xy ps : Value) (w : World) :
    CallsIn F n Tryd.prog 28 #[.agg #[k, xy, ps]] w fun e w' => e = .returned (.func (.func 56) #[] #[.pointer (some ⟨w.heap.size, 0, none⟩)]) ∧ w' = w.alloc (.cells #[k, xy, ps] 25) := by
  refine callsIn_of_wp Tryd.func28 rfl h ?_ hro
  simp only [Tryd.ntmps28, List.size_toArray, List.length_cons, List.length_nil, Nat.reduceAdd, Nat.reduceSub, Array.replicate_succ, Array.replicate_zero, List.push_toArray, List.append_toArray, List.nil_append, List.cons_append]
  gi_wp2
  go_ret
  exact ⟨rfl, rfl⟩
theorem PtsAt.open {k : Nat} {W : World} {v : Value} {pts : List (Int × Int)} (h : PtsAt k W v pts) : ∃ a cap, v = .slice a pts.length cap ∧ pts.length ≤ 9223372036854775807 ∧ ∀ i (hi : i < pts.length), ∃ b off, a = some ⟨b, off, none⟩ ∧ b ≠ k ∧ W.cell? ⟨b, off + i * 2, none⟩ = some (.int .i64 (pts[i]'hi).1) ∧ W.cell? ⟨b, off + i * 2 + 1, none⟩ = some (.int .i64 (pts[i]'hi).2) := h
theorem PartsAt.open {k : Nat} {W : World} {v : Value} {ps : List (Value × Value × Value)} (h : PartsAt k W v ps) : ∃ a cap, v = .slice a ps.length cap ∧ ps.length ≤ 9223372036854775807 ∧ ∀ i (hi : i < ps.length), ∃ b off, a = some ⟨b, off, none⟩ ∧ b ≠ k ∧ W.cell? ⟨b, off + i * 3, none⟩ = some (ps[i]'hi).1 ∧ W.cell? ⟨b, off + i * 3 + 1, none⟩ = some (ps[i]'hi).2.1 ∧ W.cell? ⟨b, off + i * 3 + 2, none⟩ = some (ps[i]'hi).2.2 := h
theorem IsSh.forms {k : Nat} {W : World} {d : Nat} {c : Value × Value × Value} {out : List (Int × Int)} (h : IsSh k W d c out) : ∃ (kind : Int) (a : Option Addr) (n m : Nat) (a' : Option Addr) (n' m' : Nat), c = (.int .i64 kind, .slice a n m, .slice a' n' m') := by
  cases d with
  | zero => exact h.elim
  | succ d =>
    obtain ⟨kind, pts, cs, h1, h2, h3, _, _⟩ := h
    obtain ⟨a, m, e, _, _⟩ := h2.open
    obtain ⟨a', m', e', _, _⟩ := h3.open
    exact ⟨kind, a, pts.length, m, a', (cs.map (·.1)).length, m', Prod.ext h1 (Prod.ext e e')⟩
/-- A round of yield, as 'each' meets it. -/
def Yk (F : Fence) (l k N : Nat) (J Jx : List (Int × Int) → World → Prop) : Prop := ∀ m pre (x : Int × Int) W, J pre W → pre.length < N → YieldAt F m Tryd.prog l #[.agg #[.int .i64 x.1, .int .i64 x.2]] W fun e W' =>
  (e = .returned (.bool true) ∧ J (pre ++ [x]) W' ∧ Kx k W W') ∨ (e = .returned (.bool false) ∧ Jx (pre ++ [x]) W')
set_option maxHeartbeats 2000000 in
set_option maxRecDepth 100000 in
theorem each_in (F : Fence) (hd : F.depth = none) (hf : F.fn 57) (hro : F.round = none) (l k B0 N : Nat) (J Jx : List (Int × Int) → World → Prop) (hJ : AbidesFrom B0 J) (hY : Yk F l k N J Jx) :
    ∀ (d : Nat) (c : Value × Value × Value) (out : List (Int × Int)) (n : Nat) (pre : List (Int × Int)) (W : World), IsSh k W d c out → J pre W → k < W.heap.size → pre.length + out.length ≤ N →
      CallsIn F n Tryd.prog 57 #[.agg #[c.1, c.2.1, c.2.2], .func (.yield l) #[] #[]] W fun e W' =>
        (e = .returned (.bool true) ∧ J (pre ++ out) W' ∧ Kx k W W') ∨ (e = .returned (.bool false) ∧ ∃ q, q <+: out ∧ Jx (pre ++ q) W') := by
  intro d
  induction d with
  | zero => intro c out n pre W h; exact h.elim
  | succ d ih =>
    intro c out n pre W hs hJ0 hk hN
    have hdd : ∀ k : Nat, (F.depth.isSome = true → 1 ≤ k) := fun k h => by rw [hd] at h; cases h
    obtain ⟨c1, xy, ps⟩ := c
    obtain ⟨kind, pts, cs, h1, h2, h3, h4, h5⟩ := hs
    dsimp only at h1 h2 h3
    subst h1
    obtain ⟨a1, cap1, hxy, hmP, hP⟩ := h2.open
    obtain ⟨a2, cap2, hps, hmQ, hQ⟩ := h3.open
    rw [List.length_map] at hps hmQ
    subst hxy hps
    have A := Blk.new W #[.int .i64 kind, .slice a1 pts.length cap1, .slice a2 cs.length cap2] 25
    have hJ1 := hJ pre W _ none hJ0 (World.grownBy_alloc W (.cells #[.int .i64 kind, .slice a1 pts.length cap1, .slice a2 cs.length cap2] 25) none) (fun r e => by cases e)
    have hK1 : Kx k W _ := Kx.alloc W (.cells #[.int .i64 kind, .slice a1 pts.length cap1, .slice a2 cs.length cap2] 25)
    refine callsIn_of_wp Tryd.func57 rfl hf ?_ hro
    simp only [Tryd.ntmps57, List.size_toArray, List.length_cons, List.length_nil, Nat.reduceAdd, Nat.reduceSub, Array.replicate_succ, Array.replicate_zero, List.push_toArray, List.append_toArray, List.nil_append, List.cons_append]
    gi_upto_region 1 with (fail)
    obtain ⟨W1, hW⟩ : ∃ X, W.alloc (.cells #[.int .i64 kind, .slice a1 pts.length cap1, .slice a2 cs.length cap2] 25) = X := ⟨_, rfl⟩
    rw [hW] at A hJ1 hK1 ⊢
    clear hW
    obtain ⟨a0, b1, b2⟩ := Blk.cells3 A
    have hPk : PtsAt k W1 (.slice a1 pts.length cap1) pts := h2.kx hK1
    gi_wp2_with (fail)
    gi_loopw [12] (fun iv wr => ∃ i : Nat, i ≤ pts.length ∧ iv = .int .i64 i ∧ J (pre ++ pts.take i) wr ∧ Kx k W1 wr) (fun iv _ => pts.length - (intOf iv).toNat)
    case atStart => exact ⟨0, Nat.zero_le _, rfl, by simpa using hJ1, Kx.refl _ _⟩
    case round =>
      obtain ⟨i, hi, rfl, hJr, hKr⟩ := hrel
      by_cases hlt : i < pts.length
      · obtain ⟨b, off, rfl, hbk, hc0, hc1⟩ := hP i hlt
        have hc0r := hKr.cell hbk (hK1.cell hbk hc0)
        have hc1r := hKr.cell hbk (hK1.cell hbk hc1)
        obtain ⟨x, hx⟩ : ∃ x, pts[i]'hlt = x := ⟨_, rfl⟩
        rw [hx] at hc0r hc1r
        have hltz : (i : Int) < pts.length := by omega
        have hwz : wrap64 ((i : Int) + 1) = i + 1 := Go.IntWalk.wrap64_in _ (by omega)
        have htk : pts.take (i + 1) = pts.take i ++ [x] := by rw [List.take_add_one, List.getElem?_eq_getElem hlt, hx]; rfl
        have hout : pre.length + pts.length ≤ N := by rw [h5] at hN; simp only [List.length_append] at hN; omega
        have hJa := hJ _ wr _ none hJr (World.grownBy_alloc wr (.cells #[.int .i64 x.1, .int .i64 x.2] 41) none) (fun r e => by cases e)
        obtain ⟨fn, tmps, assign, body, hy, hR⟩ := hY (n - 1) _ x _ hJa (by simp only [List.length_append, List.length_take]; omega)
        gi_wp2_with (fail)
        refine hR.mono ?_
        rintro e W3 (⟨rfl, hJ3, hk3⟩ | ⟨rfl, hx3⟩)
        · have hK3 : Kx k W1 W3 := (hKr.trans (Kx.alloc wr _)).trans hk3
          rw [List.append_assoc, ← htk] at hJ3
          gi_wp2_with (fail)
          go_roundw
          case rel => exact ⟨i + 1, hlt, by go_num, hJ3, hK3⟩
          case measure => simp [intOf]; omega
        · rw [List.append_assoc, ← htk] at hx3
          gi_wp2_with (fail)
          go_ret
          exact .inr ⟨by simp, pts.take (i + 1), (List.take_prefix _ _).trans ⟨_, h5.symm⟩, hx3⟩
      · have hii : i = pts.length := by omega
        have b2r := hKr.cell (Nat.ne_of_gt hk) b2
        subst hii
        have hltf : decide ((pts.length : Int) < pts.length) = false := decide_eq_false (by omega)
        rw [List.take_length] at hJr
        gi_wp2_with (fail)
        gi_loopw [24] (fun iv wr => ∃ j : Nat, j ≤ cs.length ∧ iv = .int .i64 j ∧ J (pre ++ pts ++ ((cs.take j).map (·.2)).flatten) wr ∧ Kx k W1 wr) (fun iv _ => cs.length - (intOf iv).toNat)
        case atStart => exact ⟨0, Nat.zero_le _, rfl, by simpa using hJr, hKr⟩
        case round =>
          clear hJr hKr b2r hltf hlt
          obtain ⟨j, hj, rfl, hJr, hKr⟩ := hrel
          by_cases hlt : j < cs.length
          · obtain ⟨b, off, rfl, hbk, hc0, hc1, hc2⟩ := hQ j (by rw [List.length_map]; exact hlt)
            rw [List.getElem_map] at hc0 hc1 hc2
            obtain ⟨p, hp⟩ : ∃ x, cs[j]'hlt = x := ⟨_, rfl⟩
            have hmem : p ∈ cs := by rw [← hp]; exact List.getElem_mem hlt
            rw [hp] at hc0 hc1 hc2
            have hc0r := hKr.cell hbk (hK1.cell hbk hc0)
            have hc1r := hKr.cell hbk (hK1.cell hbk hc1)
            have hc2r := hKr.cell hbk (hK1.cell hbk hc2)
            have hltz : (j : Int) < cs.length := by omega
            have hwz : wrap64 ((j : Int) + 1) = j + 1 := Go.IntWalk.wrap64_in _ (by omega)
            obtain ⟨q, po⟩ := p
            have hsp := h4 _ hmem
            obtain ⟨kd, e1, e2, e3, e4, e5, e6, hq⟩ := hsp.forms
            dsimp only at hq hsp hc0r hc1r hc2r
            subst hq
            dsimp only at hc0r hc1r hc2r
            have htk : ((cs.take (j + 1)).map (·.2)).flatten = ((cs.take j).map (·.2)).flatten ++ po := by rw [List.take_add_one, List.getElem?_eq_getElem hlt, hp]; simp
            have hJa := hJ _ wr _ none hJr (World.grownBy_alloc wr (.cells #[.int .i64 kd, .slice e1 e2 e3, .slice e4 e5 e6] 25) none) (fun r e => by cases e)
            have hKa : Kx k W (wr.alloc (.cells #[.int .i64 kd, .slice e1 e2 e3, .slice e4 e5 e6] 25)) := (hK1.trans hKr).trans (Kx.alloc wr _)
            have hsz := hKa.1
            have hNN : (pre ++ pts ++ ((cs.take j).map (·.2)).flatten).length + po.length ≤ N := by
              have h6 : (cs.map (·.2)).flatten = ((cs.take (j + 1)).map (·.2)).flatten ++ ((cs.drop (j + 1)).map (·.2)).flatten := by
                rw [← List.flatten_append, ← List.map_append, List.take_append_drop]
              rw [h5, h6, htk] at hN
              simp only [List.length_append] at hN ⊢
              omega
            have hcall := ih _ po (n - 1) _ _ (IsSh.kx hKa d hsp) hJa (Nat.lt_of_lt_of_le hk hsz) hNN
            gi_wp2_with (fail)
            refine hcall.mono ?_
            rintro e W3 (⟨rfl, hJ3, hk3⟩ | ⟨rfl, q', hq', hx3⟩)
            · have hK3 : Kx k W1 W3 := (hKr.trans (Kx.alloc wr _)).trans hk3
              rw [List.append_assoc, ← htk] at hJ3
              gi_wp2_with (fail)
              go_roundw
              case rel => exact ⟨j + 1, hlt, by go_num, hJ3, hK3⟩
              case measure => simp [intOf]; omega
            · rw [List.append_assoc, List.append_assoc] at hx3
              gi_wp2_with (fail)
              go_ret
              refine .inr ⟨by simp, pts ++ (((cs.take j).map (·.2)).flatten ++ q'), ?_, hx3⟩
              rw [h5]
              refine (List.prefix_append_right_inj _).2 ?_
              have h6 : (cs.map (·.2)).flatten = ((cs.take (j + 1)).map (·.2)).flatten ++ ((cs.drop (j + 1)).map (·.2)).flatten := by
                rw [← List.flatten_append, ← List.map_append, List.take_append_drop]
              rw [h6, htk, List.append_assoc]
              exact (List.prefix_append_right_inj _).2 (hq'.trans (List.prefix_append _ _))
          · have hjj : j = cs.length := by omega
            subst hjj
            have hltf : decide ((cs.length : Int) < cs.length) = false := decide_eq_false (by omega)
            rw [List.take_length] at hJr
            gi_wp2_with (fail)
            go_ret
            exact .inl ⟨by simp, by rw [h5, ← List.append_assoc]; exact hJr, hK1.trans hKr⟩
end Go.Proofs.YtfknhpgelleenaaDoor.K
end
section
namespace Go.Proofs.YtfknhpgelleenaaDoor.K
open Go Go.RowKit Go.Proofs.YtfknhpgelleenaaDoorW.PrintWords Go.Proofs.YtfknhpgelleenaaDoorW.PrintLast Go.Proofs.YtfknhpgelleenaaDoorW.PrintMore
set_option linter.unusedVariables false
set_option linter.unusedSimpArgs false
open Go.Shelf
theorem room_of_none {F : Fence} (hd : F.depth = none) (k : Nat) : F.room k := fun d h => by rw [hd] at h; cases h
theorem round_anyDepth {F : Fence} (hd : F.depth = none) {m m' : Nat} {P : Program} {l : Nat} {f : FuncId} {tmps : Array Value} {assign body : Code} {w : World} {R : Ending → World → Prop}
    (h : RoundIn F m P l f tmps assign body w R) : RoundIn F m' P l f tmps assign body w R := ⟨h.1, fun c cs _ => h.2 c cs (room_of_none hd _)⟩
theorem yield_anyDepth {F : Fence} (hd : F.depth = none) {m : Nat} (m' : Nat) {P : Program} {l : Nat} {args : Array Value} {W : World} {R : Ending → World → Prop} (h : YieldAt F m P l args W R) : YieldAt F m' P l args W R := by
  obtain ⟨fn, tmps, assign, body, hy, hR⟩ := h
  exact ⟨fn, tmps, assign, body, hy, round_anyDepth hd hR⟩
set_option maxHeartbeats 1000000 in
set_option maxRecDepth 100000 in
/-- What shape.All hands back, ranged over: the shape's points, in order. -/
theorem seq_stops (F : Fence) (hd : F.depth = none) (n : Nat) (h97 : F.fn 56) (h98 : F.fn 57) (hro : F.round = none) (B k d : Nat) (c : Value × Value × Value) (out : List (Int × Int)) (w : World)
    (hB : Blk w B #[c.1, c.2.1, c.2.2] 25) (hk : k < w.heap.size) (hs : IsSh k w d c out) :
    SeqStopsK F n Tryd.prog 56 #[.pointer (some ⟨B, 0, none⟩)] (fun x : Int × Int => #[Value.agg #[.int .i64 x.1, .int .i64 x.2]]) (Kx k) (fun ys => ys = out) (fun pre => pre <+: out) out.length w := fun l J Jx W hW hJ hJx hY h0 => by
  have hdd : ∀ k : Nat, (F.depth.isSome = true → 1 ≤ k) := fun k h => by rw [hd] at h; cases h
  have hs' := IsSh.kx (Kx.bel hW) d hs
  obtain ⟨kd, e1, e2, e3, e4, e5, e6, rfl⟩ := hs.forms
  have hB' := Blk.bel hB hW
  dsimp only at hB'
  obtain ⟨b0, b1, b2⟩ := Blk.cells3 hB'
  have hp := each_in F hd h98 hro l k W.heap.size out.length J Jx hJ (fun m pre x W1 hj hl => yield_anyDepth hd m (hY pre x W1 hj hl)) d _ out (n - 1) [] W hs' h0 (Nat.lt_of_lt_of_le hk hW.size) (by simp)
  dsimp only at hp
  refine callsIn_of_wp Tryd.func56 rfl h97 ?_ hro
  simp only [Tryd.ntmps56, List.size_toArray, List.length_cons, List.length_nil, Nat.reduceAdd, Nat.reduceSub, Array.replicate_succ, Array.replicate_zero, List.push_toArray, List.append_toArray, List.nil_append, List.cons_append]
  gi_wp2_with ((try refine ⟨hdd _, ?_⟩); gi_at_call 57; refine hp.mono ?_; clear hp; rintro e W1 (⟨rfl, hJ1, _⟩ | ⟨rfl, q, hq, hx⟩))
  · go_end0
    exact ⟨⟨_, rfl⟩, .inl ⟨_, rfl, by simpa using hJ1⟩⟩
  · go_end0
    exact ⟨⟨_, rfl⟩, .inr ⟨q, hq, by simpa using hx⟩⟩
end Go.Proofs.YtfknhpgelleenaaDoor.K
end
section
namespace Go.Proofs.YtfknhpgelleenaaDoor.K
open Go Go.RowKit Go.Proofs.YtfknhpgelleenaaDoorW.PrintWords Go.Proofs.YtfknhpgelleenaaDoorW.PrintLast Go.Proofs.YtfknhpgelleenaaDoorW.PrintMore
set_option linter.unusedVariables false
set_option linter.unusedSimpArgs false
open Go.Shelf
theorem blk_own {β : Type} {g t : Nat} (f : β → Array Value) : Own (fun (s : β) W => Blk W g (f s) t) := fun s X Y row hs hg hrow =>
  (hg.block g (Array.getElem?_eq_some_iff.1 (show X.heap[g]? = _ from hs)).1 (fun e' => by obtain ⟨o, ho, hc⟩ := hrow g e'.symm; rw [show X.heap[g]? = _ from hs] at ho; cases ho; cases hc)).trans hs
theorem kf_bel {B : Nat} {X Y : World} (h : Bel X Y) : KeepsFrom B X Y := KeepsFrom.of_grownBy (row := none) ⟨h.os, h.tape, h.output, h.size, fun j hj _ => h.block j hj⟩ (fun _ e => by cases e)
theorem kf_set {B : Nat} {X Y : World} (h : KeepsFrom B X Y) (p : Addr) (u : Value) : KeepsFrom B X (Y.setCell p u) := h.trans ((KeepsOthers.setCell _ _ _).from B)
theorem kx_set {X Y : World} {g : Nat} (h : Kx g X Y) (n : Nat) (u : Value) : Kx g X (Y.setCell ⟨g, n, none⟩ u) :=
  h.trans ⟨by simp, fun j hj cs t r hc => by rw [Below.heap_setCell _ _ _ _ hj]; exact hc⟩
end Go.Proofs.YtfknhpgelleenaaDoor.K
end
