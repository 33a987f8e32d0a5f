/- What shape.All hands back, ranged over, where a row of the caller's grows. -/
import Derived.Test.YtfknhpgelleenaaDoorKB
import Derived.Handy
import Derived.Test.YtfknhpgelleenaaDoorKM
import Derived.Test.YtfknhpgelleenaaDoorWShp
import Derived.Test.YtfknhpgelleenaaDoorWPts
import Derived.Test.YtfknhpgelleenaaDoorWShape2
namespace Go.Proofs.YtfknhpgelleenaaDoor.K
open Go Go.RowKit Go.Proofs.YtfknhpgelleenaaDoorW.PrintWords Go.Proofs.YtfknhpgelleenaaDoorW.PrintLast Go.Proofs.YtfknhpgelleenaaDoorW.PrintMore
set_option linter.unusedVariables false
set_option linter.unusedSimpArgs false
open Go.Shelf
open Go.Proofs.YtfknhpgelleenaaDoor.MShape (Sh flats)
/-- The block of the row that lies in block g. -/
def rowB (g : Nat) (W : World) : Option Nat := (W.cell? ⟨g, 0, none⟩).bind Value.ownBlock
/-- Every block of cells lies as it lay, but g and that of its row, which may move to a new one. -/
def Kr (g : Nat) (W W' : World) : Prop := W.heap.size ≤ W'.heap.size ∧ (g < W.heap.size → (rowB g W' = rowB g W ∨ ∃ q, rowB g W' = some q ∧ W.heap.size ≤ q ∧ q < W'.heap.size) ∧ ∀ j, j ≠ g → some j ≠ rowB g W → ∀ cs t r, W.heap[j]? = some (.cells cs t r) → W'.heap[j]? = some (.cells cs t r))
def RowOk (B g : Nat) (W : World) : Prop := B ≤ g ∧ g < W.heap.size ∧ ∀ q, rowB g W = some q → B ≤ q ∧ q < W.heap.size
theorem rowB_blk {W : World} {g t : Nat} {v : Value} (h : Blk W g #[v] t) : rowB g W = v.ownBlock := by unfold rowB; rw [Blk.cell h 0 rfl]; rfl
theorem Kr.refl (g : Nat) (W : World) : Kr g W W := ⟨Nat.le_refl _, fun _ => ⟨.inl rfl, fun _ _ _ _ _ _ h => h⟩⟩
theorem Kr.trans {g : Nat} {A B C : World} (h : Kr g A B) (h' : Kr g B C) : Kr g A C := ⟨Nat.le_trans h.1 h'.1, fun hg => by
  obtain ⟨r1, k1⟩ := h.2 hg
  obtain ⟨r2, k2⟩ := h'.2 (Nat.lt_of_lt_of_le hg h.1)
  have s1 := h.1
  have s2 := h'.1
  refine ⟨?_, fun j hj hr cs t r hc => k2 j hj (fun e => ?_) cs t r (k1 j hj hr cs t r hc)⟩
  · rcases r2 with e2 | ⟨q, e2, h1, h2⟩
    · rw [e2]
      rcases r1 with e1 | ⟨q, e1, h1, h2⟩
      · exact .inl e1
      · exact .inr ⟨q, e1, h1, by omega⟩
    · exact .inr ⟨q, e2, by omega, h2⟩
  · have hlt : j < A.heap.size := (Array.getElem?_eq_some_iff.1 hc).1
    rcases r1 with e1 | ⟨q, e1, h1, _⟩
    · exact hr (by rw [e, e1])
    · rw [e1] at e
      injection e with e
      omega⟩
theorem Kr.bel {g : Nat} {A B : World} (h : Bel A B) : Kr g A B := ⟨h.size, fun hg => ⟨.inl (by unfold rowB; rw [h.cell (p := ⟨g, 0, none⟩) hg]), fun j _ _ cs t r hc => (h.block j (Array.getElem?_eq_some_iff.1 hc).1).trans hc⟩⟩
theorem Kr.alloc {g : Nat} (W : World) (o : Obj) : Kr g W (W.alloc o) := Kr.bel ((Bel.refl W).alloc (Nat.le_refl _) o)
theorem Kr.put {g : Nat} (W : World) (l : Nat) (o o' : Obj) (hl : g ≠ l) (h : W.heap[l]? = some o) (ho : o.isCells = false) : Kr g W (W.putObj l o') :=
  ⟨by simp, fun hg => ⟨.inl (by unfold rowB World.cell?; rw [World.putObj_heap_other hl]), fun j _ _ cs t r hc => by
    by_cases e : j = l
    · subst e
      rw [h] at hc
      cases hc
      simp [Obj.isCells] at ho
    · rw [World.putObj_heap_other e]; exact hc⟩⟩
theorem Kr.cell {g : Nat} {W W' : World} (h : Kr g W W') (hg : g < W.heap.size) {j i : Nat} {v : Value} (hj : j ≠ g) (hr : some j ≠ rowB g W) (hc : W.cell? ⟨j, i, none⟩ = some v) : W'.cell? ⟨j, i, none⟩ = some v := by
  unfold World.cell? at hc ⊢
  cases ho : W.heap[j]? with
  | none => rw [ho] at hc; simp at hc
  | some o =>
    cases o with
    | cells cs t r => rw [(h.2 hg).2 j hj hr cs t r ho]; rw [ho] at hc; exact hc
    | _ => rw [ho] at hc; simp at hc
theorem RowOk.kr {B g : Nat} {W W' : World} (h : RowOk B g W) (hk : Kr g W W') : RowOk B g W' := by
  obtain ⟨h1, h2, h3⟩ := h
  obtain ⟨r, -⟩ := hk.2 h2
  have s := hk.1
  refine ⟨h1, by omega, fun q hq => ?_⟩
  rcases r with e | ⟨q', e, h4, h5⟩
  · rw [e] at hq
    obtain ⟨h6, h7⟩ := h3 q hq
    exact ⟨h6, by omega⟩
  · rw [e] at hq
    injection hq with hq
    subst hq
    exact ⟨by omega, h5⟩
theorem RowOk.keepB {B g : Nat} {W W' : World} (h : RowOk B g W) (hk : Kr g W W') : KeepB B W W' := fun j hj cs t r hc =>
  (hk.2 h.2.1).2 j (by have := h.1; omega) (fun e => by have := (h.2.2 j e.symm).1; omega) cs t r hc
/-- A block that a call lays is kept, too. -/
theorem RowOk.own {B g b : Nat} {W W1 W' : World} (h : RowOk B g W) (h1 : Kr g W W1) (hW : W1.heap.size = W.heap.size + 1) (hrow : rowB g W1 = rowB g W) (hb : b = W.heap.size) (hk : Kr g W1 W') {i : Nat} {v : Value} (hc : W1.cell? ⟨b, i, none⟩ = some v) : W'.cell? ⟨b, i, none⟩ = some v :=
  hk.cell (by have := h.2.1; omega) (by have := h.2.1; omega) (fun e => by rw [hrow] at e; have := (h.2.2 b e.symm).2; omega) hc
/-- A round of yield, as 'each' meets it. -/
def Yr (F : Fence) (l g N : Nat) (J Jx : List (Int × Int) → World → Prop) : Prop := ∀ m pre (x : Int × Int) W, J pre W → pre.length < N → YieldAt F m Tryd.prog l #[.agg #[.int .i64 x.1, .int .i64 x.2]] W fun e W' =>
  (e = .returned (.bool true) ∧ J (pre ++ [x]) W' ∧ Kr g W W') ∨ (e = .returned (.bool false) ∧ Jx (pre ++ [x]) W')
set_option maxHeartbeats 2000000 in
set_option maxRecDepth 100000 in
theorem eachR_in (F : Fence) (hd : F.depth = none) (hf : F.fn 57) (hro : F.round = none) (l g B B0 N : Nat) (J Jx : List (Int × Int) → World → Prop) (hJ : AbidesFrom B0 J) (hY : Yr F l g N J Jx) :
    ∀ (d : Nat) (c : Value × Value × Value) (s : Sh) (n : Nat) (pre : List (Int × Int)) (W : World), ShB B W d c s → J pre W → RowOk B g W → pre.length + s.flat.length ≤ N →
      CallsIn F n Tryd.prog 57 #[.agg #[c.1, c.2.1, c.2.2], .func (.yield l) #[] #[]] W fun e W' =>
        (e = .returned (.bool true) ∧ J (pre ++ s.flat) W' ∧ Kr g W W') ∨ (e = .returned (.bool false) ∧ ∃ q, q <+: s.flat ∧ Jx (pre ++ q) W') := by
  intro d
  induction d with
  | zero => intro c s n pre W h; exact h.elim
  | succ d ih =>
    intro c s n pre W hs hJ0 hk hN
    have hdd : ∀ k : Nat, (F.depth.isSome = true → 1 ≤ k) := fun k h => by rw [hd] at h; cases h
    obtain ⟨kind, pts, ps'⟩ := s
    obtain ⟨c1, xy, ps⟩ := c
    obtain ⟨h1, h2, cs, h3, ⟨a2, cap2, hps, hcQ, hmQ, hQ⟩, h5⟩ := hs
    obtain ⟨a1, cap1, hxy, hcP, hmP, hP⟩ := h2
    dsimp only at h1 hxy hps
    subst h1
    subst hxy hps
    have hfl : (Sh.mk kind pts ps').flat = pts ++ flats ps' := by unfold Sh.flat; rfl
    rw [hfl] at hN ⊢
    rw [List.length_append] at hN
    have HCL := Lib.hid h3
    have HH5 := Lib.hid h5
    have HN := Lib.hid hN
    clear h3 h5 hfl hcP hcQ hN
    have A := Blk.new W #[.int .i64 kind, .slice a1 pts.length cap1, .slice a2 cs.length cap2] 25
    have hJ1 := hJ pre W _ none hJ0 (World.grownBy_alloc W (.cells #[.int .i64 kind, .slice a1 pts.length cap1, .slice a2 cs.length cap2] 25) none) (fun r e => by cases e)
    have hK1 : Kr g W _ := Kr.alloc W (.cells #[.int .i64 kind, .slice a1 pts.length cap1, .slice a2 cs.length cap2] 25)
    have hOwn : ∀ (W' : World) (i : Nat) (v : Value), Kr g (W.alloc (.cells #[.int .i64 kind, .slice a1 pts.length cap1, .slice a2 cs.length cap2] 25)) W' → (W.alloc (.cells #[.int .i64 kind, .slice a1 pts.length cap1, .slice a2 cs.length cap2] 25)).cell? ⟨W.heap.size, i, none⟩ = some v → W'.cell? ⟨W.heap.size, i, none⟩ = some v :=
      fun W' i v hkr hc => RowOk.own hk hK1 (by simp) (by unfold rowB; rw [((Bel.refl W).alloc (Nat.le_refl _) _).cell (p := ⟨g, 0, none⟩) hk.2.1]) rfl hkr hc
    refine callsIn_of_wp Tryd.func57 rfl hf ?_ hro
    simp only [Tryd.ntmps57, List.size_toArray, List.length_cons, List.length_nil, Nat.reduceAdd, Nat.reduceSub, Array.replicate_succ, Array.replicate_zero, List.push_toArray, List.append_toArray, List.nil_append, List.cons_append]
    gi_upto_region 1 with (fail)
    obtain ⟨W1, hW⟩ : ∃ X, W.alloc (.cells #[.int .i64 kind, .slice a1 pts.length cap1, .slice a2 cs.length cap2] 25) = X := ⟨_, rfl⟩
    rw [hW] at A hJ1 hK1 hOwn ⊢
    clear hW
    have hOwn := Lib.hid hOwn
    obtain ⟨a0, b1, b2⟩ := Blk.cells3 A
    have hk1 := RowOk.kr hk hK1
    have hFT := fun k => flats_take_le ps' k
    gi_wp2_with (fail)
    gi_loopw [12] (fun iv wr => ∃ i : Nat, i ≤ pts.length ∧ iv = .int .i64 i ∧ J (pre ++ pts.take i) wr ∧ Kr g W1 wr) (fun iv _ => pts.length - (intOf iv).toNat)
    case atStart => exact ⟨0, Nat.zero_le _, rfl, by simpa using hJ1, Kr.refl _ _⟩
    case round =>
      obtain ⟨i, hi, rfl, hJr, hKr⟩ := hrel
      have hbr := RowOk.keepB hk (hK1.trans hKr)
      by_cases hlt : i < pts.length
      · obtain ⟨b, off, rfl, hbk, hc0, hc1⟩ := hP i hlt
        have hc0r := hbr.cell hbk hc0
        have hc1r := hbr.cell hbk hc1
        obtain ⟨x, hx⟩ : ∃ x, pts[i]'hlt = x := ⟨_, rfl⟩
        rw [hx] at hc0r hc1r
        have hltz : (i : Int) < pts.length := by omega
        have hwz : wrap64 ((i : Int) + 1) = i + 1 := Go.IntWalk.wrap64_in _ (by omega)
        have htk : pts.take (i + 1) = pts.take i ++ [x] := by rw [List.take_add_one, List.getElem?_eq_getElem hlt, hx]; rfl
        have hJa := hJ _ wr _ none hJr (World.grownBy_alloc wr (.cells #[.int .i64 x.1, .int .i64 x.2] 41) none) (fun r e => by cases e)
        have hlN : (pre ++ pts.take i).length < N := by rw [List.length_append, List.length_take, Nat.min_eq_left (Nat.le_of_lt hlt)]; have := HN.out; omega
        obtain ⟨fn, tmps, assign, body, hy, hR⟩ := hY (n - 1) _ x _ hJa hlN
        clear hlN
        gi_wp2_with (fail)
        refine hR.mono ?_
        rintro e W3 (⟨rfl, hJ3, hk3⟩ | ⟨rfl, hx3⟩)
        · have hK3 : Kr g W1 W3 := (hKr.trans (Kr.alloc wr _)).trans hk3
          rw [List.append_assoc, ← htk] at hJ3
          gi_wp2_with (fail)
          go_roundw
          case rel => exact ⟨i + 1, hlt, by go_num, hJ3, hK3⟩
          case measure => (simp [intOf]; omega)
        · rw [List.append_assoc, ← htk] at hx3
          gi_wp2_with (fail)
          go_ret
          exact .inr ⟨by simp, pts.take (i + 1), (List.take_prefix _ _).trans (List.prefix_append _ _), hx3⟩
      · have hii : i = pts.length := by omega
        have b2r := hOwn.out _ _ _ hKr b2
        subst hii
        have hltf : decide ((pts.length : Int) < pts.length) = false := decide_eq_false (by omega)
        rw [List.take_length] at hJr
        gi_wp2_with (fail)
        gi_loopw [24] (fun iv wr => ∃ j : Nat, j ≤ cs.length ∧ iv = .int .i64 j ∧ J (pre ++ pts ++ flats (ps'.take j)) wr ∧ Kr g W1 wr) (fun iv _ => cs.length - (intOf iv).toNat)
        case atStart => exact ⟨0, Nat.zero_le _, rfl, by simpa [flats] using hJr, hKr⟩
        case round =>
          clear hJr hKr b2r hltf hlt hbr
          obtain ⟨j, hj, rfl, hJr, hKr⟩ := hrel
          have hbr := RowOk.keepB hk (hK1.trans hKr)
          by_cases hlt : j < cs.length
          · obtain ⟨b, off, rfl, hbk, hc0, hc1, hc2⟩ := hQ j hlt
            have hpj : j < ps'.length := by have := HCL.out; omega
            have hc0r := hbr.cell hbk hc0
            have hc1r := hbr.cell hbk hc1
            have hc2r := hbr.cell hbk hc2
            have hsp := HH5.out j cs[j] ps'[j] (List.getElem?_eq_getElem hlt) (List.getElem?_eq_getElem hpj)
            have htk := flats_take hpj
            have hfle := hFT (j + 1)
            obtain ⟨q, hq⟩ : ∃ x, cs[j]'hlt = x := ⟨_, rfl⟩
            obtain ⟨po, hpo⟩ : ∃ x, ps'[j]'hpj = x := ⟨_, rfl⟩
            rw [hq] at hc0r hc1r hc2r hsp
            rw [hpo] at hsp htk
            have hltz : (j : Int) < cs.length := by omega
            have hwz : wrap64 ((j : Int) + 1) = j + 1 := Go.IntWalk.wrap64_in _ (by omega)
            obtain ⟨kd, e1, e2, e3, e4, e5, e6, hq'⟩ := hsp.forms
            subst hq'
            dsimp only at hc0r hc1r hc2r
            have hJa := hJ _ wr _ none hJr (World.grownBy_alloc wr (.cells #[.int .i64 kd, .slice e1 e2 e3, .slice e4 e5 e6] 25) none) (fun r e => by cases e)
            have hKa : Kr g W (wr.alloc (.cells #[.int .i64 kd, .slice e1 e2 e3, .slice e4 e5 e6] 25)) := (hK1.trans hKr).trans (Kr.alloc wr _)
            have hNN : (pre ++ pts ++ flats (ps'.take j)).length + po.flat.length ≤ N := by
              rw [htk, List.length_append] at hfle
              have hN := HN.out
              simp only [List.length_append] at hN ⊢
              omega
            have hcall := ih _ po (n - 1) _ _ (hsp.keep (RowOk.keepB hk hKa)) hJa (RowOk.kr hk hKa) hNN
            have HTK := Lib.hid htk
            clear hq hpo htk hfle hNN
            gi_wp2_with (fail)
            refine hcall.mono ?_
            rintro e W3 (⟨rfl, hJ3, hk3⟩ | ⟨rfl, q', hq', hx3⟩)
            · have hK3 : Kr g W1 W3 := (hKr.trans (Kr.alloc wr _)).trans hk3
              rw [List.append_assoc, ← HTK.out] at hJ3
              gi_wp2_with (fail)
              go_roundw
              case rel => exact ⟨j + 1, hlt, by go_num, hJ3, hK3⟩
              case measure => (simp [intOf]; omega)
            · rw [List.append_assoc, List.append_assoc] at hx3
              gi_wp2_with (fail)
              go_ret
              refine .inr ⟨by simp, pts ++ (flats (ps'.take j) ++ q'), ?_, hx3⟩
              refine (List.prefix_append_right_inj _).2 ?_
              have h6 : flats ps' = flats (ps'.take (j + 1)) ++ flats (ps'.drop (j + 1)) := by
                rw [← flats_append, List.take_append_drop]
              rw [h6, HTK.out, List.append_assoc]
              exact (List.prefix_append_right_inj _).2 (hq'.trans (List.prefix_append _ _))
          · have hjj : j = cs.length := by omega
            subst hjj
            have hltf : decide ((cs.length : Int) < cs.length) = false := decide_eq_false (by omega)
            rw [HCL.out, List.take_length] at hJr
            gi_wp2_with (fail)
            go_ret
            exact .inl ⟨by simp, by rw [← List.append_assoc]; exact hJr, hK1.trans hKr⟩
set_option maxHeartbeats 1000000 in
set_option maxRecDepth 100000 in
/-- What shape.All hands back, ranged over: the shape's points, in order; a row may grow. -/
theorem seqR_stops (F : Fence) (hd : F.depth = none) (n : Nat) (h97 : F.fn 56) (h98 : F.fn 57) (hro : F.round = none) (b B g d : Nat) (c : Value × Value × Value) (s : Sh) (w : World)
    (hB : Blk w b #[c.1, c.2.1, c.2.2] 25) (hk : RowOk B g w) (hs : ShB B w d c s) :
    SeqStopsK F n Tryd.prog 56 #[.pointer (some ⟨b, 0, none⟩)] (fun x : Int × Int => #[Value.agg #[.int .i64 x.1, .int .i64 x.2]]) (Kr g) (fun ys => ys = s.flat) (fun pre => pre <+: s.flat) s.flat.length w := fun l J Jx W hW hJ hJx hY h0 => by
  have hdd : ∀ k : Nat, (F.depth.isSome = true → 1 ≤ k) := fun k h => by rw [hd] at h; cases h
  have hs' := hs.keep (RowOk.keepB hk (Kr.bel hW))
  obtain ⟨kd, e1, e2, e3, e4, e5, e6, rfl⟩ := hs.forms
  have hB' := Blk.bel hB hW
  dsimp only at hB'
  obtain ⟨b0, b1, b2⟩ := Blk.cells3 hB'
  have hp := eachR_in F hd h98 hro l g B W.heap.size s.flat.length J Jx hJ (fun m pre x W1 hj hl => yield_anyDepth hd m (hY pre x W1 hj hl)) d _ s (n - 1) [] W hs' h0 (RowOk.kr hk (Kr.bel hW)) (by simp)
  dsimp only at hp
  refine callsIn_of_wp Tryd.func56 rfl h97 ?_ hro
  simp only [Tryd.ntmps56, List.size_toArray, List.length_cons, List.length_nil, Nat.reduceAdd, Nat.reduceSub, Array.replicate_succ, Array.replicate_zero, List.push_toArray, List.append_toArray, List.nil_append, List.cons_append]
  gi_wp2_with ((try refine ⟨hdd _, ?_⟩); gi_at_call 57; refine hp.mono ?_; clear hp; rintro e W1 (⟨rfl, hJ1, _⟩ | ⟨rfl, q, hq, hx⟩))
  · go_end0
    exact ⟨⟨_, rfl⟩, .inl ⟨_, rfl, by simpa using hJ1⟩⟩
  · go_end0
    exact ⟨⟨_, rfl⟩, .inr ⟨q, hq, by simpa using hx⟩⟩

end Go.Proofs.YtfknhpgelleenaaDoor.K
