/- What a claim leans on, part 14, cut by a program out of the texts WPts. -/
import Derived.Handy
import Derived.Test.YtfknhpgelleenaaDoorZB3
import Derived.Test.YtfknhpgelleenaaDoorZB4
import Derived.Test.YtfknhpgelleenaaDoorZB12
section
namespace Go.Proofs.YtfknhpgelleenaaDoor.K
open Go Go.RowKit Go.Proofs.YtfknhpgelleenaaDoorW.PrintWords Go.Proofs.YtfknhpgelleenaaDoorW.PrintLast Go.Proofs.YtfknhpgelleenaaDoorW.PrintMore
set_option linter.unusedVariables false
set_option linter.unusedSimpArgs false
open Go.Proofs.YtfknhpgelleenaaDoor.MShape (Sh flats)
abbrev KPt : Kd (Int × Int) := Kd.pair (Kd.int .i64) (Kd.int .i64)
/-- A row of points that a call which began in w0 has made. -/
def RPt (w0 w : World) (v : Value) (l : List (Int × Int)) : Prop := Kd.R KPt 41 w w0.heap.size (fun _ => True) v l
/-- A row of points that is read. -/
def CPt (w : World) (A : Option Addr) (l : List (Int × Int)) : Prop := Kd.C KPt w A l.length l
theorem infoPt : (Tryd.prog.info? 41).map (fun i => (i.zero, i.size, i.bytes)) = some (some (.agg #[.int .i64 0, .int .i64 0]), 2, 16) := by kernel_rfl
theorem RPt.nil (w0 w : World) : RPt w0 w (.slice none 0 0) [] := Kd.R_nil _ _ _ _ _
theorem RPt.below {w0 w w1 : World} {v : Value} {l : List (Int × Int)} (h : RPt w0 w v l) (hb : Below w.heap.size w w1) : RPt w0 w1 v l := Kd.R_below h hb
theorem RPt.lower {w0 w w1 : World} {v : Value} {l : List (Int × Int)} (h : RPt w w1 v l) (hb : w0.heap.size ≤ w.heap.size) : RPt w0 w1 v l := Kd.R_lower h hb
theorem RPt.reads {w0 w : World} {v : Value} {l : List (Int × Int)} (h : RPt w0 w v l) : ∃ A c, v = .slice A l.length c ∧ l.length ≤ c ∧ CPt w A l := Kd.R_reads h
theorem CPt.below {w w1 : World} {A : Option Addr} {l : List (Int × Int)} (h : CPt w A l) (hb : Below w.heap.size w w1) : CPt w1 A l := Kd.C_below h hb
theorem CPt.nil (w : World) : CPt w none [] := Kd.C_nil _ _
theorem CPt.pts {w : World} {A : Option Addr} {l : List (Int × Int)} {c : Nat} (h : CPt w A l) (hc : l.length ≤ c) : PtsB w.heap.size w (.slice A l.length c) l := ptsB_of hc h.2.1 h
theorem RPt.lit0 {w0 W : World} (hb : w0.heap.size ≤ W.heap.size) : RPt w0 (W.alloc (.cells #[] 41)) (.slice (some ⟨W.heap.size, 0, none⟩) 0 0) [] :=
  ⟨fun _ _ => trivial, [], ⟨by simp, .inr ⟨W.heap.size, 0, #[], rfl, hb, heap_alloc_new W _, Nat.le_refl _, by simp [maxLen], by simp, by simp⟩⟩, Reps.none _ _⟩
theorem PtsB.cpt {B : Nat} {W : World} {a : Option Addr} {n cap : Nat} {pts : List (Int × Int)} (h : PtsB B W (.slice a n cap) pts) : n = pts.length ∧ n ≤ cap ∧ CPt W a pts := by
  obtain ⟨a', cap', e, hc, hm, hx⟩ := h
  injection e with e1 e2 e3
  subst e1 e2 e3
  refine ⟨rfl, hc, rfl, hm, fun h0 => ?_⟩
  obtain ⟨b, off, rfl, _, _, _⟩ := hx 0 h0
  refine ⟨⟨b, off, none⟩, rfl, fun j p hj => ?_⟩
  obtain ⟨hlt, rfl⟩ := List.getElem?_eq_some_iff.1 hj
  obtain ⟨b', off', e', _, h1, h2⟩ := hx j hlt
  obtain ⟨rfl, rfl⟩ : b = b' ∧ off = off' := by simpa using e'
  refine ⟨[.int .i64 pts[j].1, .int .i64 pts[j].2], rfl, ⟨[_], [_], rfl, rfl, rfl⟩, fun i u hu => ?_⟩
  rw [add_mid]
  match i, hu with
  | 0, hu => obtain rfl : Value.int .i64 pts[j].1 = u := by simpa using hu
             exact h1
  | 1, hu => obtain rfl : Value.int .i64 pts[j].2 = u := by simpa using hu
             exact h2
section
variable {ops : Array Oper} {rest : List Oper} {o : Oper} {a : Act} {Q : Exit → Act → World → Prop}
/-- append(points, points...) -/
theorem appPts {w0 W : World} (s x : Operand) (hgd : o.guard = none) (ho : o.op = .call { callee := .builtin .append, args := #[s, x], argTypes := #[22, 22] })
    (v : Value) (xs ys : List (Int × Int)) (A : Option Addr) (c : Nat) (hs : a.eval s = v) (hx : a.eval x = .slice A ys.length c)
    (HO : RPt w0 W v xs) (HR : CPt W A ys) (HB : Below w0.heap.size w0 W) (hl : xs.length + ys.length < 100000000)
    (h : ∀ v1 w1, Hid (RPt w0 w1 v1 (xs ++ ys)) → Hid (Below w0.heap.size w0 w1 ∧ W.grownBy w1 v.ownBlock) → wpList Tryd.prog ops Q rest (a.put o.dst v1) w1) :
    wpList Tryd.prog ops Q (o :: rest) a W :=
  Kd.R_append_rows KPt (w0 := w0) w0.heap.size hgd s x 22 41 (.agg #[.int .i64 0, .int .i64 0]) 16 ho Tryd.underlying22 infoPt rfl (by decide) (by omega) v xs ys A ys.length c (fun _ => True) (fun _ => False) hs hx HO HR
    (fun x cs hk => by obtain ⟨c0, c1, e, h0, h1⟩ := hk; exact ⟨c0, c1, e, h0, h1⟩) (fun _ hk => hk.elim) (fun _ _ => trivial) HB HB.size (by omega) (fun v1 w1 ho hb hg hat => h v1 w1 ho ⟨hb, hg⟩)
end
theorem flats_append (l m : List Sh) : flats (l ++ m) = flats l ++ flats m := by
  induction l with
  | nil => simp [flats]
  | cons a l ih => simp [flats, ih, List.append_assoc]
theorem flats_take {l : List Sh} {k : Nat} (h : k < l.length) : flats (l.take (k + 1)) = flats (l.take k) ++ l[k].flat := by
  rw [List.take_succ_eq_append_getElem h, flats_append]; simp [flats]
theorem flats_take_le (l : List Sh) (k : Nat) : (flats (l.take k)).length ≤ (flats l).length := by
  have := congrArg List.length (flats_append (l.take k) (l.drop k))
  rw [List.take_append_drop, List.length_append] at this
  omega
theorem flat_le {l : List Sh} {k : Nat} (h : k < l.length) : l[k].flat.length ≤ (flats l).length := by
  have h1 := flats_take_le l (k + 1)
  rw [flats_take h, List.length_append] at h1
  omega
set_option maxHeartbeats 2000000 in
set_option maxRecDepth 100000 in
theorem rAll_calls : ∀ (D : Nat) (s : Sh) (c : Value × Value × Value) (w : World) (B : Nat), B ≤ w.heap.size → ShB B w D c s → s.flat.length < 1000000 →
    Calls Tryd.prog 29 #[.agg #[c.1, c.2.1, c.2.2]] w fun e w' => ∃ v, e = .returned v ∧ RPt w w' v s.flat ∧ Bel w w' := by
  intro D
  induction D with
  | zero => intro s c w B _ h; exact h.elim
  | succ D ih =>
    intro s c w B hB hs hlen
    have IH := Lib.hid ih
    clear ih
    obtain ⟨kind, pts, ps⟩ := s
    obtain ⟨e0, hpts, cs, hcs, ⟨a2, c2, e2, hc2, hm2, hx2⟩, hsub⟩ := hs
    have hpts' := hpts
    obtain ⟨a1, c1, e1, hc1, hm1, -⟩ := hpts
    obtain ⟨v0, v1, v2⟩ := c
    simp only at e0 e1 e2 hpts'
    subst e0 e1 e2
    dsimp only
    have HX := Lib.hid hx2
    have HSUB := Lib.hid hsub
    have HCS := Lib.hid hcs
    have HPT := Lib.hid hpts'
    have hfl : (Sh.mk kind pts ps).flat = pts ++ flats ps := by unfold Sh.flat; rfl
    rw [hfl] at hlen ⊢
    rw [List.length_append] at hlen
    clear hx2 hsub hcs hpts' hfl
    have HFT := Lib.hid (fun k => flats_take_le ps k)
    have S := Blk.new w #[.int .i64 kind, .slice a1 pts.length c1, .slice a2 cs.length c2] 25
    have HB : Hid (Below w.heap.size w (w.alloc (.cells #[.int .i64 kind, .slice a1 pts.length c1, .slice a2 cs.length c2] 25))) := Lib.hid (by repeat (first | exact Below.refl _ _ | refine Below.alloc ?_ (by simp <;> omega) _))
    go_enter Tryd.func29, Tryd.ntmps29
    go_upto_region 1 with (fail)
    obtain ⟨W, hW⟩ : ∃ X, w.alloc (.cells #[.int .i64 kind, .slice a1 pts.length c1, .slice a2 cs.length c2] 25) = X := ⟨_, rfl⟩
    rw [hW] at S HB ⊢
    clear hW
    obtain ⟨s0, s1, s2⟩ := Blk.cells3 S
    have hgw := Blk.lt S
    have HR0 : Hid (RPt w (W.alloc (.cells #[] 41)) (.slice (some ⟨W.heap.size, 0, none⟩) 0 0) []) := Lib.hid (RPt.lit0 HB.out.size)
    have HB0 : Hid (Below w.heap.size w (W.alloc (.cells #[] 41))) := Lib.hid (HB.out.alloc HB.out.size _)
    have HC0 : Hid (CPt (W.alloc (.cells #[] 41)) a1 pts) := Lib.hid (HPT.out.cpt.2.2.below HB0.out)
    have S0 := Blk.alloc S (.cells #[] 41)
    have HL0 : Hid (([] : List (Int × Int)).length + pts.length < 100000000) := Lib.hid (by simp; omega)
    have hne0 : some w.heap.size ≠ (Value.slice (some ⟨W.heap.size, 0, none⟩) 0 0).ownBlock := by simp [Value.ownBlock]; omega
    go_upto_region 2 with (at_builtin; refine appPts (w0 := w) (.tmp 6) (.tmp 8) rfl rfl (.slice (some ⟨W.heap.size, 0, none⟩) 0 0) [] pts a1 c1 rfl rfl HR0.out HC0.out HB0.out HL0.out ?_; intro y1 w1 HR1 HB1; have S1 := (HB1.out.2.block _ S0.lt hne0).trans S0)
    have S1 : Blk w1 w.heap.size #[.int .i64 kind, .slice a1 pts.length c1, .slice a2 cs.length c2] 25 := S1
    have HB2 := Lib.hid HB1.out.1
    have HR2 : Hid (RPt w w1 y1 pts) := Lib.hid (by have := HR1.out; rwa [List.nil_append] at this)
    clear S S0 HR0 HB0 HC0 HR1 HB1 HB s0 s1 s2
    obtain ⟨s0, s1, s2⟩ := Blk.cells3 S1
    have hw1 := HB2.out.size
    have hcl : ps.length = cs.length := HCS.out.symm
    have HPL := Lib.hid hcl
    clear hcl hw1
    go_wp2_with fail
    go_loopw [3, 13] (fun v i wr => ∃ (k : Nat), i = .int .i64 k ∧ k ≤ cs.length ∧ Hid (Below w.heap.size w wr) ∧ Hid (RPt w wr v (pts ++ flats (ps.take k)))) (fun _ i _ => cs.length - (intOf i).toNat)
    case atStart => exact ⟨0, rfl, by omega, HB2, Lib.hid (by rw [List.take_zero]; simpa [flats] using HR2.out)⟩
    case round =>
      obtain ⟨k, rfl, hk, HBk, HRk⟩ := hrel
      clear s0 s1 s2 S1
      by_cases hlt : k < cs.length
      · obtain ⟨b, off, rfl, hbB, x0, x1, x2⟩ := HX.out k hlt
        have hpk : k < ps.length := by have := HPL.out; omega
        have KB : KeepB B w wr := fun j hj cs t r hc => (HBk.out.block j (by omega)).trans hc
        have x0 := KB.cell hbB x0
        have x1 := KB.cell hbB x1
        have x2 := KB.cell hbB x2
        have hsh := (HSUB.out k cs[k] ps[k] (List.getElem?_eq_getElem hlt) (List.getElem?_eq_getElem hpk)).keep KB
        have HTK := Lib.hid (flats_take hpk)
        have hfle := flat_le hpk
        have hft := HFT.out k
        obtain ⟨xk, hxk⟩ : ∃ x, cs[k] = x := ⟨_, rfl⟩
        obtain ⟨pk, hpk2⟩ : ∃ x, ps[k] = x := ⟨_, rfl⟩
        rw [hxk] at x0 x1 x2 hsh
        rw [hpk2] at hsh HTK hfle
        obtain ⟨kind', ab, n1, cb, ac, n2, cc, rfl⟩ := hsh.forms
        dsimp only at x0 x1 x2
        have HLk : Hid ((pts ++ flats (ps.take k)).length + pk.flat.length < 100000000) := Lib.hid (by rw [List.length_append]; omega)
        have HLp : Hid (pk.flat.length < 1000000) := Lib.hid (by omega)
        have HSH := Lib.hid hsh
        clear hxk hpk2 hsh KB hpk hfle hft
        have P := Blk.new wr #[.int .i64 kind', .slice ab n1 cb, .slice ac n2 cc] 25
        have HB5 : Hid (Bel wr (wr.alloc (.cells #[.int .i64 kind', .slice ab n1 cb, .slice ac n2 cc] 25))) := Lib.hid ((Bel.refl wr).alloc (Nat.le_refl _) _)
        go_upto_region 5 with (fail)
        obtain ⟨w5, hW⟩ : ∃ X, wr.alloc (.cells #[.int .i64 kind', .slice ab n1 cb, .slice ac n2 cc] 25) = X := ⟨_, rfl⟩
        rw [hW] at P HB5 ⊢
        obtain ⟨gp, hg⟩ : ∃ g, wr.heap.size = g := ⟨_, rfl⟩
        rw [hg] at P ⊢
        clear hW hg x0 x1 x2
        obtain ⟨p0, p1, p2⟩ := Blk.cells3 P
        have hsz5 : B ≤ w5.heap.size := by have := HB5.out.size; have := HBk.out.size; omega
        obtain ⟨L0, hL0⟩ : ∃ l, pts ++ flats (ps.take k) = l := ⟨_, rfl⟩
        obtain ⟨Lp, hLp⟩ : ∃ l, pk.flat = l := ⟨_, rfl⟩
        have HCALL := IH.out pk _ w5 B hsz5 (HSH.out.keep (KeepB.bel HB5.out)) HLp.out
        have HRES : Hid (pts ++ flats (ps.take (k + 1)) = L0 ++ Lp) := Lib.hid (by rw [HTK.out, ← List.append_assoc, hL0, hLp])
        rw [hLp] at HCALL HLk
        rw [hL0] at HLk HRk
        have HCALL := Lib.hid HCALL
        clear hL0 hLp
        go_wp2_with (first
          | (at_builtin; refine appPts (w0 := w) (.tmp 17) (.tmp 19) rfl rfl u3 L0 Lp A7 c7 rfl rfl HR7.out HC7.out HB7.out HLk.out ?_; intro y8 w8 HR8 HB8)
          | (go_at_call 29; refine (HCALL.out).mono ?_; rintro e w7 ⟨v7, rfl, hr7, hb7⟩; obtain ⟨A7, c7, rfl, hc7, hC7⟩ := hr7.reads; have HC7 := Lib.hid hC7; have hb8 := bthen HB5.out hb7; have HB7 := Lib.hid (bthen HBk.out hb8); have HR7 := Lib.hid (HRk.out.below hb8); clear hr7 hC7 hb7 hb8))
        go_roundw
        case rel => exact ⟨k + 1, by go_num, by omega, Lib.hid HB8.out.1, Lib.hid (by rw [HRES.out]; exact HR8.out)⟩
        case measure => (simp [intOf] <;> omega)
      · have : k = cs.length := by omega
        subst this
        have HF6 : Hid (ps.take cs.length = ps) := Lib.hid (by rw [← HPL.out]; exact List.take_length)
        clear hlt hk
        go_wp2
        go_ret
        exact ⟨_, rfl, by have := HRk.out; rwa [HF6.out] at this, HBk.out⟩
end Go.Proofs.YtfknhpgelleenaaDoor.K
end
