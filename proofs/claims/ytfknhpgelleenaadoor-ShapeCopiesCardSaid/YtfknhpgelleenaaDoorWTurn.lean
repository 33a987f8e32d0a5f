/- slices.Clone of points; the first point of a shape of one's own written over. -/
import Derived.Test.YtfknhpgelleenaaDoorKB
import Derived.Handy
import Derived.Test.YtfknhpgelleenaaDoorKM
import Derived.Test.YtfknhpgelleenaaDoorWShp
import Derived.Test.YtfknhpgelleenaaDoorWPts
import Derived.Test.YtfknhpgelleenaaDoorWShW
import Derived.IntWalk
namespace Go.Proofs.YtfknhpgelleenaaDoor.K
open Go Go.RowKit Go.Proofs.YtfknhpgelleenaaDoorW.PrintWords Go.Proofs.YtfknhpgelleenaaDoorW.PrintLast Go.Proofs.YtfknhpgelleenaaDoorW.PrintMore
set_option linter.unusedVariables false
set_option linter.unusedSimpArgs false
open Go.Proofs.YtfknhpgelleenaaDoor.MShape (Sh flats)
theorem clonePts_calls (A : Option Addr) (c : Nat) (l : List (Int × Int)) (w : World) (h : CPt w A l) (hc : l.length ≤ c) (hl : l.length < 1000000) :
    Calls Tryd.prog 60 #[.slice A l.length c] w fun e w' => ∃ v, e = .returned v ∧ RPt w w' v l ∧ Below w.heap.size w w' := by
  have qT : ∀ (w : World) (a : Option Addr) (n c n' c' : Nat), (binOp .eql 22 (.slice a n c) (.slice none n' c')).run Tryd.prog w = .ok (.bool a.isNone) w := fun w a n c n' c' => Lib.run_eql_slice_nil w _ _ a n c n' c' Tryd.underlying22
  cases A with
  | none =>
    obtain rfl : l = [] := by
      cases l with
      | nil => rfl
      | cons a l =>
        obtain ⟨_, hh, _⟩ := h.2.2 (by simp)
        cases hh
    clear h
    go_enter Tryd.func60, Tryd.ntmps60
    go_wp2
    go_ret
    exact ⟨_, rfl, RPt.nil _ _, Below.refl _ _⟩
  | some a =>
    have H := Lib.hid h
    clear h
    go_enter Tryd.func60, Tryd.ntmps60
    go_wp2_with (at_builtin; refine appPts (w0 := w) _ _ rfl rfl _ [] l (some a) c rfl rfl (RPt.lit0 (Nat.le_refl _)) (H.out.below ((Below.refl _ _).alloc (Nat.le_refl _) _)) ((Below.refl _ _).alloc (Nat.le_refl _) _) (by simp; omega) ?_; intro v1 w1 HO HB)
    go_ret
    exact ⟨_, rfl, HO.out, HB.out.1⟩
def Has (l : List (Int × Int)) : Prop := l ≠ []
/-- Which blocks may have turned. -/
def Turned (base : Nat) (ok : Nat → Prop) (W W' : World) : Prop := Below base W W' ∧ ∀ j, j < W.heap.size → ¬ (ok j ∧ base ≤ j) → W'.heap[j]? = W.heap[j]?
theorem Turned.bel {base : Nat} {ok : Nat → Prop} {W W' : World} (hb : base ≤ W.heap.size) (h : Bel W W') : Turned base ok W W' := ⟨h.mono hb, fun j hj _ => h.block j hj⟩
theorem Turned.trans {base : Nat} {ok : Nat → Prop} {A B C : World} (h : Turned base ok A B) (h' : Turned base ok B C) : Turned base ok A C :=
  ⟨h.1.trans h'.1, fun j hj hn => (h'.2 j (Nat.lt_of_lt_of_le hj h.1.size) hn).trans (h.2 j hj hn)⟩
theorem MW.bel {W W' : World} {base : Nat} {ok : Nat → Prop} {d : Nat} {s : Sh} {cs : List Value} (h : MW d W base ok s cs) (hb : Bel W W') : MW d W' base ok s cs :=
  (h.bound.move (fun k hk => hb.block k hk.2.2.1)).mono (fun _ hk => hk.1)
set_option maxHeartbeats 2000000 in
set_option maxRecDepth 100000 in
/-- The first point of a shape of one's own is written over; was there one? -/
theorem turn_calls : ∀ (D : Nat) (s : Sh) (cs : List Value) (W : World) (base : Nat) (ok : Nat → Prop) (x y dp : Int), MW D W base ok s cs → base ≤ W.heap.size → 0 ≤ dp → dp ≤ 21 →
    Calls Tryd.prog 34 #[.agg cs.toArray, .agg #[.int .i64 x, .int .i64 y], .int .i64 dp] W fun e w' => (e = .returned (.bool false) ∧ Bel W w') ∨ (e = .returned (.bool true) ∧ Hid (Has s.flat ∧ Turned base ok W w')) := by
  intro D
  induction D with
  | zero => intro s cs W base ok x y dp h; exact h.elim
  | succ D ih =>
    intro s cs W base ok x y dp hs hbase hd0 hd1
    have IH := Lib.hid ih
    clear ih
    obtain ⟨kind, pts, ps⟩ := s
    obtain ⟨v1, v2, rfl, h1, h2, h3⟩ := hs
    obtain ⟨A', cp', hv2, hc2, hC'⟩ := OwnRow.reads h3
    have hfl : (Sh.mk kind pts ps).flat = pts ++ flats ps := by unfold Sh.flat; rfl
    rw [hfl]
    clear hfl
    have hR1 := Lib.hid h1
    obtain ⟨A, cp, hv1, hc1, hC⟩ := Kd.R_reads h1
    subst hv1 hv2
    have HC2 := Lib.hid hC'
    have HBS := Lib.hid hbase
    clear h1 h2 h3 hC hC' hbase hc1 hc2
    have S := (Blk.new W #[.int .i64 kind, .slice A pts.length cp, .slice A' ps.length cp'] 25).alloc (.cells #[.int .i64 x, .int .i64 y] 41)
    have T := Blk.new_at (W := W.alloc (.cells #[.int .i64 kind, .slice A pts.length cp, .slice A' ps.length cp'] 25)) (g := W.heap.size + 1) (by simp) #[.int .i64 x, .int .i64 y] 41
    have HB : Hid (Below W.heap.size W ((W.alloc (.cells #[.int .i64 kind, .slice A pts.length cp, .slice A' ps.length cp'] 25)).alloc (.cells #[.int .i64 x, .int .i64 y] 41))) := Lib.hid (by repeat (first | exact Below.refl _ _ | refine Below.alloc ?_ (by simp <;> omega) _))
    go_enter Tryd.func34, Tryd.ntmps34
    go_upto_region 1 with (fail)
    obtain ⟨W1, hW⟩ : ∃ X, (W.alloc (.cells #[.int .i64 kind, .slice A pts.length cp, .slice A' ps.length cp'] 25)).alloc (.cells #[.int .i64 x, .int .i64 y] 41) = X := ⟨_, rfl⟩
    rw [hW] at S T HB ⊢
    clear hW
    by_cases hdp : 20 < dp
    · go_wp2
      go_ret
      exact .inl ⟨by first | rfl | simp, HB.out⟩
    obtain ⟨s0, s1, s2⟩ := Blk.cells3 S
    have t0 : W1.cell? ⟨W.heap.size + 1, 0, none⟩ = some (.int .i64 x) := Blk.cell T 0 rfl
    have t1 : W1.cell? ⟨W.heap.size + 1, 1, none⟩ = some (.int .i64 y) := Blk.cell T 1 rfl
    by_cases hp : 0 < pts.length
    · obtain ⟨hok, inner, ⟨_, hown⟩, -⟩ := hR1.out
      rcases hown with ⟨_, e⟩ | ⟨g, cap, cur, e, hbg, hh, hle, _, hcs, _⟩
      · omega
      · injection e with e1 e2 e3
        subst e1 e3
        have hg1 : Blk W1 g cur 41 := (HB.out.block g (Blk.lt hh)).trans hh
        have hg0 : g < W.heap.size := Blk.lt hh
        have hokg : ok g := hok g rfl
        have hcs : cur.size = cp * 2 := hcs
        have g0 : W1.cell? ⟨g, 0, none⟩ = some cur[0] := Blk.cell hg1 0 (Array.getElem?_eq_getElem (by omega))
        have g1 : W1.cell? ⟨g, 1, none⟩ = some cur[1] := Blk.cell hg1 1 (Array.getElem?_eq_getElem (by omega))
        have f0 := hg1.froz 0
        have f1 := hg1.froz 1
        have hpz : (0 : Int) < pts.length := by omega
        obtain ⟨u0, hu0⟩ : ∃ u, cur[0] = u := ⟨_, rfl⟩
        obtain ⟨u1, hu1⟩ : ∃ u, cur[1] = u := ⟨_, rfl⟩
        rw [hu0] at g0
        rw [hu1] at g1
        have HLEN := Lib.hid hp
        have HHB := Lib.hid hbg
        have HH0 := Lib.hid hg0
        clear hu0 hu1 hcs hle hh hg1 hp hbg hg0
        go_wp2
        go_ret
        refine .inr ⟨by first | rfl | simp, Lib.hid ⟨?_, ?_, ?_⟩⟩
        · intro e
          have h9 := congrArg List.length e
          have := HLEN.out
          rw [List.length_append, List.length_nil] at h9
          omega
        · exact below_set (below_set (HB.out.mono HBS.out) HHB.out _) HHB.out _
        · intro j hj hn
          have hjg : j ≠ g := fun e => hn (by subst e; exact ⟨hokg, HHB.out⟩)
          rw [Below.heap_setCell _ _ _ _ hjg, Below.heap_setCell _ _ _ _ hjg]
          exact HB.out.block j hj
    · have hp0 : pts.length = 0 := by omega
      have hpn : pts = [] := List.length_eq_zero_iff.1 hp0
      subst hpn
      clear hp hp0
      have HW1 := Lib.hid HB.out.size
      go_wp2
      go_loopw [22] (fun i wr => ∃ (k : Nat), i = .int .i64 k ∧ k ≤ ps.length ∧ Hid (Bel W1 wr)) (fun i _ => ps.length - (intOf i).toNat)
      case atStart => exact ⟨0, rfl, by omega, Lib.hid (Below.refl _ _)⟩
      case round =>
        clear s0 s1 s2 t0 t1
        obtain ⟨k, rfl, hk, HBk⟩ := hrel
        have t0 : wr.cell? ⟨W.heap.size + 1, 0, none⟩ = some (.int .i64 x) := Blk.cell (Blk.bel T HBk.out) 0 rfl
        have t1 : wr.cell? ⟨W.heap.size + 1, 1, none⟩ = some (.int .i64 y) := Blk.cell (Blk.bel T HBk.out) 1 rfl
        have hmx : ps.length ≤ 9223372036854775807 := HC2.out.2.1
        by_cases hlt : k < ps.length
        · obtain ⟨ad, c, e, hl, hM, hc⟩ := HC2.out.get_ (.mk 0 [] []) (k : Int) (by omega) (by omega)
          obtain ⟨ad0, c0, e0, hl0, -, hc0⟩ := HC2.out.get_ (.mk 0 [] []) (0 : Int) (by omega) (by omega)
          obtain rfl := Option.some.inj (e.symm.trans e0)
          have hk2 : (k : Int).toNat = k := by omega
          rw [hk2, List.getD_eq_getElem?_getD, List.getElem?_eq_getElem hlt] at hM
          rw [hk2] at hc
          match c0, hl0 with
          | [z1, z2, z3], _ =>
          obtain ⟨b, off, rfl, hb⟩ := add_none (by simpa using hc0 0 _ rfl)
          obtain ⟨kd, u1, u2, u3, u4, u5, u6, rfl⟩ := hM.forms
          have f0 := hc 0 _ rfl
          have f1 := hc 1 _ rfl
          have f2 := hc 2 _ rfl
          rw [add_mid] at f0 f1 f2
          have hBr := bthen HB.out HBk.out
          have f0 : wr.cell? ⟨b, off + k * 3, none⟩ = some (.int .i64 kd) := kc hBr f0
          have f1 : wr.cell? ⟨b, off + k * 3 + 1, none⟩ = some (.slice u1 u2 u3) := kc hBr f1
          have f2 : wr.cell? ⟨b, off + k * 3 + 2, none⟩ = some (.slice u4 u5 u6) := kc hBr f2
          subst e
          have HM := Lib.hid (hM.bel (bthen hBr ((Below.refl _ wr).alloc (Nat.le_refl _) (.cells #[.int .i64 kd, .slice u1 u2 u3, .slice u4 u5 u6] 25))))
          have HFL := Lib.hid (show ps[k].flat.length ≤ (flats ps).length from flat_le hlt)
          have HT := Lib.hid (Blk.bel T HBk.out)
          obtain ⟨pk, hpk⟩ : ∃ p, ps[k] = p := ⟨_, rfl⟩
          have hM2 : (some ps[k]).getD (Sh.mk 0 [] []) = pk := hpk
          rw [hM2] at HM
          rw [hpk] at HFL
          have HBr := Lib.hid hBr
          have HL9 := Lib.hid hlt
          clear hc hc0 hl e0 hk2 hM hM2 hpk hBr hb
          go_upto_region 9 with (fail)
          have P := Blk.new wr #[.int .i64 kd, .slice u1 u2 u3, .slice u4 u5 u6] 25
          have T2 := Blk.alloc HT.out (.cells #[.int .i64 kd, .slice u1 u2 u3, .slice u4 u5 u6] 25)
          have HB5 : Hid (Bel wr (wr.alloc (.cells #[.int .i64 kd, .slice u1 u2 u3, .slice u4 u5 u6] 25))) := Lib.hid ((Bel.refl wr).alloc (Nat.le_refl _) _)
          obtain ⟨w5, hW⟩ : ∃ X, wr.alloc (.cells #[.int .i64 kd, .slice u1 u2 u3, .slice u4 u5 u6] 25) = X := ⟨_, rfl⟩
          rw [hW] at P T2 HM HB5 ⊢
          obtain ⟨gp, hg⟩ : ∃ g, wr.heap.size = g := ⟨_, rfl⟩
          rw [hg] at P ⊢
          clear hW hg t0 t1 f0 f1 f2
          have t0 : w5.cell? ⟨W.heap.size + 1, 0, none⟩ = some (.int .i64 x) := Blk.cell T2 0 rfl
          have t1 : w5.cell? ⟨W.heap.size + 1, 1, none⟩ = some (.int .i64 y) := Blk.cell T2 1 rfl
          obtain ⟨p0, p1, p2⟩ := Blk.cells3 P
          have HCALL := Lib.hid (IH.out pk _ w5 base ok x y (dp + 1) HM.out (by have := HBS.out; have := HBr.out.size; have := HB5.out.size; omega) (by omega) (by omega))
          have hwd : IntKind.i64.wrap (dp + 1) = dp + 1 := IntWalk.i64_in _ (by omega)
          go_wp2_with (go_at_call 34; refine (HCALL.out).mono ?_; rintro e w7 (⟨rfl, h8⟩ | ⟨rfl, h7⟩))
          · go_roundw
            case rel => exact ⟨k + 1, by go_num, by have := HL9.out; omega, Lib.hid (bthen (bthen HBk.out HB5.out) h8)⟩
            case measure => (have := HL9.out; simp [intOf] <;> omega)
          · go_ret
            refine .inr ⟨by first | rfl | simp, Lib.hid ⟨?_, ?_⟩⟩
            · intro e
              have h9 := h7.out.1
              have := HFL.out
              have e2 : (flats ps).length = 0 := by simpa using congrArg List.length e
              exact h9 (List.length_eq_zero_iff.1 (by omega))
            · exact (Turned.bel HBS.out (bthen HBr.out HB5.out)).trans h7.out.2
        · have : k = ps.length := by omega
          subst this
          clear hlt hk
          go_wp2
          go_ret
          exact .inl ⟨by first | rfl | simp, bthen HB.out HBk.out⟩

end Go.Proofs.YtfknhpgelleenaaDoor.K
