/- The law OctetBack, walked. -/
import Derived.Test.YtlfcgicobhalmaaBase
import Derived.Test.YtlfcgicobhalmaaWSrc2
import Derived.Test.YtlfcgicobhalmaaWLaw02
import Derived.Test.YtlfcgicobhalmaaOps
import Derived.Test.YtlfcgicobhalmaaRegGen
import Derived.Test.YtlfcgicobhalmaaMGet
namespace Go.Proofs.Ytlfcgicobhalmaa.K
open Go Go.RowKit Go.Proofs.YtlfcgicobhalmaaW.PrintWords Go.Proofs.YtlfcgicobhalmaaW.PrintLast Go.Proofs.YtlfcgicobhalmaaW.PrintMore
set_option linter.unusedVariables false
set_option linter.unusedSimpArgs false
open Go.Proofs.Ytlfcgicobhalmaa.MOct (W V tk sz vr num head getV le be many putL)

/-- A value that is put, in bytes. -/
def enc (v : Int × Int × Int × Bool × List Int) : List Int := if v.1 = 0 then putL v.2.1 8 v.2.2.2.1 else if v.1 = 1 then vr v.2.1 else vr v.2.2.2.2.length ++ v.2.2.2.2
abbrev KV' : Kd (Int × Int × Int × Bool × List Int) := Kd.pair (Kd.int .i64) (Kd.pair (Kd.int .u64) (Kd.pair (Kd.int .i64) (Kd.pair Kd.bool (Kd.slice 5 (Kd.int .u8)))))
theorem val_at {w : World} {A : Option Addr} {l : List (Int × Int × Int × Bool × List Int)} (h : KV'.C w A l.length l) (i : Nat) (hi : i < l.length) :
    ∃ ad, A = some ad ∧ ∃ kd n size little bs AB cB, l[i]? = some (kd, n, size, little, bs) ∧ w.cell? (ad.add (i * 5)) = some (.int .i64 kd) ∧ w.cell? { block := (ad.add (i * 5)).block, off := (ad.add (i * 5)).off + 1 } = some (.int .u64 n) ∧ w.cell? { block := (ad.add (i * 5)).block, off := (ad.add (i * 5)).off + 2 } = some (.int .i64 size) ∧
      w.cell? { block := (ad.add (i * 5)).block, off := (ad.add (i * 5)).off + 3 } = some (.bool little) ∧ w.cell? { block := (ad.add (i * 5)).block, off := (ad.add (i * 5)).off + 4 } = some (.slice AB bs.length cB) ∧ bs.length ≤ cB ∧ CB w AB bs := by
  obtain ⟨ad, c, rfl, hl, hK, hc⟩ := Kd.C_get h (0, 0, 0, false, []) (i : Int) (by omega) (by omega)
  have hg : l[i]? = some (l.getD i (0, 0, 0, false, [])) := by rw [List.getD_eq_getElem?_getD, List.getElem?_eq_getElem hi]; rfl
  have hti : (i : Int).toNat = i := by omega
  rw [hti] at hK hc
  obtain ⟨x, hx⟩ : ∃ x, l.getD i (0, 0, 0, false, []) = x := ⟨_, rfl⟩
  rw [hx] at hK hg
  obtain ⟨kd, n, size, little, bs⟩ := x
  obtain ⟨_, _, rfl, rfl, _, _, rfl, rfl, _, _, rfl, rfl, _, _, rfl, rfl, AB, cB, rfl, hcB, hCB⟩ := hK
  have e : ∀ j, ad.add (i * 5 + (j + 1)) = { block := (ad.add (i * 5)).block, off := (ad.add (i * 5)).off + (j + 1) } := fun j => by rw [← Addr.add_add, Addr.add_succ']
  refine ⟨ad, rfl, kd, n, size, little, bs, AB, cB, hg, hc 0 _ rfl, ?_, ?_, ?_, ?_, hcB, hCB⟩
  · rw [← e 0]; exact hc 1 _ rfl
  · rw [← e 1]; exact hc 2 _ rfl
  · rw [← e 2]; exact hc 3 _ rfl
  · rw [← e 3]; exact hc 4 _ rfl
theorem enc_step {l : List (Int × Int × Int × Bool × List Int)} {k : Nat} {x : Int × Int × Int × Bool × List Int} (h : l[k]? = some x) : (l.take (k + 1)).flatMap enc = (l.take k).flatMap enc ++ enc x := by
  rw [List.take_add_one, h]; simp
theorem enc_len (x : Int × Int × Int × Bool × List Int) (h : x.2.2.2.2.length ≤ 100) : (enc x).length ≤ 109 := by
  have hv : ∀ n, (vr n).length ≤ 9 := fun n => by have := MOct.vr_length n; have := MOct.sz_range n; omega
  unfold enc
  split
  · rw [MOct.putL_length]; have := MOct.many_le 8; omega
  · split
    · have := hv x.2.1; omega
    · rw [List.length_append]; have := hv x.2.2.2.2.length; omega
theorem noU8s {cs : Array Value} (h : ∀ v ∈ cs.toList, ∀ x, v ≠ .int .u8 x) : ∀ v ∈ cs, ∀ x, v ≠ .int .u8 x := fun v hv => h v (Array.mem_toList_iff.2 hv)
theorem numS_put (n : Int) (little : Bool) (rest : List Int) (h0 : 0 ≤ n) (h1 : n < 18446744073709551616) : numS true (putL n 8 little ++ rest) 0 8 little = (n, rest, 0) := by
  unfold numS
  have hl : (putL n 8 little).length = 8 := by rw [MOct.putL_length]; rfl
  rw [if_neg (by simp), if_neg (by omega), MOct.getV_put n little rest h0 h1, if_pos rfl]
  have e : (8 : Int).toNat = (putL n 8 little).length := by rw [hl]; rfl
  rw [e, List.drop_left]
theorem varS_vr (n gr : Int) (rest : List Int) (h0 : 0 ≤ n) (h1 : n < 18446744073709551616) (hg : n ≤ gr) : varS true (vr n ++ rest) 0 gr = (n, rest, 0) := by
  have hs := MOct.sz_range n
  have e : varR (vr n ++ rest) gr = (n, sz n, 0) := by
    unfold varR
    rw [MOct.take_vr n rest h0 h1, if_neg (show ¬ (sz n = 0) by omega), if_neg (show ¬ (n > gr) by omega)]
  unfold varS
  rw [if_neg (by simp), e]
  simp only [if_true]
  rw [← MOct.vr_length n, List.drop_left]
theorem bytesS_app (bs rest : List Int) : bytesS true (bs ++ rest) 0 bs.length = (bs, rest, 0) := by
  unfold bytesS
  rw [if_neg (by simp)]
  have e : bytesR (bs ++ rest) bs.length = (bs, (bs.length : Int), 0) := by
    unfold bytesR
    rw [if_neg (by omega), if_neg (by rw [List.length_append]; omega), Int.toNat_natCast, List.take_left]
  rw [e]
  simp
theorem enc_ok (x : Int × Int × Int × Bool × List Int) (h : bytesOk x.2.2.2.2) : bytesOk (enc x) := by
  unfold enc
  split
  · exact MOct.putL_range _ _ _
  · split
    · exact MOct.vr_range _
    · exact bytesOk_append (MOct.vr_range _) h
theorem enc_drop {l : List (Int × Int × Int × Bool × List Int)} {k : Nat} {x : Int × Int × Int × Bool × List Int} (h : l[k]? = some x) : (l.drop k).flatMap enc = enc x ++ (l.drop (k + 1)).flatMap enc := by
  obtain ⟨hk, rfl⟩ := List.getElem?_eq_some_iff.1 h
  rw [List.drop_eq_getElem_cons hk, List.flatMap_cons]
theorem encs_len (l : List (Int × Int × Int × Bool × List Int)) (h : ∀ x ∈ l, x.2.2.2.2.length ≤ 100) : (l.flatMap enc).length ≤ 109 * l.length := by
  induction l with
  | nil => simp
  | cons x l ih =>
    have h1 := enc_len x (h x (by simp))
    have h2 := ih (fun y hy => h y (by simp [hy]))
    simp only [List.flatMap_cons, List.length_append, List.length_cons]
    omega
theorem encs_ok (l : List (Int × Int × Int × Bool × List Int)) (h : ∀ x ∈ l, bytesOk x.2.2.2.2) : bytesOk (l.flatMap enc) := fun y hy => by
  obtain ⟨x, hx, hy⟩ := List.mem_flatMap.1 hy
  exact enc_ok x (h x hx) y hy
/-- append(row, bytes...) as one operation of a region. -/
theorem wp_appN {ops : Array Oper} {o : Oper} {a : Act} {Q : Exit → Act → World → Prop} {K : Act → World → Prop} {w0 W : World} (s x : Operand) (hgd : o.guard = none) (ho : o.op = .call { callee := .builtin .append, args := #[s, x], argTypes := #[23, 23] })
    (v : Value) (xs ys : List Int) (A : Option Addr) (c : Nat) (hs : a.eval s = v) (hx : a.eval x = .slice A ys.length c)
    (HO : RB w0 W v xs) (HR : CB W A ys) (HB : Below w0.heap.size w0 W) (hl : xs.length + ys.length < 140737488355328)
    (h : ∀ v1 w1, RB w0 w1 v1 (xs ++ ys) → Below w0.heap.size w0 w1 → K (a.put o.dst v1) w1) : o.wp Try.prog a W K Q :=
  wp_of_list (ops := ops) hgd (appN s x hgd ho v xs ys A c hs hx HO HR HB hl (fun v1 w1 h1 h2 => ⟨rfl, h v1 w1 h1.out h2.out⟩))
set_option maxHeartbeats 1000000 in
set_option maxRecDepth 100000 in
theorem OctetBack_calls {w : World} (A : Option Addr) (c : Nat) (l : List (Int × Int × Int × Bool × List Int)) (hC : KV'.C w A l.length l) (hc : l.length ≤ c)
    (hq : (∀ x ∈ l, ((Lit.int .i64 x.1).wf = true ∧ (Lit.int .u64 x.2.1).wf = true ∧ (Lit.int .i64 x.2.2.1).wf = true ∧ True ∧ (∀ y ∈ x.2.2.2.2, (Lit.int .u8 y).wf = true) ∧ x.2.2.2.2.length ≤ 9223372036854775807)) ∧ l.length ≤ 9223372036854775807) :
    Calls Try.prog 8 #[.slice A l.length c] w fun e w' => e = .returned (.bool true) ∧ Below w.heap.size w w' := by
  have HC := Lib.hid hC
  have HQ := Lib.hid hq.1
  clear hC hq
  by_cases hlen : 30 < l.length
  · go_enter Try.func8, Try.ntmps8
    go_wp2_with (go_at_call 13; refine (lives02 _).mono ?_; rintro e w4 ⟨rfl, hb4⟩; have HB4 := Lib.hid hb4; clear hb4)
    go_ret
    exact ⟨rfl, HB4.out⟩
  · have hl3 : l.length ≤ 30 := by omega
    clear hlen
    go_enter Try.func8, Try.ntmps8
    go_wp2
    go_loopw [3, 16] (fun b i wr => ∃ k : Nat, i = .int .i64 k ∧ k ≤ l.length ∧ Hid (Below w.heap.size w wr) ∧ Hid (RB w wr b ((l.take k).flatMap enc)) ∧ Hid ((∀ x ∈ l.take k, x.2.2.2.2.length ≤ 100) ∧ ((l.take k).flatMap enc).length ≤ 109 * k)) (fun _ i _ => l.length - (intOf i).toNat)
    case atStart => exact ⟨0, rfl, by omega, Lib.hid (Below.refl _ _), Lib.hid (RB.nil _ _), Lib.hid ⟨by simp, by simp⟩⟩
    case round =>
      obtain ⟨k, rfl, hk, HB, HR, HL⟩ := hrel
      by_cases hlt : k < l.length
      · obtain ⟨ad, rfl, kd, n, size, little, bs, AB, cB, hget, x0, x1, x2, x3, x4, hcB, hCB⟩ := val_at (Kd.C_below HC.out HB.out) k hlt
        have HCB := Lib.hid hCB
        have HG := Lib.hid hget
        clear hCB hget
        have hN := u64_wf ((HQ.out _ (List.mem_of_getElem? HG.out)).2.1)
        have HN := Lib.hid hN
        obtain ⟨L, hL⟩ : ∃ L, (l.take k).flatMap enc = L := ⟨_, rfl⟩
        have hR2 := HR.out
        rw [hL] at hR2
        have HR2 := Lib.hid hR2
        obtain ⟨A2, c2, rfl, h2, hC2⟩ := hR2.reads
        have HC2 := Lib.hid hC2
        have hLL : L.length ≤ 109 * k := by have := HL.out.2; rw [hL] at this; exact this
        have hL30 : L.length ≤ 3270 := by omega
        have HLL := Lib.hid hLL
        have HLQ := Lib.hid hL
        clear hR2 hC2 hLL hL hN
        go_upto_region 7 with (fail)
        generalize hW5 : wr.alloc (Obj.cells #[Value.int IntKind.i64 kd, Value.int IntKind.u64 n, Value.int IntKind.i64 size, Value.bool little, Value.slice AB bs.length cB] 30) = W5
        have hb5 : Below wr.heap.size wr W5 := by subst hW5; exact (Below.refl _ _).alloc (Nat.le_refl _) _
        have hbx : W5.heap[wr.heap.size]? = some (.cells #[Value.int IntKind.i64 kd, Value.int IntKind.u64 n, Value.int IntKind.i64 size, Value.bool little, Value.slice AB bs.length cB] 30 (0, 0)) := by subst hW5; exact heap_alloc_new wr _
        obtain ⟨g5, hg5⟩ : ∃ g5, wr.heap.size = g5 := ⟨_, rfl⟩
        rw [hg5] at hbx ⊢
        have z0 : W5.cell? ⟨g5, 0, none⟩ = some (.int .i64 kd) := cell_of_row W5 g5 0 _ 30 (0, 0) hbx
        have z1 : W5.cell? ⟨g5, 1, none⟩ = some (.int .u64 n) := cell_of_row W5 g5 1 _ 30 (0, 0) hbx
        have z3 : W5.cell? ⟨g5, 3, none⟩ = some (.bool little) := cell_of_row W5 g5 3 _ 30 (0, 0) hbx
        have z4 : W5.cell? ⟨g5, 4, none⟩ = some (.slice AB bs.length cB) := cell_of_row W5 g5 4 _ 30 (0, 0) hbx
        have HB5 := Lib.hid (bthen HB.out hb5)
        have HC5 : Hid (CB W5 A2 L) := Lib.hid (HC2.out.below hb5)
        have HS5 : Hid (CB W5 AB bs) := Lib.hid (HCB.out.below hb5)
        have HX5 := Lib.hid hbx
        clear hW5 hb5 hg5 hbx x0 x1 x2 x3 x4
        by_cases h100 : 100 < bs.length
        · go_wp2_with (go_at_call 13; refine (lives02 _).mono ?_; rintro e w4 ⟨rfl, hb4⟩; have HB4 := Lib.hid hb4; clear hb4)
          go_ret
          exact ⟨rfl, bthen HB5.out HB4.out⟩
        · have hx100 : (enc (kd, n, size, little, bs)).length ≤ 109 := enc_len _ (by simpa using h100)
          have HE := Lib.hid hx100
          clear hx100
          have fin : ∀ (v : Value) (w4 : World) (L4 : List Int), L4 = enc (kd, n, size, little, bs) → RB W5 w4 v (L ++ L4) → Below W5.heap.size W5 w4 → Hid (Below w.heap.size w w4) ∧ Hid (RB w w4 v ((l.take (k + 1)).flatMap enc)) ∧ Hid ((∀ x ∈ l.take (k + 1), x.2.2.2.2.length ≤ 100) ∧ ((l.take (k + 1)).flatMap enc).length ≤ 109 * (k + 1)) := by
            intro v w4 L4 e4 hr hb
            subst e4
            refine ⟨Lib.hid (bthen HB5.out hb), Lib.hid ?_, Lib.hid ⟨?_, ?_⟩⟩
            · rw [enc_step HG.out, HLQ.out]; exact hr.lower HB5.out.size
            · intro x hx
              rw [List.take_add_one, HG.out] at hx
              rcases List.mem_append.1 hx with hx | hx
              · exact HL.out.1 x hx
              · simp at hx; subst hx; simpa using h100
            · rw [enc_step HG.out, HLQ.out, List.length_append]; have := HE.out; have := HLL.out; omega
          have FIN := Lib.hid fin
          clear fin
          by_cases hk0 : kd = 0
          · subst hk0
            go_wp2_with (go_at_call 17; refine (octet_Put_calls _ _ _ _ _ _ _ HC5.out h2 (by omega) HN.out.1 HN.out.2).mono ?_; rintro e w4 ⟨v, rfl, hr, hb⟩; have HR4 := Lib.hid hr; have HB4 := Lib.hid hb; clear hr hb)
            obtain ⟨f1, f2, f3⟩ := FIN.out _ _ _ (by simp [enc]) HR4.out HB4.out
            exact ⟨⟨k + 1, by go_num, by omega, f1, f2, f3⟩, by simp [intOf]; omega⟩
          · by_cases hk1 : kd = 1
            · subst hk1
              go_wp2_with (go_at_call 11; refine (octet_Var_calls _ _ _ _ _ HC5.out h2 (by omega) HN.out.1 HN.out.2).mono ?_; rintro e w4 ⟨v, rfl, hr, hb⟩; have HR4 := Lib.hid hr; have HB4 := Lib.hid hb; clear hr hb)
              obtain ⟨f1, f2, f3⟩ := FIN.out _ _ _ (by simp [enc]) HR4.out HB4.out
              exact ⟨⟨k + 1, by go_num, by omega, f1, f2, f3⟩, by simp [intOf]; omega⟩
            · have b0 : (kd = 0) = False := by simpa using hk0
              go_wp2_with fail
              have hcell : ∀ W : World, Below W5.heap.size W5 W → W.cell? ⟨g5, 4, none⟩ = some (.slice AB bs.length cB) ∧ CB W AB bs ∧ CB W A2 L := fun W hW =>
                ⟨cell_of_row W g5 4 _ 30 (0, 0) ((hW.block g5 (Array.getElem?_eq_some_iff.1 HX5.out).1).trans HX5.out), HS5.out.below hW, HC5.out.below hW⟩
              have HCELL := Lib.hid hcell
              have hlv : (L ++ vr (bs.length : Int)).length + bs.length < 140737488355328 := by
                rw [List.length_append]; have := MOct.vr_length (bs.length : Int); have := MOct.sz_range (bs.length : Int); omega
              have HLV := Lib.hid hlv
              clear hcell hlv
              refine Reg.region_gen (P := Try.prog) (Ext := fun i W W' => i ≠ 8 → Bel W W') (R := fun i v W => match i with
                  | 0 => v = .slice A2 L.length c2
                  | 1 => v = .pointer (some ⟨g5, 4, none⟩)
                  | 2 => v = .slice AB bs.length cB
                  | 3 => v = .int .i64 ↑bs.length
                  | 4 => v = .int .u64 ↑bs.length
                  | 5 => RB W5 W v (L ++ vr ↑bs.length)
                  | 6 => v = .pointer (some ⟨g5, 4, none⟩)
                  | 7 => v = .slice AB bs.length cB
                  | 8 => RB W5 W v (L ++ vr ↑bs.length ++ bs)
                  | 9 => RB W5 W v (L ++ vr ↑bs.length ++ bs)
                  | _ => True) [(8, 5)] (fun m W => Below W5.heap.size W5 W) rfl (by kernel_rfl) (by kernel_rfl) (Bel.drew W5) (fun i W _ => Bel.refl W) (by intro i j v W W' hij hk hr hx h; by_cases e : i = 8; (subst e; split at h <;> first | exact h | exact absurd rfl hij | exact absurd hk (by decide) | exact (Bool.false_ne_true (hr.symm.trans (by kernel_rfl))).elim); (have hb := hx e; split at h <;> first | exact h | exact RB.below h hb)) ?_ ?_
              · intro i oi hoi a W m hW hmi hpre need old
                match i, hoi with
                | 0, hoi =>
                  simp only [List.getElem?_toArray, List.getElem?_cons_succ, List.getElem?_cons_zero, Option.some.injEq] at hoi
                  subst hoi
                  refine Reg.ob2_plain rfl ?_
                  have e3 : a.eval (.tmp 3) = .slice A2 L.length c2 := old 3 (by kernel_rfl)
                  refine Reg.wp_val (W' := W) (v := _) (by simp only [execOp, e3, Reg.eval_const]; rfl) ⟨_, rfl, (fun _ => Bel.refl W), rfl, hW⟩
                | 1, hoi =>
                  simp only [List.getElem?_toArray, List.getElem?_cons_succ, List.getElem?_cons_zero, Option.some.injEq] at hoi
                  subst hoi
                  refine Reg.ob2_plain rfl ?_
                  have e5 : a.eval (.tmp 5) = .pointer (some ⟨g5, 0, none⟩) := old 5 (by kernel_rfl)
                  refine Reg.wp_val (W' := W) (v := .pointer (some ⟨g5, 4, none⟩)) (by simp only [execOp, e5, Reg.eval_const, resolve, invoke, builtin, List.map_toArray, List.map_cons, List.map_nil, Option.map_some, Option.map_none]; (first | rfl | go_simp | (go_simp; rfl))) ⟨_, rfl, (fun _ => Bel.refl W), rfl, hW⟩
                | 2, hoi =>
                  simp only [List.getElem?_toArray, List.getElem?_cons_succ, List.getElem?_cons_zero, Option.some.injEq] at hoi
                  subst hoi
                  refine Reg.ob2_plain rfl ?_
                  have e28 : a.eval (.tmp 28) = .pointer (some ⟨g5, 4, none⟩) := need 1 _ 28 rfl rfl (by kernel_rfl) (by kernel_rfl)
                  have hx := (HCELL.out W hW).1
                  refine Reg.wp_val (W' := W) (v := .slice AB bs.length cB) (by simp only [execOp, e28, Reg.eval_const, resolve, invoke, builtin, List.map_toArray, List.map_cons, List.map_nil, Option.map_some, Option.map_none]; (first | rfl | go_simp | (go_simp; rfl))) ⟨_, rfl, (fun _ => Bel.refl W), rfl, hW⟩
                | 3, hoi =>
                  simp only [List.getElem?_toArray, List.getElem?_cons_succ, List.getElem?_cons_zero, Option.some.injEq] at hoi
                  subst hoi
                  refine Reg.ob2_plain rfl ?_
                  have e29 : a.eval (.tmp 29) = .slice AB bs.length cB := need 2 _ 29 rfl rfl (by kernel_rfl) (by kernel_rfl)
                  refine Reg.wp_val (W' := W) (v := .int .i64 ↑bs.length) (by simp only [execOp, e29, Reg.eval_const, resolve, invoke, builtin, List.map_toArray, List.map_cons, List.map_nil, Option.map_some, Option.map_none]; (first | rfl | go_simp | (go_simp; rfl))) ⟨_, rfl, (fun _ => Bel.refl W), rfl, hW⟩
                | 4, hoi =>
                  simp only [List.getElem?_toArray, List.getElem?_cons_succ, List.getElem?_cons_zero, Option.some.injEq] at hoi
                  subst hoi
                  refine Reg.ob2_plain rfl ?_
                  have e30 : a.eval (.tmp 30) = .int .i64 ↑bs.length := need 3 _ 30 rfl rfl (by kernel_rfl) (by kernel_rfl)
                  have hwr : IntKind.u64.wrap (bs.length : Int) = (bs.length : Int) := by rw [IntKind.wrap_u64]; omega
                  refine Reg.wp_val (W' := W) (v := .int .u64 ↑bs.length) (by simp only [execOp, e30, Reg.eval_const, resolve, invoke, builtin, List.map_toArray, List.map_cons, List.map_nil, Option.map_some, Option.map_none]; (first | rfl | go_simp | (go_simp; rfl))) ⟨_, rfl, (fun _ => Bel.refl W), rfl, hW⟩
                | 5, hoi =>
                  simp only [List.getElem?_toArray, List.getElem?_cons_succ, List.getElem?_cons_zero, Option.some.injEq] at hoi
                  subst hoi
                  refine Reg.ob2_plain rfl ?_
                  have e27 : a.eval (.tmp 27) = .slice A2 L.length c2 := need 0 _ 27 rfl rfl (by kernel_rfl) (by kernel_rfl)
                  have e31 : a.eval (.tmp 31) = .int .u64 ↑bs.length := need 4 _ 31 rfl rfl (by kernel_rfl) (by kernel_rfl)
                  refine Reg.wp_call (f := 11) (args := #[.slice A2 L.length c2, .int .u64 ↑bs.length]) (by simp only [execOp, e27, e31, Reg.eval_const, resolve, invoke, List.map_toArray, List.map_cons, List.map_nil]; go_simp) ?_
                  refine (octet_Var_calls _ _ _ _ _ (HCELL.out W hW).2.2 h2 (by omega) (by omega) (by omega)).mono ?_
                  rintro e W' ⟨v, rfl, hr, hb⟩; exact ⟨v, rfl, v, rfl, fun _ => hb, hr.lower hW.size, bthen hW hb⟩
                | 6, hoi =>
                  simp only [List.getElem?_toArray, List.getElem?_cons_succ, List.getElem?_cons_zero, Option.some.injEq] at hoi
                  subst hoi
                  refine Reg.ob2_plain rfl ?_
                  have e5 : a.eval (.tmp 5) = .pointer (some ⟨g5, 0, none⟩) := old 5 (by kernel_rfl)
                  refine Reg.wp_val (W' := W) (v := .pointer (some ⟨g5, 4, none⟩)) (by simp only [execOp, e5, Reg.eval_const, resolve, invoke, builtin, List.map_toArray, List.map_cons, List.map_nil, Option.map_some, Option.map_none]; (first | rfl | go_simp | (go_simp; rfl))) ⟨_, rfl, (fun _ => Bel.refl W), rfl, hW⟩
                | 7, hoi =>
                  simp only [List.getElem?_toArray, List.getElem?_cons_succ, List.getElem?_cons_zero, Option.some.injEq] at hoi
                  subst hoi
                  refine Reg.ob2_plain rfl ?_
                  have e33 : a.eval (.tmp 33) = .pointer (some ⟨g5, 4, none⟩) := need 6 _ 33 rfl rfl (by kernel_rfl) (by kernel_rfl)
                  have hx := (HCELL.out W hW).1
                  refine Reg.wp_val (W' := W) (v := .slice AB bs.length cB) (by simp only [execOp, e33, Reg.eval_const, resolve, invoke, builtin, List.map_toArray, List.map_cons, List.map_nil, Option.map_some, Option.map_none]; (first | rfl | go_simp | (go_simp; rfl))) ⟨_, rfl, (fun _ => Bel.refl W), rfl, hW⟩
                | 8, hoi =>
                  simp only [List.getElem?_toArray, List.getElem?_cons_succ, List.getElem?_cons_zero, Option.some.injEq] at hoi
                  subst hoi
                  refine Reg.ob2_plain rfl ?_
                  have r32 := need 5 _ 32 rfl rfl (by kernel_rfl) (by kernel_rfl)
                  simp only at r32
                  obtain ⟨x32, e32⟩ : ∃ x, a.eval (.tmp 32) = x := ⟨_, rfl⟩
                  rw [← Reg.eval_tmp, e32] at r32
                  have e34 : a.eval (.tmp 34) = .slice AB bs.length cB := need 7 _ 34 rfl rfl (by kernel_rfl) (by kernel_rfl)
                  refine wp_appN (ops := #[]) (w0 := W5) _ _ rfl rfl x32 (L ++ vr ↑bs.length) bs AB cB e32 e34 r32 (HCELL.out W hW).2.1 hW HLV.out ?_
                  intro v1 w1 hr1 hb1
                  exact ⟨v1, rfl, fun h => absurd rfl h, hr1, hb1⟩
                | 9, hoi =>
                  simp only [List.getElem?_toArray, List.getElem?_cons_succ, List.getElem?_cons_zero, Option.some.injEq] at hoi
                  subst hoi
                  refine Reg.ob2_plain rfl ?_
                  have r35 := need 8 _ 35 rfl rfl (by kernel_rfl) (by kernel_rfl)
                  simp only at r35
                  obtain ⟨x35, e35⟩ : ∃ x, a.eval (.tmp 35) = x := ⟨_, rfl⟩
                  rw [← Reg.eval_tmp, e35] at r35
                  refine Reg.wp_val (W' := W) (v := _) (by simp only [execOp, e35, Reg.eval_const]; rfl) ⟨_, rfl, (fun _ => Bel.refl W), r35, hW⟩
                | n + 10, hoi => simp at hoi
              · intro a w10 m hW hall hsize hdef got same did
                have ha := Reg.act_of [27, 28, 29, 30, 31, 32, 33, 34, 35, 3] hsize hdef same (by kernel_rfl)
                simp only [List.foldl_cons, List.foldl_nil] at ha
                generalize a.tmps.getD 27 undef = y27 at ha
                generalize a.tmps.getD 28 undef = y28 at ha
                generalize a.tmps.getD 29 undef = y29 at ha
                generalize a.tmps.getD 30 undef = y30 at ha
                generalize a.tmps.getD 31 undef = y31 at ha
                generalize a.tmps.getD 32 undef = y32 at ha
                generalize a.tmps.getD 33 undef = y33 at ha
                generalize a.tmps.getD 34 undef = y34 at ha
                generalize a.tmps.getD 35 undef = y35 at ha
                have k3 := got 9 _ 3 rfl rfl (by kernel_rfl)
                simp only at k3
                generalize a.tmps.getD 3 undef = y3 at ha k3
                clear got same hsize hdef did
                subst ha
                simp only [List.setIfInBounds_toArray, List.set_cons_zero, List.set_cons_succ]

                go_wp2
                obtain ⟨f1, f2, f3⟩ := FIN.out _ _ (vr (bs.length : Int) ++ bs) (by simp [enc, hk0, hk1]) (by rw [← List.append_assoc]; exact k3) hW
                exact ⟨⟨k + 1, by go_num, by omega, f1, f2, f3⟩, by simp [intOf]; omega⟩
      · have hkl : k = l.length := by omega
        subst hkl
        have hlt2 := HL.out
        rw [List.take_length] at hlt2
        have HR2 := HR.out
        rw [List.take_length] at HR2
        obtain ⟨LL, hLLe⟩ : ∃ LL, l.flatMap enc = LL := ⟨_, rfl⟩
        rw [hLLe] at hlt2 HR2
        have HLE := Lib.hid hLLe
        clear hLLe
        have HLT := Lib.hid hlt2
        have HOK : Hid (∀ x ∈ l, bytesOk x.2.2.2.2) := Lib.hid (fun x hx => bytesOk_wf (HQ.out x hx).2.2.2.2.1)
        have hN : ∀ x ∈ l, U64 x.2.1 := fun x hx => u64_wf (HQ.out x hx).2.1
        have HN := Lib.hid hN
        obtain ⟨A2, c2, rfl, h2, hC2⟩ := HR2.reads
        have HC2 := Lib.hid hC2
        clear hlt2 HR2 hC2 HL HR hN
        go_upto_region 17 with (go_at_call 44; go_loud (refine (Read_calls _ A2 c2 _ HC2.out h2 (by have := HLT.out.2; omega)).mono ?_); rintro e w3 ⟨g, rfl, hg0, hb3, hs3⟩; have HB3 := Lib.hid (bthen HB.out hb3); have HS3 := Lib.hid hs3; have hgw : w.heap.size ≤ g := Nat.le_trans HB.out.size hg0; clear hb3 hs3 hg0)
        go_wp2
        go_loopw [55] (fun i w2 => ∃ k : Nat, i = .int .i64 k ∧ k ≤ l.length ∧ Hid (Below w.heap.size w w2) ∧ Hid (Src w2 g true ((l.drop k).flatMap enc) 0)) (fun i _ => l.length - (intOf i).toNat)
        case atStart => exact ⟨0, rfl, by omega, HB3, Lib.hid (by rw [List.drop_zero, HLE.out]; exact HS3.out)⟩
        case round =>
          obtain ⟨k, rfl, hk, HB, HS⟩ := hrel
          by_cases hlt : k < l.length
          · obtain ⟨ad, rfl, kd, n, size, little, bs, AB, cB, hget, x0, x1, x2, x3, x4, hcB, hCB⟩ := val_at (Kd.C_below HC.out HB.out) k hlt
            obtain ⟨n0, n1⟩ := HN.out _ (List.mem_of_getElem? hget)
            have hbs := HLT.out.1 _ (List.mem_of_getElem? hget)
            simp only at n0 n1 hbs
            obtain ⟨rest, hrest⟩ : ∃ rest, (l.drop (k + 1)).flatMap enc = rest := ⟨_, rfl⟩
            have hS := HS.out
            rw [enc_drop hget, hrest] at hS
            have hokb : bytesOk bs := HOK.out _ (List.mem_of_getElem? hget)
            have hokr : bytesOk rest := by rw [← hrest]; exact encs_ok _ (fun x hx => HOK.out x (List.mem_of_mem_drop hx))
            have hlr : rest.length ≤ 109 * l.length := by
              have := encs_len (l.drop (k + 1)) (fun x hx => HLT.out.1 x (List.mem_of_mem_drop hx))
              rw [hrest, List.length_drop] at this; omega
            have HGR := Lib.hid hrest
            have HCB := Lib.hid hCB
            have HS2 := Lib.hid hS
            clear hCB hget hrest hS
            go_upto_region 20 with (fail)
            generalize hW5 : wr.alloc (Obj.cells #[Value.int IntKind.i64 kd, Value.int IntKind.u64 n, Value.int IntKind.i64 size, Value.bool little, Value.slice AB bs.length cB] 30) = W5
            have hb5 : Below wr.heap.size wr W5 := by subst hW5; exact (Below.refl _ _).alloc (Nat.le_refl _) _
            have hbx : W5.heap[wr.heap.size]? = some (.cells #[Value.int IntKind.i64 kd, Value.int IntKind.u64 n, Value.int IntKind.i64 size, Value.bool little, Value.slice AB bs.length cB] 30 (0, 0)) := by subst hW5; exact heap_alloc_new wr _
            have hg2 := HS2.out.lt
            obtain ⟨g5, hg5⟩ : ∃ g5, wr.heap.size = g5 := ⟨_, rfl⟩
            rw [hg5] at hbx hg2 ⊢
            have z0 : W5.cell? ⟨g5, 0, none⟩ = some (.int .i64 kd) := cell_of_row W5 g5 0 _ 30 (0, 0) hbx
            have hgW : g < W5.heap.size := Nat.lt_of_lt_of_le (HS2.out.lt) hb5.size
            have hS5 := HS2.out.below hb5
            have hcb5 : CB W5 AB bs := HCB.out.below hb5
            have hgne : g5 ≠ g := by omega
            have hcell : ∀ W : World, W5.grownBy W (some g) → W.cell? ⟨g5, 1, none⟩ = some (.int .u64 n) ∧ W.cell? ⟨g5, 3, none⟩ = some (.bool little) ∧ W.cell? ⟨g5, 4, none⟩ = some (.slice AB bs.length cB) ∧ CB W AB bs := fun W hW => by
              have h2 := (hW.block g5 (Array.getElem?_eq_some_iff.1 hbx).1 (fun e => hgne (Option.some.inj e))).trans hbx
              obtain ⟨A9, c9, k1, k2, k3⟩ := hS5
              exact ⟨cell_of_row W g5 1 _ 30 (0, 0) h2, cell_of_row W g5 3 _ 30 (0, 0) h2, cell_of_row W g5 4 _ 30 (0, 0) h2, hcb5.only k1 (noU8 rfl (by simp) (by simp) (by simp)) hW⟩
            have HCELL := Lib.hid hcell
            have HB5 := Lib.hid (bthen HB.out hb5)
            have hgw2 : ∀ W : World, W5.grownBy W (some g) → Src W g true rest 0 → Hid (Below w.heap.size w W) ∧ Hid (Src W g true ((l.drop (k + 1)).flatMap enc) 0) := fun W hW hs =>
              ⟨Lib.hid ⟨hW.os.trans HB5.out.os, hW.tape.trans HB5.out.tape, hW.output.trans HB5.out.output, Nat.le_trans HB5.out.size hW.size, fun i hi => (hW.block i (Nat.lt_of_lt_of_le hi HB5.out.size) (fun e => by have := Option.some.inj e; omega)).trans (HB5.out.block i hi)⟩, Lib.hid (by rw [HGR.out]; exact hs)⟩
            have FIN := Lib.hid hgw2
            have HS5 := Lib.hid hS5
            clear hW5 hb5 hg5 hbx x0 x1 x2 x3 x4 hcell hgw2 hS5 hcb5 hg2
            by_cases hk0 : kd = 0
            · subst hk0
              have hnum : ∀ W : World, Src W g true (putL n 8 little ++ rest) 0 → Calls Try.prog 25 #[.pointer (some ⟨g, 0, none⟩), .int .i64 8, .bool little] W fun e W' => e = .returned (.int .u64 n) ∧ W.grownBy W' (some g) ∧ Src W' g true rest 0 := fun W hs => by
                have := Num_calls W g true _ 0 8 little hs (bytesOk_append (MOct.putL_range _ _ _) hokr)
                rwa [numS_put n little rest n0 n1] at this
              have HNUM := Lib.hid hnum
              have HP0 : Hid (Src W5.drew g true (putL n 8 little ++ rest) 0) := Lib.hid (by have := HS5.out; simp only [enc, if_true] at this; exact this.below (Bel.drew W5))
              clear hnum
              go_wp2_with fail
              refine Reg.region_gen (P := Try.prog) (Ext := fun i W W' => W.grownBy W' (some g)) (R := fun i v W => match i with
                  | 0 => v = .pointer (some ⟨g, 0, none⟩)
                  | 1 => v = .pointer (some ⟨g5, 3, none⟩)
                  | 2 => v = .bool little
                  | 3 => v = .int .u64 n
                  | 4 => v = .pointer (some ⟨g5, 1, none⟩)
                  | 5 => v = .int .u64 n
                  | 6 => v = .bool true
                  | 7 => v = .bool true
                  | _ => True) [] (fun m W => W5.grownBy W (some g) ∧ (m 3 = false → Src W g true (putL n 8 little ++ rest) 0) ∧ (m 3 = true → Src W g true rest 0)) rfl (by kernel_rfl) (by kernel_rfl) ⟨only_drew (World.grownBy.refl _ _), fun _ => HP0.out, fun h => (Bool.false_ne_true h).elim⟩ (fun i W => World.grownBy.refl _ _) (by intro i j v W W' hij hk hr hx h; split at h <;> first | exact h | exact RB.only h hgW hx) ?_ ?_
              · intro i oi hoi a W m hW hmi hpre need old
                match i, hoi with
                | 0, hoi =>
                  simp only [List.getElem?_toArray, List.getElem?_cons_succ, List.getElem?_cons_zero, Option.some.injEq] at hoi
                  subst hoi
                  refine Reg.ob2_plain rfl ?_
                  have e6 : a.eval (.tmp 6) = .pointer (some ⟨g, 0, none⟩) := old 6 (by kernel_rfl)
                  refine Reg.wp_val (W' := W) (v := _) (by simp only [execOp, e6, Reg.eval_const]; rfl) ⟨_, rfl, World.grownBy.refl _ _, rfl, hW⟩
                | 1, hoi =>
                  simp only [List.getElem?_toArray, List.getElem?_cons_succ, List.getElem?_cons_zero, Option.some.injEq] at hoi
                  subst hoi
                  refine Reg.ob2_plain rfl ?_
                  have e8 : a.eval (.tmp 8) = .pointer (some ⟨g5, 0, none⟩) := old 8 (by kernel_rfl)
                  refine Reg.wp_val (W' := W) (v := .pointer (some ⟨g5, 3, none⟩)) (by simp only [execOp, e8, Reg.eval_const, resolve, invoke, builtin, List.map_toArray, List.map_cons, List.map_nil, Option.map_some, Option.map_none]; (first | rfl | go_simp | (go_simp; rfl))) ⟨_, rfl, World.grownBy.refl _ _, rfl, hW⟩
                | 2, hoi =>
                  simp only [List.getElem?_toArray, List.getElem?_cons_succ, List.getElem?_cons_zero, Option.some.injEq] at hoi
                  subst hoi
                  refine Reg.ob2_plain rfl ?_
                  have e74 : a.eval (.tmp 74) = .pointer (some ⟨g5, 3, none⟩) := need 1 _ 74 rfl rfl (by kernel_rfl) (by kernel_rfl)
                  have hx := (HCELL.out W hW.1).2.1
                  refine Reg.wp_val (W' := W) (v := .bool little) (by simp only [execOp, e74, Reg.eval_const, resolve, invoke, builtin, List.map_toArray, List.map_cons, List.map_nil, Option.map_some, Option.map_none]; (first | rfl | go_simp | (go_simp; rfl))) ⟨_, rfl, World.grownBy.refl _ _, rfl, hW⟩
                | 3, hoi =>
                  simp only [List.getElem?_toArray, List.getElem?_cons_succ, List.getElem?_cons_zero, Option.some.injEq] at hoi
                  subst hoi
                  refine Reg.ob2_plain rfl ?_
                  have e73 : a.eval (.tmp 73) = .pointer (some ⟨g, 0, none⟩) := need 0 _ 73 rfl rfl (by kernel_rfl) (by kernel_rfl)
                  have e75 : a.eval (.tmp 75) = .bool little := need 2 _ 75 rfl rfl (by kernel_rfl) (by kernel_rfl)
                  refine Reg.wp_call (f := 25) (args := #[.pointer (some ⟨g, 0, none⟩), .int .i64 8, .bool little]) (by simp only [execOp, e73, e75, Reg.eval_const, resolve, invoke, List.map_toArray, List.map_cons, List.map_nil]; go_simp) ?_
                  refine (HNUM.out W (hW.2.1 hmi)).mono ?_
                  rintro e W' ⟨rfl, hg, hs⟩; exact ⟨_, rfl, _, rfl, hg, rfl, grown2 hW.1 hg, fun h => (Bool.false_ne_true h.symm).elim, fun _ => hs⟩
                | 4, hoi =>
                  simp only [List.getElem?_toArray, List.getElem?_cons_succ, List.getElem?_cons_zero, Option.some.injEq] at hoi
                  subst hoi
                  refine Reg.ob2_plain rfl ?_
                  have e8 : a.eval (.tmp 8) = .pointer (some ⟨g5, 0, none⟩) := old 8 (by kernel_rfl)
                  refine Reg.wp_val (W' := W) (v := .pointer (some ⟨g5, 1, none⟩)) (by simp only [execOp, e8, Reg.eval_const, resolve, invoke, builtin, List.map_toArray, List.map_cons, List.map_nil, Option.map_some, Option.map_none]; (first | rfl | go_simp | (go_simp; rfl))) ⟨_, rfl, World.grownBy.refl _ _, rfl, hW⟩
                | 5, hoi =>
                  simp only [List.getElem?_toArray, List.getElem?_cons_succ, List.getElem?_cons_zero, Option.some.injEq] at hoi
                  subst hoi
                  refine Reg.ob2_plain rfl ?_
                  have e77 : a.eval (.tmp 77) = .pointer (some ⟨g5, 1, none⟩) := need 4 _ 77 rfl rfl (by kernel_rfl) (by kernel_rfl)
                  have hx := (HCELL.out W hW.1).1
                  refine Reg.wp_val (W' := W) (v := .int .u64 n) (by simp only [execOp, e77, Reg.eval_const, resolve, invoke, builtin, List.map_toArray, List.map_cons, List.map_nil, Option.map_some, Option.map_none]; (first | rfl | go_simp | (go_simp; rfl))) ⟨_, rfl, World.grownBy.refl _ _, rfl, hW⟩
                | 6, hoi =>
                  simp only [List.getElem?_toArray, List.getElem?_cons_succ, List.getElem?_cons_zero, Option.some.injEq] at hoi
                  subst hoi
                  refine Reg.ob2_plain rfl ?_
                  have e76 : a.eval (.tmp 76) = .int .u64 n := need 3 _ 76 rfl rfl (by kernel_rfl) (by kernel_rfl)
                  have e78 : a.eval (.tmp 78) = .int .u64 n := need 5 _ 78 rfl rfl (by kernel_rfl) (by kernel_rfl)
                  have hbb := beq_self_eq_true n
                  refine Reg.wp_val (W' := W) (v := .bool true) (by simp only [execOp, e76, e78, Reg.eval_const, resolve, invoke, builtin, List.map_toArray, List.map_cons, List.map_nil, Option.map_some, Option.map_none]; (first | rfl | go_simp | (go_simp; rfl))) ⟨_, rfl, World.grownBy.refl _ _, rfl, hW⟩
                | 7, hoi =>
                  simp only [List.getElem?_toArray, List.getElem?_cons_succ, List.getElem?_cons_zero, Option.some.injEq] at hoi
                  subst hoi
                  refine Reg.ob2_plain rfl ?_
                  have e79 : a.eval (.tmp 79) = .bool true := need 6 _ 79 rfl rfl (by kernel_rfl) (by kernel_rfl)
                  refine Reg.wp_val (W' := W) (v := _) (by simp only [execOp, e79, Reg.eval_const]; rfl) ⟨_, rfl, World.grownBy.refl _ _, rfl, hW⟩
                | n + 8, hoi => simp at hoi
              · intro a w10 m hW hall hsize hdef got same did
                have ha := Reg.act_of [73, 74, 75, 76, 77, 78, 79, 9] hsize hdef same (by kernel_rfl)
                simp only [List.foldl_cons, List.foldl_nil] at ha
                generalize a.tmps.getD 73 undef = y73 at ha
                generalize a.tmps.getD 74 undef = y74 at ha
                generalize a.tmps.getD 75 undef = y75 at ha
                generalize a.tmps.getD 76 undef = y76 at ha
                generalize a.tmps.getD 77 undef = y77 at ha
                generalize a.tmps.getD 78 undef = y78 at ha
                generalize a.tmps.getD 79 undef = y79 at ha
                have k9 := got 7 _ 9 rfl rfl (by kernel_rfl)
                simp only at k9
                rw [k9] at ha
                clear k9
                clear got same hsize hdef did
                subst ha
                simp only [List.setIfInBounds_toArray, List.set_cons_zero, List.set_cons_succ]

                have hb := hall
                obtain ⟨f1, f2⟩ := FIN.out w10 hW.1 (hW.2.2 (hall 3 (by decide)))
                go_wp2
                exact ⟨⟨k + 1, by go_num, by omega, f1, f2⟩, by simp [intOf]; omega⟩
            · by_cases hk1 : kd = 1
              · subst hk1
                have hvar : ∀ W : World, Src W g true (vr n ++ rest) 0 → Calls Try.prog 27 #[.pointer (some ⟨g, 0, none⟩), .int .u64 18446744073709551615] W fun e W' => e = .returned (.int .u64 n) ∧ W.grownBy W' (some g) ∧ Src W' g true (rest) 0 := fun W hs => by
                  have := Var_calls W g true _ 0 18446744073709551615 hs (bytesOk_append (MOct.vr_range _) hokr)
                  rwa [varS_vr n 18446744073709551615 (rest) n0 n1 (by omega)] at this
                have HVAR := Lib.hid hvar
                have HP0 : Hid (Src W5.drew g true (vr n ++ rest) 0) := Lib.hid (by have := HS5.out; simp only [enc, if_true, if_neg hk0] at this; exact this.below (Bel.drew W5))
                clear hvar
                go_wp2_with fail
                refine Reg.region_gen (P := Try.prog) (Ext := fun i W W' => W.grownBy W' (some g)) (R := fun i v W => match i with
                    | 0 => v = .pointer (some ⟨g, 0, none⟩)
                    | 1 => v = .int .u64 n
                    | 2 => v = .pointer (some ⟨g5, 1, none⟩)
                    | 3 => v = .int .u64 n
                    | 4 => v = .bool true
                    | 5 => v = .bool true
                    | _ => True) [] (fun m W => W5.grownBy W (some g) ∧ (m 1 = false → Src W g true (vr n ++ rest) 0) ∧ (m 1 = true → Src W g true rest 0)) rfl (by kernel_rfl) (by kernel_rfl) ⟨only_drew (World.grownBy.refl _ _), fun _ => HP0.out, fun h => (Bool.false_ne_true h).elim⟩ (fun i W => World.grownBy.refl _ _) (by intro i j v W W' hij hk hr hx h; split at h <;> first | exact h | exact RB.only h hgW hx) ?_ ?_
                · intro i oi hoi a W m hW hmi hpre need old
                  match i, hoi with
                  | 0, hoi =>
                    simp only [List.getElem?_toArray, List.getElem?_cons_succ, List.getElem?_cons_zero, Option.some.injEq] at hoi
                    subst hoi
                    refine Reg.ob2_plain rfl ?_
                    have e6 : a.eval (.tmp 6) = .pointer (some ⟨g, 0, none⟩) := old 6 (by kernel_rfl)
                    refine Reg.wp_val (W' := W) (v := _) (by simp only [execOp, e6, Reg.eval_const]; rfl) ⟨_, rfl, World.grownBy.refl _ _, rfl, hW⟩
                  | 1, hoi =>
                    simp only [List.getElem?_toArray, List.getElem?_cons_succ, List.getElem?_cons_zero, Option.some.injEq] at hoi
                    subst hoi
                    refine Reg.ob2_plain rfl ?_
                    have e82 : a.eval (.tmp 82) = .pointer (some ⟨g, 0, none⟩) := need 0 _ 82 rfl rfl (by kernel_rfl) (by kernel_rfl)
                    refine Reg.wp_call (f := 27) (args := #[.pointer (some ⟨g, 0, none⟩), .int .u64 18446744073709551615]) (by simp only [execOp, e82, Reg.eval_const, resolve, invoke, List.map_toArray, List.map_cons, List.map_nil]; go_simp) ?_
                    refine (HVAR.out W (hW.2.1 hmi)).mono ?_
                    rintro e W' ⟨rfl, hg, hs⟩; exact ⟨_, rfl, _, rfl, hg, rfl, grown2 hW.1 hg, fun h => (Bool.false_ne_true h.symm).elim, fun _ => hs⟩
                  | 2, hoi =>
                    simp only [List.getElem?_toArray, List.getElem?_cons_succ, List.getElem?_cons_zero, Option.some.injEq] at hoi
                    subst hoi
                    refine Reg.ob2_plain rfl ?_
                    have e8 : a.eval (.tmp 8) = .pointer (some ⟨g5, 0, none⟩) := old 8 (by kernel_rfl)
                    refine Reg.wp_val (W' := W) (v := .pointer (some ⟨g5, 1, none⟩)) (by simp only [execOp, e8, Reg.eval_const, resolve, invoke, builtin, List.map_toArray, List.map_cons, List.map_nil, Option.map_some, Option.map_none]; (first | rfl | go_simp | (go_simp; rfl))) ⟨_, rfl, World.grownBy.refl _ _, rfl, hW⟩
                  | 3, hoi =>
                    simp only [List.getElem?_toArray, List.getElem?_cons_succ, List.getElem?_cons_zero, Option.some.injEq] at hoi
                    subst hoi
                    refine Reg.ob2_plain rfl ?_
                    have e84 : a.eval (.tmp 84) = .pointer (some ⟨g5, 1, none⟩) := need 2 _ 84 rfl rfl (by kernel_rfl) (by kernel_rfl)
                    have hx := (HCELL.out W hW.1).1
                    refine Reg.wp_val (W' := W) (v := .int .u64 n) (by simp only [execOp, e84, Reg.eval_const, resolve, invoke, builtin, List.map_toArray, List.map_cons, List.map_nil, Option.map_some, Option.map_none]; (first | rfl | go_simp | (go_simp; rfl))) ⟨_, rfl, World.grownBy.refl _ _, rfl, hW⟩
                  | 4, hoi =>
                    simp only [List.getElem?_toArray, List.getElem?_cons_succ, List.getElem?_cons_zero, Option.some.injEq] at hoi
                    subst hoi
                    refine Reg.ob2_plain rfl ?_
                    have e83 : a.eval (.tmp 83) = .int .u64 n := need 1 _ 83 rfl rfl (by kernel_rfl) (by kernel_rfl)
                    have e85 : a.eval (.tmp 85) = .int .u64 n := need 3 _ 85 rfl rfl (by kernel_rfl) (by kernel_rfl)
                    have hbb := beq_self_eq_true n
                    refine Reg.wp_val (W' := W) (v := .bool true) (by simp only [execOp, e83, e85, Reg.eval_const, resolve, invoke, builtin, List.map_toArray, List.map_cons, List.map_nil, Option.map_some, Option.map_none]; (first | rfl | go_simp | (go_simp; rfl))) ⟨_, rfl, World.grownBy.refl _ _, rfl, hW⟩
                  | 5, hoi =>
                    simp only [List.getElem?_toArray, List.getElem?_cons_succ, List.getElem?_cons_zero, Option.some.injEq] at hoi
                    subst hoi
                    refine Reg.ob2_plain rfl ?_
                    have e86 : a.eval (.tmp 86) = .bool true := need 4 _ 86 rfl rfl (by kernel_rfl) (by kernel_rfl)
                    refine Reg.wp_val (W' := W) (v := _) (by simp only [execOp, e86, Reg.eval_const]; rfl) ⟨_, rfl, World.grownBy.refl _ _, rfl, hW⟩
                  | n + 6, hoi => simp at hoi
                · intro a w10 m hW hall hsize hdef got same did
                  have ha := Reg.act_of [82, 83, 84, 85, 86, 9] hsize hdef same (by kernel_rfl)
                  simp only [List.foldl_cons, List.foldl_nil] at ha
                  generalize a.tmps.getD 82 undef = y82 at ha
                  generalize a.tmps.getD 83 undef = y83 at ha
                  generalize a.tmps.getD 84 undef = y84 at ha
                  generalize a.tmps.getD 85 undef = y85 at ha
                  generalize a.tmps.getD 86 undef = y86 at ha
                  have k9 := got 5 _ 9 rfl rfl (by kernel_rfl)
                  simp only at k9
                  rw [k9] at ha
                  clear k9
                  clear got same hsize hdef did
                  subst ha
                  simp only [List.setIfInBounds_toArray, List.set_cons_zero, List.set_cons_succ]

                  have hb := hall
                  obtain ⟨f1, f2⟩ := FIN.out w10 hW.1 (hW.2.2 (hall 1 (by decide)))
                  go_wp2
                  exact ⟨⟨k + 1, by go_num, by omega, f1, f2⟩, by simp [intOf]; omega⟩
              · have hvar : ∀ W : World, Src W g true (vr (bs.length : Int) ++ (bs ++ rest)) 0 → Calls Try.prog 27 #[.pointer (some ⟨g, 0, none⟩), .int .u64 100] W fun e W' => e = .returned (.int .u64 (bs.length : Int)) ∧ W.grownBy W' (some g) ∧ Src W' g true (bs ++ rest) 0 := fun W hs => by
                  have := Var_calls W g true _ 0 100 hs (bytesOk_append (MOct.vr_range _) (bytesOk_append hokb hokr))
                  rwa [varS_vr (bs.length : Int) 100 (bs ++ rest) (by omega) (by omega) (by omega)] at this
                have HVAR := Lib.hid hvar
                have hbyt : ∀ W : World, Src W g true (bs ++ rest) 0 → Calls Try.prog 28 #[.pointer (some ⟨g, 0, none⟩), .int .i64 (bs.length : Int)] W fun e W' => ∃ v, e = .returned v ∧ RB W W' v bs ∧ W.grownBy W' (some g) ∧ Src W' g true rest 0 := fun W hs => by
                  have := Bytes_calls W g true _ 0 (bs.length : Int) hs (by rw [List.length_append]; omega)
                  rwa [bytesS_app bs rest] at this
                have HBYT := Lib.hid hbyt
                have HP0 : Hid (Src W5.drew g true (vr (bs.length : Int) ++ (bs ++ rest)) 0) := Lib.hid (by have := HS5.out; simp only [enc, if_neg hk0, if_neg hk1, List.append_assoc] at this; exact this.below (Bel.drew W5))
                clear hvar hbyt
                have b0 : (kd = 0) = False := by simpa using hk0
                go_wp2_with fail
                refine Reg.region_gen (P := Try.prog) (Ext := fun i W W' => W.grownBy W' (some g)) (R := fun i v W => match i with
                    | 0 => v = .pointer (some ⟨g, 0, none⟩)
                    | 1 => v = .pointer (some ⟨g, 0, none⟩)
                    | 2 => v = .int .u64 ↑bs.length
                    | 3 => v = .int .i64 ↑bs.length
                    | 4 => RB W5 W v bs
                    | 5 => v = .string (strOfNums bs)
                    | 6 => v = .pointer (some ⟨g5, 4, none⟩)
                    | 7 => v = .slice AB bs.length cB
                    | 8 => v = .string (strOfNums bs)
                    | 9 => v = .bool true
                    | 10 => v = .bool true
                    | _ => True) [] (fun m W => W5.grownBy W (some g) ∧ (m 2 = false → Src W g true (vr ↑bs.length ++ (bs ++ rest)) 0) ∧ (m 2 = true → m 4 = false → Src W g true (bs ++ rest) 0) ∧ (m 4 = true → m 2 = true ∧ Src W g true rest 0)) rfl (by kernel_rfl) (by kernel_rfl) ⟨only_drew (World.grownBy.refl _ _), fun _ => HP0.out, fun h => (Bool.false_ne_true h).elim, fun h => (Bool.false_ne_true h).elim⟩ (fun i W => World.grownBy.refl _ _) (by intro i j v W W' hij hk hr hx h; split at h <;> first | exact h | exact RB.only h hgW hx) ?_ ?_
                · intro i oi hoi a W m hW hmi hpre need old
                  match i, hoi with
                  | 0, hoi =>
                    simp only [List.getElem?_toArray, List.getElem?_cons_succ, List.getElem?_cons_zero, Option.some.injEq] at hoi
                    subst hoi
                    refine Reg.ob2_plain rfl ?_
                    have e6 : a.eval (.tmp 6) = .pointer (some ⟨g, 0, none⟩) := old 6 (by kernel_rfl)
                    refine Reg.wp_val (W' := W) (v := _) (by simp only [execOp, e6, Reg.eval_const]; rfl) ⟨_, rfl, World.grownBy.refl _ _, rfl, hW⟩
                  | 1, hoi =>
                    simp only [List.getElem?_toArray, List.getElem?_cons_succ, List.getElem?_cons_zero, Option.some.injEq] at hoi
                    subst hoi
                    refine Reg.ob2_plain rfl ?_
                    have e6 : a.eval (.tmp 6) = .pointer (some ⟨g, 0, none⟩) := old 6 (by kernel_rfl)
                    refine Reg.wp_val (W' := W) (v := _) (by simp only [execOp, e6, Reg.eval_const]; rfl) ⟨_, rfl, World.grownBy.refl _ _, rfl, hW⟩
                  | 2, hoi =>
                    simp only [List.getElem?_toArray, List.getElem?_cons_succ, List.getElem?_cons_zero, Option.some.injEq] at hoi
                    subst hoi
                    refine Reg.ob2_plain rfl ?_
                    have e62 : a.eval (.tmp 62) = .pointer (some ⟨g, 0, none⟩) := need 1 _ 62 rfl rfl (by kernel_rfl) (by kernel_rfl)
                    refine Reg.wp_call (f := 27) (args := #[.pointer (some ⟨g, 0, none⟩), .int .u64 100]) (by simp only [execOp, e62, Reg.eval_const, resolve, invoke, List.map_toArray, List.map_cons, List.map_nil]; go_simp) ?_
                    refine (HVAR.out W (hW.2.1 hmi)).mono ?_
                    rintro e W' ⟨rfl, hg, hs⟩; exact ⟨_, rfl, _, rfl, hg, rfl, grown2 hW.1 hg, fun h => (Bool.false_ne_true h.symm).elim, fun _ _ => hs, fun h => (Bool.false_ne_true (hmi.symm.trans (hW.2.2.2 h).1)).elim⟩
                  | 3, hoi =>
                    simp only [List.getElem?_toArray, List.getElem?_cons_succ, List.getElem?_cons_zero, Option.some.injEq] at hoi
                    subst hoi
                    refine Reg.ob2_plain rfl ?_
                    have e63 : a.eval (.tmp 63) = .int .u64 ↑bs.length := need 2 _ 63 rfl rfl (by kernel_rfl) (by kernel_rfl)
                    have hwr : IntKind.i64.wrap (bs.length : Int) = (bs.length : Int) := by rw [IntKind.wrap_i64]; omega
                    refine Reg.wp_val (W' := W) (v := .int .i64 ↑bs.length) (by simp only [execOp, e63, Reg.eval_const, resolve, invoke, builtin, List.map_toArray, List.map_cons, List.map_nil, Option.map_some, Option.map_none]; (first | rfl | go_simp | (go_simp; rfl))) ⟨_, rfl, World.grownBy.refl _ _, rfl, hW⟩
                  | 4, hoi =>
                    simp only [List.getElem?_toArray, List.getElem?_cons_succ, List.getElem?_cons_zero, Option.some.injEq] at hoi
                    subst hoi
                    refine Reg.ob2_plain rfl ?_
                    have e61 : a.eval (.tmp 61) = .pointer (some ⟨g, 0, none⟩) := need 0 _ 61 rfl rfl (by kernel_rfl) (by kernel_rfl)
                    have e64 : a.eval (.tmp 64) = .int .i64 ↑bs.length := need 3 _ 64 rfl rfl (by kernel_rfl) (by kernel_rfl)
                    refine Reg.wp_call (f := 28) (args := #[.pointer (some ⟨g, 0, none⟩), .int .i64 ↑bs.length]) (by simp only [execOp, e61, e64, Reg.eval_const, resolve, invoke, List.map_toArray, List.map_cons, List.map_nil]; go_simp) ?_
                    refine (HBYT.out W (hW.2.2.1 (hpre 2 (by kernel_rfl)) hmi)).mono ?_
                    rintro e W' ⟨v, rfl, hr, hg, hs⟩; exact ⟨v, rfl, v, rfl, hg, hr.lower hW.1.size, grown2 hW.1 hg, fun h => (Bool.false_ne_true (h.symm.trans (hpre 2 (by kernel_rfl)))).elim, fun _ h => (Bool.false_ne_true h.symm).elim, fun _ => ⟨hpre 2 (by kernel_rfl), hs⟩⟩
                  | 5, hoi =>
                    simp only [List.getElem?_toArray, List.getElem?_cons_succ, List.getElem?_cons_zero, Option.some.injEq] at hoi
                    subst hoi
                    refine Reg.ob2_plain rfl ?_
                    have r65 := need 4 _ 65 rfl rfl (by kernel_rfl) (by kernel_rfl)
                    simp only at r65
                    obtain ⟨x65, e65⟩ : ∃ x, a.eval (.tmp 65) = x := ⟨_, rfl⟩
                    rw [← Reg.eval_tmp, e65] at r65
                    have hs := r65.str
                    refine Reg.wp_val (W' := W) (v := .string (strOfNums bs)) (by simp only [execOp, e65, Reg.eval_const, resolve, invoke, builtin, List.map_toArray, List.map_cons, List.map_nil, Option.map_some, Option.map_none]; (first | rfl | go_simp | (go_simp; rfl))) ⟨_, rfl, World.grownBy.refl _ _, rfl, hW⟩
                  | 6, hoi =>
                    simp only [List.getElem?_toArray, List.getElem?_cons_succ, List.getElem?_cons_zero, Option.some.injEq] at hoi
                    subst hoi
                    refine Reg.ob2_plain rfl ?_
                    have e8 : a.eval (.tmp 8) = .pointer (some ⟨g5, 0, none⟩) := old 8 (by kernel_rfl)
                    refine Reg.wp_val (W' := W) (v := .pointer (some ⟨g5, 4, none⟩)) (by simp only [execOp, e8, Reg.eval_const, resolve, invoke, builtin, List.map_toArray, List.map_cons, List.map_nil, Option.map_some, Option.map_none]; (first | rfl | go_simp | (go_simp; rfl))) ⟨_, rfl, World.grownBy.refl _ _, rfl, hW⟩
                  | 7, hoi =>
                    simp only [List.getElem?_toArray, List.getElem?_cons_succ, List.getElem?_cons_zero, Option.some.injEq] at hoi
                    subst hoi
                    refine Reg.ob2_plain rfl ?_
                    have e67 : a.eval (.tmp 67) = .pointer (some ⟨g5, 4, none⟩) := need 6 _ 67 rfl rfl (by kernel_rfl) (by kernel_rfl)
                    have hx := (HCELL.out W hW.1).2.2.1
                    refine Reg.wp_val (W' := W) (v := .slice AB bs.length cB) (by simp only [execOp, e67, Reg.eval_const, resolve, invoke, builtin, List.map_toArray, List.map_cons, List.map_nil, Option.map_some, Option.map_none]; (first | rfl | go_simp | (go_simp; rfl))) ⟨_, rfl, World.grownBy.refl _ _, rfl, hW⟩
                  | 8, hoi =>
                    simp only [List.getElem?_toArray, List.getElem?_cons_succ, List.getElem?_cons_zero, Option.some.injEq] at hoi
                    subst hoi
                    refine Reg.ob2_plain rfl ?_
                    have e68 : a.eval (.tmp 68) = .slice AB bs.length cB := need 7 _ 68 rfl rfl (by kernel_rfl) (by kernel_rfl)
                    have hs := ((HCELL.out W hW.1).2.2.2).str (c := cB)
                    refine Reg.wp_val (W' := W) (v := .string (strOfNums bs)) (by simp only [execOp, e68, Reg.eval_const, resolve, invoke, builtin, List.map_toArray, List.map_cons, List.map_nil, Option.map_some, Option.map_none]; (first | rfl | go_simp | (go_simp; rfl))) ⟨_, rfl, World.grownBy.refl _ _, rfl, hW⟩
                  | 9, hoi =>
                    simp only [List.getElem?_toArray, List.getElem?_cons_succ, List.getElem?_cons_zero, Option.some.injEq] at hoi
                    subst hoi
                    refine Reg.ob2_plain rfl ?_
                    have e66 : a.eval (.tmp 66) = .string (strOfNums bs) := need 5 _ 66 rfl rfl (by kernel_rfl) (by kernel_rfl)
                    have e69 : a.eval (.tmp 69) = .string (strOfNums bs) := need 8 _ 69 rfl rfl (by kernel_rfl) (by kernel_rfl)
                    have hbb := beq_self_eq_true ((strOfNums bs).toList)
                    refine Reg.wp_val (W' := W) (v := .bool true) (by simp only [execOp, e66, e69, Reg.eval_const, resolve, invoke, builtin, List.map_toArray, List.map_cons, List.map_nil, Option.map_some, Option.map_none]; (first | rfl | go_simp | (go_simp; rfl))) ⟨_, rfl, World.grownBy.refl _ _, rfl, hW⟩
                  | 10, hoi =>
                    simp only [List.getElem?_toArray, List.getElem?_cons_succ, List.getElem?_cons_zero, Option.some.injEq] at hoi
                    subst hoi
                    refine Reg.ob2_plain rfl ?_
                    have e70 : a.eval (.tmp 70) = .bool true := need 9 _ 70 rfl rfl (by kernel_rfl) (by kernel_rfl)
                    refine Reg.wp_val (W' := W) (v := _) (by simp only [execOp, e70, Reg.eval_const]; rfl) ⟨_, rfl, World.grownBy.refl _ _, rfl, hW⟩
                  | n + 11, hoi => simp at hoi
                · intro a w10 m hW hall hsize hdef got same did
                  have ha := Reg.act_of [61, 62, 63, 64, 65, 66, 67, 68, 69, 70, 9] hsize hdef same (by kernel_rfl)
                  simp only [List.foldl_cons, List.foldl_nil] at ha
                  generalize a.tmps.getD 61 undef = y61 at ha
                  generalize a.tmps.getD 62 undef = y62 at ha
                  generalize a.tmps.getD 63 undef = y63 at ha
                  generalize a.tmps.getD 64 undef = y64 at ha
                  generalize a.tmps.getD 65 undef = y65 at ha
                  generalize a.tmps.getD 66 undef = y66 at ha
                  generalize a.tmps.getD 67 undef = y67 at ha
                  generalize a.tmps.getD 68 undef = y68 at ha
                  generalize a.tmps.getD 69 undef = y69 at ha
                  generalize a.tmps.getD 70 undef = y70 at ha
                  have k9 := got 10 _ 9 rfl rfl (by kernel_rfl)
                  simp only at k9
                  rw [k9] at ha
                  clear k9
                  clear got same hsize hdef did
                  subst ha
                  simp only [List.setIfInBounds_toArray, List.set_cons_zero, List.set_cons_succ]

                  have hb := hall
                  obtain ⟨f1, f2⟩ := FIN.out w10 hW.1 (hW.2.2.2 (hall 4 (by decide))).2
                  go_wp2
                  exact ⟨⟨k + 1, by go_num, by omega, f1, f2⟩, by simp [intOf]; omega⟩
          · have hkl : k = l.length := by omega
            subst hkl
            have hS := HS.out
            rw [List.drop_length] at hS
            have HS9 := Lib.hid hS
            clear hS
            go_wp2_with (first
              | (go_at_call 32; refine (End_calls _ g true _ 0 HS9.out).mono ?_; rintro e w9 ⟨rfl, rfl⟩)
              | (go_at_call 30; refine (Left_calls _ g true _ 0 HS9.out).mono ?_; rintro e w9 ⟨rfl, rfl⟩)
              | (go_at_call 13; refine (lives02 _).mono ?_; rintro e w4 ⟨rfl, hb4⟩; have HB4 := Lib.hid hb4; clear hb4))
            go_ret
            exact ⟨rfl, bthen HB.out HB4.out⟩
end Go.Proofs.Ytlfcgicobhalmaa.K
