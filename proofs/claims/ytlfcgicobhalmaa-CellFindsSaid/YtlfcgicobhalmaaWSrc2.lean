/- The walks of octet.Source: Byte, Int, Var, Bytes, Left, Err, End, Read. -/
import Derived.Test.YtlfcgicobhalmaaBase
import Derived.Test.YtlfcgicobhalmaaWSrc
namespace Go.Proofs.Ytlfcgicobhalmaa.K
open Go Go.RowKit Go.Proofs.YtlfcgicobhalmaaW.PrintWords Go.Proofs.YtlfcgicobhalmaaW.PrintLast Go.Proofs.YtlfcgicobhalmaaW.PrintMore
set_option linter.unusedVariables false
set_option linter.unusedSimpArgs false
open Go.Proofs.Ytlfcgicobhalmaa.MOct (W V tk sz vr num head getV le be many putL)

/-- Do bytes begin a Var that ends behind them? -/
def lacks (l : List Int) : Bool := decide ((l.length : Int) < 9) && !(l.any fun c => decide (c < 128))
theorem lacks1_calls (c : Int) (w : World) : Calls Try.prog 80 #[.int .u8 c] w fun e w' => e = .returned (.bool (decide (c < 128))) ∧ w = w' := by
  go_enter Try.func80, Try.ntmps80
  go_wp2
  go_ret
  exact ⟨rfl, rfl⟩
set_option maxHeartbeats 1000000 in
theorem index_calls (A : Option Addr) (c : Nat) (l : List Int) (w : World) (h : CB w A l) (hc : l.length ≤ c) (hl : l.length < 140737488355328) :
    Calls Try.prog 84 #[.slice A l.length c, .func (.func 80) #[] #[]] w fun e w' => ∃ r : Int, e = .returned (.int .i64 r) ∧ decide (r ≥ 0) = (l.any fun c => decide (c < 128)) ∧ w = w' := by
  have H := Lib.hid h
  have HL := Lib.hid hl
  clear h hl
  go_enter Try.func84, Try.ntmps84
  go_wp2
  go_loopw [8] (fun i wr => ∃ k : Nat, i = .int .i64 k ∧ k ≤ l.length ∧ Hid (w = wr) ∧ Hid ((l.take k).any (fun c => decide (c < 128)) = false)) (fun i _ => l.length - (intOf i).toNat)
  case atStart => exact ⟨0, rfl, by omega, Lib.hid rfl, Lib.hid (by simp)⟩
  case round =>
    obtain ⟨k, rfl, hk, HW, HA⟩ := hrel
    obtain rfl := HW.out
    by_cases hlt : k < l.length
    · obtain ⟨ad, rfl, had⟩ := CB.at_ H.out k hlt
      have ht : ∀ (hx : (l[k] < 128)), (l.any fun c => decide (c < 128)) = true := fun hx => by
        rw [List.any_eq_true]
        exact ⟨l[k], List.getElem_mem hlt, by simpa using hx⟩
      have hf : ∀ (hx : ¬ (l[k] < 128)), ((l.take (k + 1)).any fun c => decide (c < 128)) = false := fun hx => by
        rw [List.take_add_one, List.any_append, HA.out, List.getElem?_eq_getElem hlt]
        simpa using hx
      have HT := Lib.hid ht
      have HF := Lib.hid hf
      clear ht hf
      go_wp2_with (go_at_call 80; refine (lacks1_calls _ _).mono ?_; rintro e w0 ⟨rfl, rfl⟩)
      · rename_i hx
        go_ret
        exact ⟨k, rfl, by rw [HT.out hx]; simp, rfl⟩
      · rename_i hx
        go_goals
        have hl := HL.out
        have ew : wrap64 ((k : Int) + 1) = (k : Int) + 1 := Go.IntWalk.wrap64_in _ ⟨by omega, by omega⟩
        rw [ew]
        refine ⟨⟨k + 1, rfl, by omega, Lib.hid trivial, Lib.hid (HF.out hx)⟩, ?_⟩
        show l.length - ((k : Int) + 1).toNat < l.length - (k : Int).toNat
        omega
    · go_wp2_with fail
      have e : k = l.length := by omega
      subst e
      go_ret
      refine ⟨-1, rfl, ?_, rfl⟩
      have := HA.out
      rw [List.take_length] at this
      rw [this]; rfl
theorem contains_calls (A : Option Addr) (c : Nat) (l : List Int) (w : World) (h : CB w A l) (hc : l.length ≤ c) (hl : l.length < 140737488355328) :
    Calls Try.prog 79 #[.slice A l.length c, .func (.func 80) #[] #[]] w fun e w' => e = .returned (.bool (l.any fun c => decide (c < 128))) ∧ w = w' := by
  have H := Lib.hid h
  have HL := Lib.hid hl
  clear h hl
  go_enter Try.func79, Try.ntmps79
  go_wp2_with (go_at_call 84; refine (index_calls _ _ _ _ H.out hc HL.out).mono ?_; rintro e w0 ⟨r, rfl, hr, rfl⟩; have HR := Lib.hid hr; clear hr)
  go_ret
  exact ⟨by have := HR.out; rw [← this]; rfl, rfl⟩
theorem lacks_calls (A : Option Addr) (c : Nat) (l : List Int) (w : World) (h : CB w A l) (hc : l.length ≤ c) :
    Calls Try.prog 59 #[.slice A l.length c] w fun e w' => e = .returned (.bool (lacks l)) ∧ w = w' := by
  have H := Lib.hid h
  clear h
  by_cases hl : (l.length : Int) < 9
  · have e : lacks l = !(l.any fun c => decide (c < 128)) := by unfold lacks; simp [hl]
    rw [e]
    clear e
    go_enter Try.func59, Try.ntmps59
    go_wp2_with (go_at_call 79; refine (contains_calls _ _ _ _ H.out hc (by omega)).mono ?_; rintro e w0 ⟨rfl, rfl⟩)
    go_ret
    exact ⟨rfl, rfl⟩
  · have e : lacks l = false := by unfold lacks; simp [hl]
    rw [e]
    clear e
    go_enter Try.func59, Try.ntmps59
    go_wp2_with fail
    go_ret
    exact ⟨rfl, rfl⟩
/-- What is left, the first error, the end, of no source and of one. -/
theorem Left_nil (w : World) : Calls Try.prog 30 #[.pointer none] w fun e w' => e = .returned (.int .i64 0) ∧ w = w' := by
  go_enter Try.func30, Try.ntmps30
  go_wp2_with (go_at_call 61; refine (is_nil _).mono ?_; rintro e w0 ⟨rfl, rfl⟩)
  go_ret
  exact ⟨rfl, rfl⟩
theorem Left_calls (w : World) (g : Nat) (made : Bool) (l : List Int) (e : Int) (h : Src w g made l e) : Calls Try.prog 30 #[.pointer (some ⟨g, 0, none⟩)] w fun e' w' => e' = .returned (.int .i64 (if made then (l.length : Int) else 0)) ∧ w = w' := by
  have HS := Lib.hid h
  obtain ⟨A, c, h1, h2, h3⟩ := h
  have c1 : w.cell? ⟨g, 1, none⟩ = some (.slice A l.length c) := cell_of_row w g 1 _ 42 (0, 0) h1
  clear h1 h2 h3
  cases made
  all_goals
    go_enter Try.func30, Try.ntmps30
    go_wp2_with (go_at_call 61; refine (is_calls _ _ _ _ _ HS.out).mono ?_; rintro e w0 ⟨rfl, rfl⟩)
    go_ret
    exact ⟨rfl, rfl⟩
theorem Err_nil (w : World) : Calls Try.prog 31 #[.pointer none] w fun e w' => e = .returned (.int .i64 1) ∧ w = w' := by
  go_enter Try.func31, Try.ntmps31
  go_wp2_with (go_at_call 61; refine (is_nil _).mono ?_; rintro e w0 ⟨rfl, rfl⟩)
  go_ret
  exact ⟨rfl, rfl⟩
theorem Err_calls (w : World) (g : Nat) (made : Bool) (l : List Int) (e : Int) (h : Src w g made l e) : Calls Try.prog 31 #[.pointer (some ⟨g, 0, none⟩)] w fun e' w' => e' = .returned (.int .i64 (if made then e else 1)) ∧ w = w' := by
  have HS := Lib.hid h
  obtain ⟨A, c, h1, h2, h3⟩ := h
  have c1 : w.cell? ⟨g, 2, none⟩ = some (.int .i64 e) := cell_of_row w g 2 _ 42 (0, 0) h1
  clear h1 h2 h3
  cases made
  all_goals
    go_enter Try.func31, Try.ntmps31
    go_wp2_with (go_at_call 61; refine (is_calls _ _ _ _ _ HS.out).mono ?_; rintro e w0 ⟨rfl, rfl⟩)
    go_ret
    exact ⟨rfl, rfl⟩
theorem End_nil (w : World) : Calls Try.prog 32 #[.pointer none] w fun e w' => e = .returned (.int .i64 1) ∧ w = w' := by
  go_enter Try.func32, Try.ntmps32
  go_wp2_with (go_at_call 31; refine (Err_nil _).mono ?_; rintro e w0 ⟨rfl, rfl⟩)
  go_ret
  exact ⟨rfl, rfl⟩
/-- How a source ends. -/
def endS (made : Bool) (l : List Int) (e : Int) : Int := if made = false then 1 else if e ≠ 0 then e else if l.length = 0 then 0 else 9
theorem End_calls (w : World) (g : Nat) (made : Bool) (l : List Int) (e : Int) (h : Src w g made l e) : Calls Try.prog 32 #[.pointer (some ⟨g, 0, none⟩)] w fun e' w' => e' = .returned (.int .i64 (endS made l e)) ∧ w = w' := by
  have HS := Lib.hid h
  clear h
  cases made with
  | false =>
    go_enter Try.func32, Try.ntmps32
    go_wp2_with (go_at_call 31; refine (Err_calls _ _ _ _ _ HS.out).mono ?_; rintro e w0 ⟨rfl, rfl⟩)
    go_ret
    exact ⟨rfl, rfl⟩
  | true =>
    by_cases he : e = 0
    · subst he
      by_cases hl : l.length = 0
      · have hx : endS true l 0 = 0 := by simp [endS, hl]
        rw [hx]
        go_enter Try.func32, Try.ntmps32
        go_wp2_with (first
          | (go_at_call 31; refine (Err_calls _ _ _ _ _ HS.out).mono ?_; rintro e w0 ⟨rfl, rfl⟩)
          | (go_at_call 30; refine (Left_calls _ _ _ _ _ HS.out).mono ?_; rintro e w0 ⟨rfl, rfl⟩))
        go_ret
        exact ⟨rfl, rfl⟩
      · have hx : endS true l 0 = 9 := by simp [endS, hl]
        rw [hx]
        go_enter Try.func32, Try.ntmps32
        go_wp2_with (first
          | (go_at_call 31; refine (Err_calls _ _ _ _ _ HS.out).mono ?_; rintro e w0 ⟨rfl, rfl⟩)
          | (go_at_call 30; refine (Left_calls _ _ _ _ _ HS.out).mono ?_; rintro e w0 ⟨rfl, rfl⟩))
        go_ret
        exact ⟨rfl, rfl⟩
    · have hx : endS true l e = e := by simp [endS, he]
      rw [hx]
      have b1 : (e != 0) = true := by simpa using he
      go_enter Try.func32, Try.ntmps32
      go_wp2_with (go_at_call 31; refine (Err_calls _ _ _ _ _ HS.out).mono ?_; rintro e w0 ⟨rfl, rfl⟩)
      go_ret
      exact ⟨rfl, rfl⟩
theorem Int_nil (w : World) (little : Bool) : Calls Try.prog 26 #[.pointer none, .bool little] w fun e w' => e = .returned (.int .i64 0) ∧ Below w.heap.size w w' := by
  go_enter Try.func26, Try.ntmps26
  go_wp2_with (go_at_call 25; refine (Num_nil _ _ _).mono ?_; rintro e w1 ⟨rfl, hb⟩; have HB := Lib.hid hb; clear hb)
  go_ret
  exact ⟨rfl, HB.out⟩
theorem Int_calls (w : World) (g : Nat) (made : Bool) (l : List Int) (e : Int) (little : Bool) (h : Src w g made l e) (hb : bytesOk l) :
    Calls Try.prog 26 #[.pointer (some ⟨g, 0, none⟩), .bool little] w fun e' w' => e' = .returned (.int .i64 (wrap64 (numS made l e 8 little).1)) ∧ w.grownBy w' (some g) ∧ Src w' g made (numS made l e 8 little).2.1 (numS made l e 8 little).2.2 := by
  have HS := Lib.hid h
  have HB := Lib.hid hb
  clear h hb
  go_enter Try.func26, Try.ntmps26
  go_wp2_with (go_at_call 25; refine (Num_calls _ _ _ _ _ _ _ HS.out HB.out).mono ?_; rintro e w1 ⟨rfl, hb1, hs1⟩; have HB1 := Lib.hid hb1; have HS1 := Lib.hid hs1; clear hb1 hs1)
  go_ret
  exact ⟨rfl, HB1.out, HS1.out⟩

theorem Byte_nil (w : World) : Calls Try.prog 29 #[.pointer none] w fun e w' => e = .returned (.int .u8 0) ∧ Below w.heap.size w w' := by
  go_enter Try.func29, Try.ntmps29
  go_wp2_with (go_at_call 25; refine (Num_nil _ _ _).mono ?_; rintro e w1 ⟨rfl, hb⟩; have HB := Lib.hid hb; clear hb)
  go_ret
  exact ⟨rfl, HB.out⟩
theorem Byte_calls (w : World) (g : Nat) (made : Bool) (l : List Int) (e : Int) (h : Src w g made l e) (hb : bytesOk l) :
    Calls Try.prog 29 #[.pointer (some ⟨g, 0, none⟩)] w fun e' w' => e' = .returned (.int .u8 (IntKind.u8.wrap (numS made l e 1 false).1)) ∧ w.grownBy w' (some g) ∧ Src w' g made (numS made l e 1 false).2.1 (numS made l e 1 false).2.2 := by
  have HS := Lib.hid h
  have HB := Lib.hid hb
  clear h hb
  go_enter Try.func29, Try.ntmps29
  go_wp2_with (go_at_call 25; refine (Num_calls _ _ _ _ _ _ _ HS.out HB.out).mono ?_; rintro e w1 ⟨rfl, hb1, hs1⟩; have HB1 := Lib.hid hb1; have HS1 := Lib.hid hs1; clear hb1 hs1)
  go_ret
  exact ⟨rfl, HB1.out, HS1.out⟩
/-- What a Var of a source is: its number, how many bytes, the error. -/
def varR (l : List Int) (gr : Int) : Int × Int × Int := if (MOct.take l).2 = 0 then (0, 0, if lacks l then 8 else 9) else if (MOct.take l).1 > gr then (0, 0, 11) else ((MOct.take l).1, (MOct.take l).2, 0)
set_option maxHeartbeats 1000000 in
theorem var1_calls (w : World) (g ps pg pn : Nat) (l : List Int) (gr : Int) (h : Src w g true l 0) (hb : bytesOk l)
    (hs : w.cell? ⟨ps, 0, none⟩ = some (.pointer (some ⟨g, 0, none⟩))) (hg : w.cell? ⟨pg, 0, none⟩ = some (.int .u64 gr)) (hn : w.heap[pn]? = some (.cells #[.int .u64 0] 22 (0, 0))) :
    Calls Try.prog 58 #[.pointer (some ⟨ps, 0, none⟩), .pointer (some ⟨pg, 0, none⟩), .pointer (some ⟨pn, 0, none⟩)] w fun e w' =>
      e = .returned (.tuple #[.int .i64 (varR l gr).2.1, .int .i64 (varR l gr).2.2]) ∧ w.grownBy w' (some pn) ∧ w'.heap[pn]? = some (.cells #[.int .u64 (varR l gr).1] 22 (0, 0)) := by
  obtain ⟨A, c, h1, h2, h3⟩ := h
  have h3 := h3.cb
  have c1 : w.cell? ⟨g, 1, none⟩ = some (.slice A l.length c) := cell_of_row w g 1 _ 42 (0, 0) h1
  have cn : w.cell? ⟨pn, 0, none⟩ = some (.int .u64 0) := cell_of_row w pn 0 _ 22 (0, 0) hn
  have fn : w.frozen? ⟨pn, 0, none⟩ = false := by simp [World.frozen?, hn]
  have HN := Lib.hid hn
  have H3 := Lib.hid h3
  have HB := Lib.hid hb
  obtain ⟨xk, hxk⟩ : ∃ xk, MOct.take l = xk := ⟨_, rfl⟩
  obtain ⟨x, k⟩ := xk
  clear h1 h3 hb hn
  have hT := octet_Take_calls A c l w H3.out h2 HB.out
  rw [hxk] at hT
  have HT := Lib.hid hT
  clear hT
  by_cases hk : k = 0
  · subst hk
    have e : varR l gr = (0, 0, if lacks l then 8 else 9) := by unfold varR; rw [hxk]; simp
    rw [e]
    clear e hxk
    cases hlk : lacks l
    all_goals
      have hL := lacks_calls A c l w H3.out h2
      rw [hlk] at hL
      have HL := Lib.hid hL
      clear hL hlk
      go_enter Try.func58, Try.ntmps58
      go_wp2_with (first
        | (go_at_call 12; refine (HT.out).mono ?_; rintro e w0 ⟨rfl, rfl⟩)
        | (go_at_call 59; refine (HL.out).mono ?_; rintro e w0 ⟨rfl, rfl⟩))
      go_ret2
      exact ⟨rfl, World.grownBy.refl _ _, HN.out⟩
  · by_cases hx : x > gr
    · have e : varR l gr = (0, 0, 11) := by unfold varR; rw [hxk]; simp [hk, hx]
      rw [e]
      clear e hxk
      go_enter Try.func58, Try.ntmps58
      go_wp2_with (go_at_call 12; refine (HT.out).mono ?_; rintro e w0 ⟨rfl, rfl⟩)
      go_ret2
      exact ⟨rfl, World.grownBy.refl _ _, HN.out⟩
    · have e : varR l gr = (x, k, 0) := by unfold varR; rw [hxk]; simp [hk, hx]
      rw [e]
      clear e hxk
      go_enter Try.func58, Try.ntmps58
      go_wp2_with (go_at_call 12; refine (HT.out).mono ?_; rintro e w0 ⟨rfl, rfl⟩)
      go_ret2
      refine ⟨rfl, only_setCell (g := pn) (p := ⟨pn, 0, none⟩) (World.grownBy.refl _ _) (.inl rfl) _, ?_⟩
      have := heap_set w pn 0 22 _ (.int .u64 x) HN.out
      simpa using this
set_option maxHeartbeats 1000000 in
theorem step58_calls (W : World) (g pn : Nat) (caps : Array Value) (l : List Int) (n e1 : Int) (R : World → Prop) (h : Src W g true l 0) (hne : g ≠ pn) (hpn : ∃ u t, W.heap[pn]? = some (.cells #[u] t (0, 0)) ∧ ∀ x, u ≠ .int .u8 x)
    (hdo : ∀ w0 : World, w0 = W → Calls Try.prog 58 caps w0 fun e w1 => e = .returned (.tuple #[.int .i64 n, .int .i64 e1]) ∧ w0.grownBy w1 (some pn) ∧ R w1)
    (hn : e1 = 0 → 0 ≤ n ∧ n ≤ l.length) (hR : ∀ w1 w2 : World, w1.grownBy w2 (some g) → R w1 → R w2) :
    Calls Try.prog 56 #[.pointer (some ⟨g, 0, none⟩), .func (.func 58) #[] caps] W fun e w' => e = .returned (.tuple #[]) ∧ Two W w' g pn ∧ Src w' g true (if e1 = 0 then l.drop n.toNat else []) e1 ∧ R w' := by
  obtain ⟨A, c, h1, h2, h3⟩ := h
  have c0 : W.cell? ⟨g, 0, none⟩ = some (.bool true) := cell_of_row W g 0 _ 42 (0, 0) h1
  have c2 : W.cell? ⟨g, 2, none⟩ = some (.int .i64 0) := cell_of_row W g 2 _ 42 (0, 0) h1
  have H1 := Lib.hid h1
  have H2 := Lib.hid h2
  have H3 := Lib.hid h3
  have HD := Lib.hid hdo
  have HN := Lib.hid hn
  have HR := Lib.hid hR
  have HP := Lib.hid hpn
  clear h1 h2 h3 hdo hn hR hpn
  go_enter Try.func56, Try.ntmps56
  have hsrc : Src W g true l 0 := ⟨A, c, H1.out, H2.out, H3.out⟩
  have HS := Lib.hid hsrc
  clear hsrc
  by_cases he : e1 = 0
  · subst he
    obtain ⟨hn0, hnl⟩ := HN.out rfl
    obtain ⟨m, rfl⟩ : ∃ m : Nat, n = m := ⟨n.toNat, by omega⟩
    go_wp2_with (first
        | (go_at_call 61; refine (is_calls _ g true l 0 HS.out).mono ?_; rintro e w0 ⟨rfl, rfl⟩)
        | (go_at_call 58; refine (HD.out _ rfl).mono ?_; rintro e w1 ⟨rfl, hg1, hr1⟩
           have hs1 := HS.out.kept hne HP.out hg1
           obtain ⟨A1, c1, k1, k2, k3⟩ := hs1
           have q1 : w1.cell? ⟨g, 1, none⟩ = some (.slice A1 l.length c1) := cell_of_row w1 g 1 _ 42 (0, 0) k1
           have f1 : w1.frozen? ⟨g, 1, none⟩ = false := by simp [World.frozen?, k1]
           have K1 := Lib.hid k1
           have K2 := Lib.hid k2
           have K3 := Lib.hid k3
           have G1 := Lib.hid hg1
           have R1 := Lib.hid hr1
           clear k1 k3 hg1 hr1))
    · go_end0
      obtain ⟨s1, s2⟩ := Src.cut K1.out k2 K3.out (by omega) A1 (l.length - m) 0 (by rw [if_pos (by omega)]) rfl (by omega)
      exact ⟨rfl, Two.then_g (Two.of_k G1.out) s2, s1, HR.out _ _ s2 R1.out⟩
    · go_end0
      obtain ⟨s1, s2⟩ := Src.cut K1.out k2 K3.out (by omega) (A1.map (fun x => x.add m)) (l.length - m) (c1 - m) (by rw [if_neg (by assumption)]) rfl rfl
      exact ⟨rfl, Two.then_g (Two.of_k G1.out) s2, s1, HR.out _ _ s2 R1.out⟩
  · have b1 : (e1 != 0) = true := by simpa using he
    rw [if_neg he]
    clear he
    go_wp2_with (first
        | (go_at_call 61; refine (is_calls _ g true l 0 HS.out).mono ?_; rintro e w0 ⟨rfl, rfl⟩)
        | (go_at_call 58; refine (HD.out _ rfl).mono ?_; rintro e w1 ⟨rfl, hg1, hr1⟩
           have hs1 := Lib.hid (HS.out.kept hne HP.out hg1)
           have G1 := Lib.hid hg1
           have R1 := Lib.hid hr1
           clear hg1 hr1)
        | (go_at_call 78; refine (fail_calls _ g true l e1 hs1.out).mono ?_; rintro e w2 ⟨rfl, g2, s2⟩))
    refine bodyPost_ret (results_none rfl _ _ _) rfl ?_
    exact ⟨rfl, Two.then_g (Two.of_k G1.out) g2, s2, HR.out _ _ g2 R1.out⟩


/-- What a source's Var tells, what is left, and the first error. -/
def varS (made : Bool) (l : List Int) (e gr : Int) : Int × List Int × Int :=
  if made = false ∨ e ≠ 0 then (0, l, e) else ((varR l gr).1, (if (varR l gr).2.2 = 0 then l.drop (varR l gr).2.1.toNat else []), (varR l gr).2.2)
theorem three (w : World) (o1 o2 o3 : Obj) : (((w.alloc o1).alloc o2).alloc o3).heap[w.heap.size]? = some o1 ∧ (((w.alloc o1).alloc o2).alloc o3).heap[w.heap.size + 1]? = some o2 ∧ (((w.alloc o1).alloc o2).alloc o3).heap[w.heap.size + 1 + 1]? = some o3 := by
  have s1 : (w.alloc o1).heap.size = w.heap.size + 1 := by simp
  have s2 : ((w.alloc o1).alloc o2).heap.size = w.heap.size + 1 + 1 := by simp
  have n1 := heap_alloc_new w o1
  have n2 := heap_alloc_new (w.alloc o1) o2
  have n3 := heap_alloc_new ((w.alloc o1).alloc o2) o3
  rw [s1] at n2
  rw [s2] at n3
  refine ⟨?_, ?_, n3⟩
  · rw [Below.heap_alloc _ _ _ (by omega), Below.heap_alloc _ _ _ (by omega)]; exact n1
  · rw [Below.heap_alloc _ _ _ (by omega)]; exact n2
set_option maxHeartbeats 1000000 in
theorem Var_of (w : World) (p : Value) (g : Nat) (gr v : Int) (Q : World → Prop)
    (hstep : ∀ W4 : World, Below w.heap.size w W4 → W4.heap[w.heap.size]? = some (.cells #[p] 43 (0, 0)) → W4.heap[w.heap.size + 1]? = some (.cells #[.int .u64 gr] 22 (0, 0)) → W4.heap[w.heap.size + 1 + 1]? = some (.cells #[.int .u64 0] 22 (0, 0)) →
      Calls Try.prog 56 #[p, .func (.func 58) #[] #[.pointer (some ⟨w.heap.size, 0, none⟩), .pointer (some ⟨w.heap.size + 1, 0, none⟩), .pointer (some ⟨w.heap.size + 1 + 1, 0, none⟩)]] W4 fun e w2 =>
        e = .returned (.tuple #[]) ∧ Q w2 ∧ w2.heap[w.heap.size + 1 + 1]? = some (.cells #[.int .u64 v] 22 (0, 0))) (hp : p = .pointer none ∨ p = .pointer (some ⟨g, 0, none⟩)) :
    Calls Try.prog 27 #[p, .int .u64 gr] w fun e' w' => e' = .returned (.int .u64 v) ∧ Q w' := by
  have HST := Lib.hid hstep
  clear hstep
  have HP := Lib.hid hp
  obtain ⟨pp, rfl⟩ : ∃ a, p = .pointer a := by rcases hp with rfl | rfl <;> exact ⟨_, rfl⟩
  clear hp
  go_enter Try.func27, Try.ntmps27
  go_upto_region 2 with (fail)
  generalize hW4 : ((w.alloc (Obj.cells #[Value.pointer pp] 43)).alloc (Obj.cells #[Value.int IntKind.u64 gr] 22)).alloc (Obj.cells #[Value.int IntKind.u64 0] 22) = W4
  obtain ⟨b0, b1, b2⟩ := three w (Obj.cells #[Value.pointer pp] 43) (Obj.cells #[Value.int IntKind.u64 gr] 22) (Obj.cells #[Value.int IntKind.u64 0] 22)
  have hB : Below w.heap.size w W4 := by
    subst hW4
    exact (((Below.refl _ _).alloc (Nat.le_refl _) _).alloc (by simp) _).alloc (by simp; omega) _
  rw [hW4] at b0 b1 b2
  have x0 : W4.cell? ⟨w.heap.size, 0, none⟩ = some (.pointer pp) := cell_of_row W4 _ 0 _ 43 (0, 0) b0
  have HS := Lib.hid (HST.out W4 hB b0 b1 b2)
  clear hB hW4 b0 b1 b2
  go_wp2_with (go_at_call 56; refine (HS.out).mono ?_; rintro e2 w2 ⟨rfl, hq, hr⟩; have x3 : w2.cell? ⟨w.heap.size + 1 + 1, 0, none⟩ = some (.int .u64 v) := cell_of_row w2 _ 0 _ 22 (0, 0) hr; have HQ := Lib.hid hq; clear hq hr)
  go_ret
  exact ⟨rfl, HQ.out⟩
theorem Var_nil (w : World) (gr : Int) : Calls Try.prog 27 #[.pointer none, .int .u64 gr] w fun e' w' => e' = .returned (.int .u64 0) ∧ Below w.heap.size w w' :=
  Var_of w (.pointer none) 0 gr 0 (fun w' => Below w.heap.size w w') (fun W4 hB b0 b1 b2 => (step_nil W4 _).mono (by rintro e2 w2 ⟨rfl, rfl⟩; exact ⟨rfl, hB, b2⟩)) (.inl rfl)
theorem Var_calls (w : World) (g : Nat) (made : Bool) (l : List Int) (e gr : Int) (h : Src w g made l e) (hb : bytesOk l) :
    Calls Try.prog 27 #[.pointer (some ⟨g, 0, none⟩), .int .u64 gr] w fun e' w' => e' = .returned (.int .u64 (varS made l e gr).1) ∧ w.grownBy w' (some g) ∧ Src w' g made (varS made l e gr).2.1 (varS made l e gr).2.2 := by
  have hlt := h.lt
  refine Var_of w (.pointer (some ⟨g, 0, none⟩)) g gr (varS made l e gr).1 (fun w' => w.grownBy w' (some g) ∧ Src w' g made (varS made l e gr).2.1 (varS made l e gr).2.2) ?_ (.inr rfl)
  intro W4 hB b0 b1 b2
  have hS := h.below hB
  have stab : ∀ (v : Int) (w1 w2 : World), w1.grownBy w2 (some g) → w1.heap[w.heap.size + 1 + 1]? = some (.cells #[.int .u64 v] 22 (0, 0)) → w2.heap[w.heap.size + 1 + 1]? = some (.cells #[.int .u64 v] 22 (0, 0)) :=
    fun v w1 w2 hg2 hr => (hg2.block _ (Array.getElem?_eq_some_iff.1 hr).1 (fun h => by have := Option.some.inj h; omega)).trans hr
  by_cases hm : made = false ∨ e ≠ 0
  · have hnum : varS made l e gr = (0, l, e) := by unfold varS; rw [if_pos hm]
    rw [hnum]
    refine (step_off W4 g made l e hS hm _).mono ?_
    rintro e2 w2 ⟨rfl, rfl⟩
    exact ⟨rfl, ⟨grown_of_below hB _, hS⟩, b2⟩
  · have hmt : made = true ∧ e = 0 := by cases made <;> simp_all
    obtain ⟨rfl, rfl⟩ := hmt
    have hnum : varS true l 0 gr = ((varR l gr).1, (if (varR l gr).2.2 = 0 then l.drop (varR l gr).2.1.toNat else []), (varR l gr).2.2) := by unfold varS; rw [if_neg hm]
    rw [hnum]
    have hle : (varR l gr).2.2 = 0 → 0 ≤ (varR l gr).2.1 ∧ (varR l gr).2.1 ≤ l.length := by
      unfold varR
      rcases MOct.take_tells l hb with ht | ⟨n, k, ht, k1, k2, _⟩
      · rw [ht, if_pos rfl]; intro _; simp
      · rw [ht]
        intro _
        repeat' split
        all_goals (dsimp only; omega)
    refine (step58_calls W4 g (w.heap.size + 1 + 1) _ l (varR l gr).2.1 (varR l gr).2.2 (fun W => W.heap[w.heap.size + 1 + 1]? = some (.cells #[.int .u64 (varR l gr).1] 22 (0, 0))) hS (by omega) ⟨_, _, b2, by simp⟩
      (fun w0 hw0 => var1_calls w0 g w.heap.size (w.heap.size + 1) (w.heap.size + 1 + 1) l gr (by rw [hw0]; exact hS) hb (by rw [hw0]; exact cell_of_row W4 _ 0 _ 43 (0, 0) b0) (by rw [hw0]; exact cell_of_row W4 _ 0 _ 22 (0, 0) b1) (by rw [hw0]; exact b2)) hle (stab _)).mono ?_
    rintro e2 w2 ⟨rfl, t2, s2, r2⟩
    exact ⟨rfl, ⟨Two.only hB t2 (by omega), s2⟩, r2⟩

theorem RB.only {w0 W W' : World} {v : Value} {l : List Int} {pn : Nat} (h : RB w0 W v l) (hp : pn < w0.heap.size) (hg : W.grownBy W' (some pn)) : RB w0 W' v l := Kd.R_grown1 h rfl hg (fun e => by have := Kd.R_base h pn e.symm; omega)
/-- One variable may have turned to a value of a kind. -/
def OneR (pn t : Nat) (Rv : Value → World → Prop) (W W' : World) : Prop := W.grownBy W' (some pn) ∧ ∀ u, W.heap[pn]? = some (.cells #[u] t (0, 0)) → W'.heap[pn]? = some (.cells #[u] t (0, 0)) ∨ ∃ v, W'.heap[pn]? = some (.cells #[v] t (0, 0)) ∧ Rv v W'
theorem OneR.refl (pn t : Nat) (Rv : Value → World → Prop) (W : World) : OneR pn t Rv W W := ⟨World.grownBy.refl _ _, fun u h => .inl h⟩
theorem OneR.below {pn t : Nat} {Rv : Value → World → Prop} {W W' : World} (h : Below W.heap.size W W') : OneR pn t Rv W W' :=
  ⟨grown_of_below h _, fun u hu => .inl ((h.block pn (Array.getElem?_eq_some_iff.1 hu).1).trans hu)⟩
theorem OneR.go {pn t : Nat} {Rv : Value → World → Prop} {w W W' : World} (h : w.grownBy W (some pn) ∧ ∃ u, W.heap[pn]? = some (.cells #[u] t (0, 0))) (k : OneR pn t Rv W W') : w.grownBy W' (some pn) ∧ ∃ u, W'.heap[pn]? = some (.cells #[u] t (0, 0)) := by
  obtain ⟨h1, u, hu⟩ := h
  refine ⟨grown2 h1 k.1, ?_⟩
  rcases k.2 u hu with h | ⟨v, h, _⟩
  · exact ⟨u, h⟩
  · exact ⟨v, h⟩
theorem OneR.kept {w0 : World} {pn t : Nat} {l : List Int} {W W' : World} (k : OneR pn t (fun v W => RB w0 W v l) W W') (h : ∃ v, W.heap[pn]? = some (.cells #[v] t (0, 0)) ∧ RB w0 W v l ∧ pn < w0.heap.size) : ∃ v, W'.heap[pn]? = some (.cells #[v] t (0, 0)) ∧ RB w0 W' v l ∧ pn < w0.heap.size := by
  obtain ⟨v, hv, hr, hp⟩ := h
  rcases k.2 v hv with h | ⟨u, h, h2⟩
  · exact ⟨v, h, RB.only hr hp k.1, hp⟩
  · exact ⟨u, h, h2, hp⟩
theorem OneR.store {w0 : World} {pn t : Nat} {l : List Int} {u : Value} {W : World} (h : W.heap[pn]? = some (.cells #[u] t (0, 0))) (X : Value) (hr : RB w0 W X l) (hp : pn < w0.heap.size) :
    OneR pn t (fun v W => RB w0 W v l) W (W.setCell ⟨pn, 0, none⟩ X) ∧ ∃ v, (W.setCell ⟨pn, 0, none⟩ X).heap[pn]? = some (.cells #[v] t (0, 0)) ∧ RB w0 (W.setCell ⟨pn, 0, none⟩ X) v l ∧ pn < w0.heap.size := by
  have e := heap_set W pn 0 t _ X h
  have e2 : (W.setCell ⟨pn, 0, none⟩ X).heap[pn]? = some (.cells #[X] t (0, 0)) := by simpa using e
  have g1 : W.grownBy (W.setCell ⟨pn, 0, none⟩ X) (some pn) := only_setCell (g := pn) (p := ⟨pn, 0, none⟩) (World.grownBy.refl _ _) (.inl rfl) _
  exact ⟨⟨g1, fun _ _ => .inr ⟨X, e2, RB.only hr hp g1⟩⟩, X, e2, RB.only hr hp g1, hp⟩
theorem clone57 (A : Option Addr) (c m : Nat) (l : List Int) (w : World) (h : CB w A (l.take m)) (hm : m ≤ l.length) (hc : l.length ≤ c) (hl : l.length < 140737488355328) : Calls Try.prog 54 #[.slice A m c] w fun e w' => ∃ v, e = .returned v ∧ RB w w' v (l.take m) ∧ Below w.heap.size w w' := by
  have e : (l.take m).length = m := by rw [List.length_take]; omega
  have := clone_calls A c (l.take m) w h (by omega) (by omega)
  rwa [e] at this
/-- What the next bytes of a source are: they, how many, the error. -/
def bytesR (l : List Int) (n : Int) : List Int × Int × Int := if n < 0 then ([], 0, 2) else if n > l.length then ([], 0, 8) else (l.take n.toNat, n, 0)
set_option maxHeartbeats 1000000 in
set_option maxRecDepth 100000 in
theorem bytes1_calls (w : World) (g pz ps pn : Nat) (l : List Int) (n : Int) (h : Src w g true l 0) (hl : l.length < 140737488355328)
    (hz : w.cell? ⟨pz, 0, none⟩ = some (.int .i64 n)) (hs : w.cell? ⟨ps, 0, none⟩ = some (.pointer (some ⟨g, 0, none⟩))) (hn : w.heap[pn]? = some (.cells #[.slice none 0 0] 23 (0, 0)))
    (nz : pz ≠ pn) (ns : ps ≠ pn) :
    Calls Try.prog 60 #[.pointer (some ⟨pz, 0, none⟩), .pointer (some ⟨ps, 0, none⟩), .pointer (some ⟨pn, 0, none⟩)] w fun e w' =>
      e = .returned (.tuple #[.int .i64 (bytesR l n).2.1, .int .i64 (bytesR l n).2.2]) ∧ w.grownBy w' (some pn) ∧ ∃ v, w'.heap[pn]? = some (.cells #[v] 23 (0, 0)) ∧ RB w w' v (bytesR l n).1 := by
  obtain ⟨A, c, h1, hc, h3⟩ := h
  have h3 := h3.cb
  have ng : g ≠ pn := fun e => by
    rw [e, hn] at h1
    simp at h1
  have hpn : pn < w.heap.size := (Array.getElem?_eq_some_iff.1 hn).1
  have hcell : ∀ W : World, w.grownBy W (some pn) → W.cell? ⟨ps, 0, none⟩ = some (.pointer (some ⟨g, 0, none⟩)) ∧ W.cell? ⟨g, 1, none⟩ = some (.slice A l.length c) ∧ W.cell? ⟨pz, 0, none⟩ = some (.int .i64 n) ∧ CB W A l := by
    intro W hW
    have c1 : w.cell? ⟨g, 1, none⟩ = some (.slice A l.length c) := cell_of_row w g 1 _ 42 (0, 0) h1
    have key : ∀ (k j : Nat) (v : Value), k ≠ pn → w.cell? ⟨k, j, none⟩ = some v → W.cell? ⟨k, j, none⟩ = some v := fun k j v hk hv =>
      (World.cell?_of_block (hW.block k (World.block_lt_of_cell? w _ hv) (fun e => hk (Option.some.inj e)))).trans hv
    exact ⟨key _ _ _ ns hs, key _ _ _ ng c1, key _ _ _ nz hz, h3.only hn (by intro v hv x; simp at hv; subst hv; simp) hW⟩
  have HCELL := Lib.hid hcell
  obtain ⟨hps, hg1, hpz, _⟩ := hcell w (World.grownBy.refl _ _)
  have HN := Lib.hid hn
  have HPN : Hid (∃ u, w.drew.drew.heap[pn]? = some (.cells #[u] 23 (0, 0))) := Lib.hid ⟨_, hn⟩
  clear h1 h3 hcell hn nz ns ng hs hz
  by_cases k1 : n < 0
  · have e : bytesR l n = ([], 0, 2) := by unfold bytesR; rw [if_pos k1]
    rw [e]
    clear e
    go_enter Try.func60, Try.ntmps60
    go_wp2
    go_ret2
    exact ⟨rfl, World.grownBy.refl _ _, _, HN.out, RB.nil _ _⟩
  · by_cases k2 : n > l.length
    · have e : bytesR l n = ([], 0, 8) := by unfold bytesR; rw [if_neg k1, if_pos k2]
      rw [e]
      clear e
      go_enter Try.func60, Try.ntmps60
      go_wp2
      go_region
      go_wp2
      go_ret2
      exact ⟨rfl, only_drew (World.grownBy.refl _ _), _, HN.out, RB.nil _ _⟩
    · obtain ⟨m, rfl⟩ : ∃ m : Nat, n = m := ⟨n.toNat, by omega⟩
      have hm : m ≤ l.length := by omega
      have e : bytesR l (m : Int) = (l.take m, (m : Int), 0) := by unfold bytesR; rw [if_neg k1, if_neg k2]; rfl
      rw [e]
      clear e
      go_enter Try.func60, Try.ntmps60
      go_wp2
      go_region
      go_wp2
      refine Reg.region_mono (P := Try.prog) (Ext := OneR pn 23 (fun v W => RB w W v (l.take m))) (R := fun i v W => match i with
          | 0 => v = .pointer (some ⟨g, 0, none⟩)
          | 1 => v = .pointer (some ⟨g, 0, none⟩)
          | 2 => v = .pointer (some ⟨g, 1, none⟩)
          | 3 => v = .slice A l.length c
          | 4 => v = .int .i64 (m : Int)
          | 5 => v = .slice A m c
          | 6 => RB w W v (l.take m)
          | 7 => ∃ v, W.heap[pn]? = some (.cells #[v] 23 (0, 0)) ∧ RB w W v (l.take m) ∧ pn < w.heap.size
          | _ => True) (fun W => w.grownBy W (some pn) ∧ ∃ u, W.heap[pn]? = some (.cells #[u] 23 (0, 0))) rfl (by kernel_rfl) (by kernel_rfl) ⟨only_drew (only_drew (World.grownBy.refl _ _)), HPN.out⟩ (fun W W' h h' => OneR.go h h') (fun W => OneR.refl _ _ _ _) (by intro j v W W' hx h; split at h <;> first | exact h | exact OneR.kept hx h | exact RB.only h hpn hx.1) ?_ ?_
      · intro i oi hoi a W hW need old
        match i, hoi with
        | 0, hoi =>
          simp only [List.getElem?_toArray, List.getElem?_cons_succ, List.getElem?_cons_zero, Option.some.injEq] at hoi
          subst hoi
          refine Reg.ob_plain rfl ?_
          have e1 : a.eval (.tmp 1) = .pointer (some ⟨ps, 0, none⟩) := old 1 (by kernel_rfl)
          have hx := (HCELL.out W hW.1).1
          refine Reg.wp_val (W' := W) (v := .pointer (some ⟨g, 0, none⟩)) (by simp only [execOp, e1, Reg.eval_const, resolve, invoke, builtin, List.map_toArray, List.map_cons, List.map_nil, Option.map_some, Option.map_none]; (first | rfl | go_simp | (go_simp; rfl))) ⟨_, rfl, OneR.refl _ _ _ _, rfl⟩
        | 1, hoi =>
          simp only [List.getElem?_toArray, List.getElem?_cons_succ, List.getElem?_cons_zero, Option.some.injEq] at hoi
          subst hoi
          refine Reg.ob_plain rfl ?_
          have e16 : a.eval (.tmp 16) = .pointer (some ⟨g, 0, none⟩) := need 0 _ 16 rfl rfl (by kernel_rfl)
          refine Reg.wp_val (W' := W) (v := .pointer (some ⟨g, 0, none⟩)) (by simp only [execOp, e16, Reg.eval_const, resolve, invoke, builtin, List.map_toArray, List.map_cons, List.map_nil, Option.map_some, Option.map_none]; (first | rfl | go_simp | (go_simp; rfl))) ⟨_, rfl, OneR.refl _ _ _ _, rfl⟩
        | 2, hoi =>
          simp only [List.getElem?_toArray, List.getElem?_cons_succ, List.getElem?_cons_zero, Option.some.injEq] at hoi
          subst hoi
          refine Reg.ob_plain rfl ?_
          have e17 : a.eval (.tmp 17) = .pointer (some ⟨g, 0, none⟩) := need 1 _ 17 rfl rfl (by kernel_rfl)
          refine Reg.wp_val (W' := W) (v := .pointer (some ⟨g, 1, none⟩)) (by simp only [execOp, e17, Reg.eval_const, resolve, invoke, builtin, List.map_toArray, List.map_cons, List.map_nil, Option.map_some, Option.map_none]; (first | rfl | go_simp | (go_simp; rfl))) ⟨_, rfl, OneR.refl _ _ _ _, rfl⟩
        | 3, hoi =>
          simp only [List.getElem?_toArray, List.getElem?_cons_succ, List.getElem?_cons_zero, Option.some.injEq] at hoi
          subst hoi
          refine Reg.ob_plain rfl ?_
          have e18 : a.eval (.tmp 18) = .pointer (some ⟨g, 1, none⟩) := need 2 _ 18 rfl rfl (by kernel_rfl)
          have hx := (HCELL.out W hW.1).2.1
          refine Reg.wp_val (W' := W) (v := .slice A l.length c) (by simp only [execOp, e18, Reg.eval_const, resolve, invoke, builtin, List.map_toArray, List.map_cons, List.map_nil, Option.map_some, Option.map_none]; (first | rfl | go_simp | (go_simp; rfl))) ⟨_, rfl, OneR.refl _ _ _ _, rfl⟩
        | 4, hoi =>
          simp only [List.getElem?_toArray, List.getElem?_cons_succ, List.getElem?_cons_zero, Option.some.injEq] at hoi
          subst hoi
          refine Reg.ob_plain rfl ?_
          have e0 : a.eval (.tmp 0) = .pointer (some ⟨pz, 0, none⟩) := old 0 (by kernel_rfl)
          have hx := (HCELL.out W hW.1).2.2.1
          refine Reg.wp_val (W' := W) (v := .int .i64 (m : Int)) (by simp only [execOp, e0, Reg.eval_const, resolve, invoke, builtin, List.map_toArray, List.map_cons, List.map_nil, Option.map_some, Option.map_none]; (first | rfl | go_simp | (go_simp; rfl))) ⟨_, rfl, OneR.refl _ _ _ _, rfl⟩
        | 5, hoi =>
          simp only [List.getElem?_toArray, List.getElem?_cons_succ, List.getElem?_cons_zero, Option.some.injEq] at hoi
          subst hoi
          refine Reg.ob_plain rfl ?_
          have e19 : a.eval (.tmp 19) = .slice A l.length c := need 3 _ 19 rfl rfl (by kernel_rfl)
          have e20 : a.eval (.tmp 20) = .int .i64 (m : Int) := need 4 _ 20 rfl rfl (by kernel_rfl)
          have hkc : 0 ≤ (m : Int) ∧ (m : Int) ≤ c := by omega
          have htn : (m : Int).toNat = m := by omega
          refine Reg.wp_val (W' := W) (v := .slice A m c) (by simp only [execOp, e19, e20, Reg.eval_const, resolve, invoke, builtin, List.map_toArray, List.map_cons, List.map_nil, Option.map_some, Option.map_none]; (first | rfl | go_simp | (go_simp; rfl))) ⟨_, rfl, OneR.refl _ _ _ _, rfl⟩
        | 6, hoi =>
          simp only [List.getElem?_toArray, List.getElem?_cons_succ, List.getElem?_cons_zero, Option.some.injEq] at hoi
          subst hoi
          refine Reg.ob_plain rfl ?_
          have e21 : a.eval (.tmp 21) = .slice A m c := need 5 _ 21 rfl rfl (by kernel_rfl)
          refine Reg.wp_call (f := 54) (args := #[.slice A m c]) (by simp only [execOp, e21, Reg.eval_const, resolve, invoke, List.map_toArray, List.map_cons, List.map_nil]; go_simp) ?_
          refine (clone57 _ _ _ _ _ ((HCELL.out W hW.1).2.2.2.take m hm) hm hc hl).mono ?_
          rintro e W' ⟨v, rfl, hr, hb⟩; exact ⟨_, rfl, _, rfl, OneR.below hb, hr.lower hW.1.size⟩
        | 7, hoi =>
          simp only [List.getElem?_toArray, List.getElem?_cons_succ, List.getElem?_cons_zero, Option.some.injEq] at hoi
          subst hoi
          refine Reg.ob_plain rfl ?_
          have e2 : a.eval (.tmp 2) = .pointer (some ⟨pn, 0, none⟩) := old 2 (by kernel_rfl)
          have r22 := need 6 _ 22 rfl rfl (by kernel_rfl)
          simp only at r22
          obtain ⟨x22, e22⟩ : ∃ x, a.eval (.tmp 22) = x := ⟨_, rfl⟩
          rw [← Reg.eval_tmp, e22] at r22
          obtain ⟨A2, c2, k2, _⟩ := r22.reads
          subst k2
          obtain ⟨u, hu⟩ := hW.2
          have hx : W.cell? ⟨pn, 0, none⟩ = some u := cell_of_row W pn 0 _ 23 (0, 0) hu
          have hf : W.frozen? ⟨pn, 0, none⟩ = false := by simp [World.frozen?, hu]
          have hst := OneR.store hu _ r22 hpn
          refine Reg.wp_skip (W' := W.setCell ⟨pn, 0, none⟩ (.slice A2 (l.take m).length c2)) (by simp only [execOp, e2, e22, Reg.eval_const]; (first | rfl | go_simp | (go_simp; rfl))) ⟨undef, rfl, hst.1, hst.2⟩
        | n + 8, hoi => simp at hoi
      · intro a w5 hW hsize hdef got same did
        have ha := Reg.act_of [16, 17, 18, 19, 20, 21, 22] hsize hdef same (by kernel_rfl)
        simp only [List.foldl_cons, List.foldl_nil] at ha
        generalize a.tmps.getD 16 undef = y16 at ha
        generalize a.tmps.getD 17 undef = y17 at ha
        generalize a.tmps.getD 18 undef = y18 at ha
        generalize a.tmps.getD 19 undef = y19 at ha
        generalize a.tmps.getD 20 undef = y20 at ha
        generalize a.tmps.getD 21 undef = y21 at ha
        generalize a.tmps.getD 22 undef = y22 at ha
        clear got same hsize hdef
        subst ha
        simp only [List.setIfInBounds_toArray, List.set_cons_zero, List.set_cons_succ]


        obtain ⟨_, hst⟩ := did 7 _ rfl rfl
        simp only at hst
        clear did
        have hx := (HCELL.out w5 hW.1).2.2.1
        go_wp2
        go_ret2
        obtain ⟨v, hv, hr, _⟩ := hst
        exact ⟨rfl, hW.1, v, hv, hr⟩
set_option maxHeartbeats 1000000 in
theorem step60_calls (W : World) (g pn : Nat) (caps : Array Value) (l : List Int) (n e1 : Int) (R : World → Prop) (h : Src W g true l 0) (hne : g ≠ pn) (hpn : ∃ u t, W.heap[pn]? = some (.cells #[u] t (0, 0)) ∧ ∀ x, u ≠ .int .u8 x)
    (hdo : ∀ w0 : World, w0 = W → Calls Try.prog 60 caps w0 fun e w1 => e = .returned (.tuple #[.int .i64 n, .int .i64 e1]) ∧ w0.grownBy w1 (some pn) ∧ R w1)
    (hn : e1 = 0 → 0 ≤ n ∧ n ≤ l.length) (hR : ∀ w1 w2 : World, w1.grownBy w2 (some g) → R w1 → R w2) :
    Calls Try.prog 56 #[.pointer (some ⟨g, 0, none⟩), .func (.func 60) #[] caps] W fun e w' => e = .returned (.tuple #[]) ∧ Two W w' g pn ∧ Src w' g true (if e1 = 0 then l.drop n.toNat else []) e1 ∧ R w' := by
  obtain ⟨A, c, h1, h2, h3⟩ := h
  have c0 : W.cell? ⟨g, 0, none⟩ = some (.bool true) := cell_of_row W g 0 _ 42 (0, 0) h1
  have c2 : W.cell? ⟨g, 2, none⟩ = some (.int .i64 0) := cell_of_row W g 2 _ 42 (0, 0) h1
  have H1 := Lib.hid h1
  have H2 := Lib.hid h2
  have H3 := Lib.hid h3
  have HD := Lib.hid hdo
  have HN := Lib.hid hn
  have HR := Lib.hid hR
  have HP := Lib.hid hpn
  clear h1 h2 h3 hdo hn hR hpn
  go_enter Try.func56, Try.ntmps56
  have hsrc : Src W g true l 0 := ⟨A, c, H1.out, H2.out, H3.out⟩
  have HS := Lib.hid hsrc
  clear hsrc
  by_cases he : e1 = 0
  · subst he
    obtain ⟨hn0, hnl⟩ := HN.out rfl
    obtain ⟨m, rfl⟩ : ∃ m : Nat, n = m := ⟨n.toNat, by omega⟩
    go_wp2_with (first
        | (go_at_call 61; refine (is_calls _ g true l 0 HS.out).mono ?_; rintro e w0 ⟨rfl, rfl⟩)
        | (go_at_call 60; refine (HD.out _ rfl).mono ?_; rintro e w1 ⟨rfl, hg1, hr1⟩
           have hs1 := HS.out.kept hne HP.out hg1
           obtain ⟨A1, c1, k1, k2, k3⟩ := hs1
           have q1 : w1.cell? ⟨g, 1, none⟩ = some (.slice A1 l.length c1) := cell_of_row w1 g 1 _ 42 (0, 0) k1
           have f1 : w1.frozen? ⟨g, 1, none⟩ = false := by simp [World.frozen?, k1]
           have K1 := Lib.hid k1
           have K2 := Lib.hid k2
           have K3 := Lib.hid k3
           have G1 := Lib.hid hg1
           have R1 := Lib.hid hr1
           clear k1 k3 hg1 hr1))
    · go_end0
      obtain ⟨s1, s2⟩ := Src.cut K1.out k2 K3.out (by omega) A1 (l.length - m) 0 (by rw [if_pos (by omega)]) rfl (by omega)
      exact ⟨rfl, Two.then_g (Two.of_k G1.out) s2, s1, HR.out _ _ s2 R1.out⟩
    · go_end0
      obtain ⟨s1, s2⟩ := Src.cut K1.out k2 K3.out (by omega) (A1.map (fun x => x.add m)) (l.length - m) (c1 - m) (by rw [if_neg (by assumption)]) rfl rfl
      exact ⟨rfl, Two.then_g (Two.of_k G1.out) s2, s1, HR.out _ _ s2 R1.out⟩
  · have b1 : (e1 != 0) = true := by simpa using he
    rw [if_neg he]
    clear he
    go_wp2_with (first
        | (go_at_call 61; refine (is_calls _ g true l 0 HS.out).mono ?_; rintro e w0 ⟨rfl, rfl⟩)
        | (go_at_call 60; refine (HD.out _ rfl).mono ?_; rintro e w1 ⟨rfl, hg1, hr1⟩
           have hs1 := Lib.hid (HS.out.kept hne HP.out hg1)
           have G1 := Lib.hid hg1
           have R1 := Lib.hid hr1
           clear hg1 hr1)
        | (go_at_call 78; refine (fail_calls _ g true l e1 hs1.out).mono ?_; rintro e w2 ⟨rfl, g2, s2⟩))
    refine bodyPost_ret (results_none rfl _ _ _) rfl ?_
    exact ⟨rfl, Two.then_g (Two.of_k G1.out) g2, s2, HR.out _ _ g2 R1.out⟩


/-- What a source's Bytes tells, what is left, and the first error. -/
def bytesS (made : Bool) (l : List Int) (e n : Int) : List Int × List Int × Int :=
  if made = false ∨ e ≠ 0 then ([], l, e) else ((bytesR l n).1, (if (bytesR l n).2.2 = 0 then l.drop (bytesR l n).2.1.toNat else []), (bytesR l n).2.2)
set_option maxHeartbeats 1000000 in
theorem Bytes_of (w : World) (p : Value) (g : Nat) (n : Int) (bs : List Int) (Q : World → Prop)
    (hstep : ∀ W4 : World, Below w.heap.size w W4 → W4.heap[w.heap.size]? = some (.cells #[p] 43 (0, 0)) → W4.heap[w.heap.size + 1]? = some (.cells #[.int .i64 n] 3 (0, 0)) → W4.heap[w.heap.size + 1 + 1]? = some (.cells #[.slice none 0 0] 23 (0, 0)) →
      Calls Try.prog 56 #[p, .func (.func 60) #[] #[.pointer (some ⟨w.heap.size + 1, 0, none⟩), .pointer (some ⟨w.heap.size, 0, none⟩), .pointer (some ⟨w.heap.size + 1 + 1, 0, none⟩)]] W4 fun e w2 =>
        e = .returned (.tuple #[]) ∧ Q w2 ∧ ∃ v, w2.heap[w.heap.size + 1 + 1]? = some (.cells #[v] 23 (0, 0)) ∧ RB w w2 v bs) (hp : p = .pointer none ∨ p = .pointer (some ⟨g, 0, none⟩)) :
    Calls Try.prog 28 #[p, .int .i64 n] w fun e' w' => ∃ v, e' = .returned v ∧ RB w w' v bs ∧ Q w' := by
  have HST := Lib.hid hstep
  clear hstep
  have HP := Lib.hid hp
  obtain ⟨pp, rfl⟩ : ∃ a, p = .pointer a := by rcases hp with rfl | rfl <;> exact ⟨_, rfl⟩
  clear hp
  go_enter Try.func28, Try.ntmps28
  go_upto_region 2 with (fail)
  generalize hW4 : ((w.alloc (Obj.cells #[Value.pointer pp] 43)).alloc (Obj.cells #[Value.int IntKind.i64 n] 3)).alloc (Obj.cells #[Value.slice none 0 0] 23) = W4
  obtain ⟨b0, b1, b2⟩ := three w (Obj.cells #[Value.pointer pp] 43) (Obj.cells #[Value.int IntKind.i64 n] 3) (Obj.cells #[Value.slice none 0 0] 23)
  have hB : Below w.heap.size w W4 := by
    subst hW4
    exact (((Below.refl _ _).alloc (Nat.le_refl _) _).alloc (by simp) _).alloc (by simp; omega) _
  rw [hW4] at b0 b1 b2
  have x0 : W4.cell? ⟨w.heap.size, 0, none⟩ = some (.pointer pp) := cell_of_row W4 _ 0 _ 43 (0, 0) b0
  have HS := Lib.hid (HST.out W4 hB b0 b1 b2)
  clear hB hW4 b0 b1 b2
  go_wp2_with (go_at_call 56; refine (HS.out).mono ?_; rintro e2 w2 ⟨rfl, hq, v, hr, hv⟩; have x3 : w2.cell? ⟨w.heap.size + 1 + 1, 0, none⟩ = some v := cell_of_row w2 _ 0 _ 23 (0, 0) hr; have HQ := Lib.hid hq; have HV := Lib.hid hv; obtain ⟨A2, c2, rfl, _⟩ := hv.reads; clear hq hr hv)
  go_ret
  exact ⟨_, rfl, HV.out, HQ.out⟩
theorem Bytes_nil (w : World) (n : Int) : Calls Try.prog 28 #[.pointer none, .int .i64 n] w fun e' w' => ∃ v, e' = .returned v ∧ RB w w' v [] ∧ Below w.heap.size w w' :=
  Bytes_of w (.pointer none) 0 n [] (fun w' => Below w.heap.size w w') (fun W4 hB b0 b1 b2 => (step_nil W4 _).mono (by rintro e2 w2 ⟨rfl, rfl⟩; exact ⟨rfl, hB, _, b2, RB.nil _ _⟩)) (.inl rfl)
theorem Bytes_calls (w : World) (g : Nat) (made : Bool) (l : List Int) (e n : Int) (h : Src w g made l e) (hl : l.length < 140737488355328) :
    Calls Try.prog 28 #[.pointer (some ⟨g, 0, none⟩), .int .i64 n] w fun e' w' => ∃ v, e' = .returned v ∧ RB w w' v (bytesS made l e n).1 ∧ w.grownBy w' (some g) ∧ Src w' g made (bytesS made l e n).2.1 (bytesS made l e n).2.2 := by
  have hlt := h.lt
  refine Bytes_of w (.pointer (some ⟨g, 0, none⟩)) g n (bytesS made l e n).1 (fun w' => w.grownBy w' (some g) ∧ Src w' g made (bytesS made l e n).2.1 (bytesS made l e n).2.2) ?_ (.inr rfl)
  intro W4 hB b0 b1 b2
  have hS := h.below hB
  have hgW : g < W4.heap.size := Nat.lt_of_lt_of_le hlt hB.size
  have stab : ∀ (bs : List Int) (w1 w2 : World), w1.grownBy w2 (some g) → (∃ v, w1.heap[w.heap.size + 1 + 1]? = some (.cells #[v] 23 (0, 0)) ∧ RB W4 w1 v bs) → ∃ v, w2.heap[w.heap.size + 1 + 1]? = some (.cells #[v] 23 (0, 0)) ∧ RB W4 w2 v bs :=
    fun bs w1 w2 hg2 ⟨v, hr, hv⟩ => ⟨v, (hg2.block _ (Array.getElem?_eq_some_iff.1 hr).1 (fun h => by have := Option.some.inj h; omega)).trans hr, hv.only hgW hg2⟩
  by_cases hm : made = false ∨ e ≠ 0
  · have hnum : bytesS made l e n = ([], l, e) := by unfold bytesS; rw [if_pos hm]
    rw [hnum]
    refine (step_off W4 g made l e hS hm _).mono ?_
    rintro e2 w2 ⟨rfl, rfl⟩
    exact ⟨rfl, ⟨grown_of_below hB _, hS⟩, _, b2, RB.nil _ _⟩
  · have hmt : made = true ∧ e = 0 := by cases made <;> simp_all
    obtain ⟨rfl, rfl⟩ := hmt
    have hnum : bytesS true l 0 n = ((bytesR l n).1, (if (bytesR l n).2.2 = 0 then l.drop (bytesR l n).2.1.toNat else []), (bytesR l n).2.2) := by unfold bytesS; rw [if_neg hm]
    rw [hnum]
    have hle : (bytesR l n).2.2 = 0 → 0 ≤ (bytesR l n).2.1 ∧ (bytesR l n).2.1 ≤ l.length := by
      unfold bytesR
      intro _
      repeat' split
      all_goals (dsimp only; omega)
    refine (step60_calls W4 g (w.heap.size + 1 + 1) _ l (bytesR l n).2.1 (bytesR l n).2.2 (fun W => ∃ v, W.heap[w.heap.size + 1 + 1]? = some (.cells #[v] 23 (0, 0)) ∧ RB W4 W v (bytesR l n).1) hS (by omega) ⟨_, _, b2, by simp⟩
      (fun w0 hw0 => (bytes1_calls w0 g (w.heap.size + 1) w.heap.size (w.heap.size + 1 + 1) l n (by rw [hw0]; exact hS) hl (by rw [hw0]; exact cell_of_row W4 _ 0 _ 3 (0, 0) b1) (by rw [hw0]; exact cell_of_row W4 _ 0 _ 43 (0, 0) b0) (by rw [hw0]; exact b2) (by omega) (by omega)).mono (by
        rintro e2 w2 ⟨rfl, g2, v, hv, hr⟩
        subst hw0
        exact ⟨rfl, g2, v, hv, hr⟩)) hle (stab _)).mono ?_
    rintro e2 w2 ⟨rfl, t2, s2, v, hv, hr⟩
    exact ⟨rfl, ⟨Two.only hB t2 (by omega), s2⟩, v, hv, hr.lower hB.size⟩
/-- A source of bytes. -/
theorem Read_calls (w : World) (A : Option Addr) (c : Nat) (l : List Int) (h : CB w A l) (hc : l.length ≤ c) (hl : l.length < 140737488355328) :
    Calls Try.prog 44 #[.slice A l.length c] w fun e' w' => ∃ g, e' = .returned (.pointer (some ⟨g, 0, none⟩)) ∧ w.heap.size ≤ g ∧ Below w.heap.size w w' ∧ Src w' g true l 0 := by
  have H := Lib.hid h
  clear h
  go_enter Try.func44, Try.ntmps44
  go_wp2_with (go_at_call 54; refine (clone_calls A c l w H.out hc hl).mono ?_; rintro e2 w2 ⟨v, rfl, hr, hb⟩; have HR := Lib.hid hr; have HB := Lib.hid hb; obtain ⟨A2, c2, rfl, h2, _⟩ := hr.reads; clear hr hb)
  go_ret
  refine ⟨_, rfl, HB.out.size, HB.out.alloc HB.out.size _, A2, c2, heap_alloc_new _ _, h2, ?_⟩
  obtain ⟨A3, c3, e3, _, h3⟩ := HR.out.reads
  injection e3 with e3
  subst e3
  exact ⟨h3.alloc _, fun h0 ad e => h3.lt h0 ad e⟩
end Go.Proofs.Ytlfcgicobhalmaa.K
