/- Find and Child of layer 9, the program's and the reference's; the law CellFinds. -/
import Derived.Test.YtlfcgicobhalmaaBase2
import Derived.Test.YtlfcgicobhalmaaWSrc2
import Derived.Test.YtlfcgicobhalmaaWZig
import Derived.Test.YtlfcgicobhalmaaWLaw02
import Derived.Test.YtlfcgicobhalmaaMNode
import Derived.Test.YtlfcgicobhalmaaOps
import Derived.Test.YtlfcgicobhalmaaRegGen
import Derived.Test.YtlfcgicobhalmaaWZeros
import Derived.Test.YtlfcgicobhalmaaWRow
import Derived.Test.YtlfcgicobhalmaaWCell
import Derived.Test.YtlfcgicobhalmaaWCellG
import Derived.Test.YtlfcgicobhalmaaWCellB
import Derived.Test.YtlfcgicobhalmaaWCellZ
import Derived.Test.YtlfcgicobhalmaaWCellP
import Derived.Test.YtlfcgicobhalmaaWCellH
namespace Go.Proofs.Ytlfcgicobhalmaa.K
open Go Go.RowKit Go.Proofs.YtlfcgicobhalmaaW.PrintWords Go.Proofs.YtlfcgicobhalmaaW.PrintLast Go.Proofs.YtlfcgicobhalmaaW.PrintMore
set_option linter.unusedVariables false
set_option linter.unusedSimpArgs false
open Go.Proofs.Ytlfcgicobhalmaa.MOct (W V tk sz vr num head getV le be many putL)
open Go.Proofs.Ytlfcgicobhalmaa.MOct (Cel isPageV localV spillsV insideV leafyV mayV goodFrom goodV u64 csize cbytes nsize nbody nbytes findV)

/-- The place of the first key that is not below. -/
def pl (l : List Cel) (key : Int) : Nat := (l.takeWhile (fun c => decide (c.1 < key))).length
def hitV (l : List Cel) (key : Int) : Bool := match l[pl l key]? with
  | some c => c.1 == key
  | none => false
theorem pl_le (l : List Cel) (key : Int) : pl l key ≤ l.length := by unfold pl; exact (List.takeWhile_prefix _).length_le
theorem pl_lt {l : List Cel} {key : Int} {i : Nat} {c : Cel} (h : i < pl l key) (hc : l[i]? = some c) : c.1 < key := by
  induction l generalizing i with
  | nil => simp at hc
  | cons x t ih =>
    unfold pl at h
    by_cases hx : x.1 < key
    · rw [List.takeWhile_cons_of_pos (by simpa using hx), List.length_cons] at h
      rcases i with _ | i
      · simp at hc; subst hc; exact hx
      · exact ih (i := i) (by unfold pl; omega) (by simpa using hc)
    · rw [List.takeWhile_cons_of_neg (by simpa using hx)] at h
      simp at h
theorem pl_ge {l : List Cel} {key : Int} {k : Nat} (h : ∀ i c, i < k → l[i]? = some c → c.1 < key) (hk : k ≤ l.length) : k ≤ pl l key := by
  induction l generalizing k with
  | nil => simp at hk; omega
  | cons x t ih =>
    rcases k with _ | k
    · omega
    · have hx := h 0 x (by omega) rfl
      unfold pl
      rw [List.takeWhile_cons_of_pos (by simpa using hx), List.length_cons]
      have := ih (k := k) (fun i c hi hc => h (i + 1) c (by omega) (by simpa using hc)) (by simpa using hk)
      unfold pl at this
      omega
theorem pl_stop {l : List Cel} {key : Int} {k : Nat} {c : Cel} (hc : l[k]? = some c) (h : key ≤ c.1) : pl l key ≤ k := by
  rcases Nat.lt_or_ge k (pl l key) with h1 | h1
  · have := pl_lt h1 hc; omega
  · exact h1
/-- Keys rise. -/
def Rise (l : List Cel) : Prop := ∀ (i j : Nat) (a b : Cel), i < j → l[i]? = some a → l[j]? = some b → a.1 < b.1
theorem rise_of {leaf : Bool} (l : List Cel) : ∀ p, MOct.goodFrom leaf p l = true → Rise l ∧ ∀ q, p = some q → ∀ c ∈ l, q < c.1 := by
  induction l with
  | nil => intro p _; exact ⟨fun i j a b _ h _ => by simp at h, fun q _ c hc => by simp at hc⟩
  | cons x t ih =>
    intro p h
    simp only [MOct.goodFrom, Bool.and_eq_true] at h
    obtain ⟨⟨h1, h2⟩, h3⟩ := h
    obtain ⟨i1, i2⟩ := ih _ h3
    have i3 := i2 x.1 rfl
    refine ⟨fun i j a b hij ha hb => ?_, fun q hq c hc => ?_⟩
    · rcases j with _ | j
      · omega
      · rcases i with _ | i
        · simp at ha hb; subst ha
          exact i3 b (List.mem_of_getElem? hb)
        · exact i1 i j a b (by omega) (by simpa using ha) (by simpa using hb)
    · subst hq
      simp at h2
      rcases List.mem_cons.1 hc with rfl | hc
      · exact h2
      · have := i3 c hc; omega
theorem pl_past {l : List Cel} {key : Int} {k : Nat} {c : Cel} (hr : Rise l) (hc : l[k]? = some c) (h : c.1 < key) : k + 1 ≤ pl l key := by
  have hk := (List.getElem?_eq_some_iff.1 hc).1
  refine pl_ge (fun i a hi ha => ?_) (by omega)
  rcases Nat.lt_or_ge i k with h1 | h1
  · have := hr i k a c h1 ha hc; omega
  · have : i = k := by omega
    subst this
    rw [hc] at ha
    injection ha with ha
    rw [← ha]; exact h
def cmpV (a key : Int) : Int := if a < key then -1 else if a > key then 1 else 0
theorem cmp_calls (c : Cel) (key : Int) (A : Option Addr) (cap : Nat) (w : World) : Calls Try.prog 65 #[.agg (CelC c A cap), .int .i64 key] w fun e w' => e = .returned (.int .i64 (cmpV c.1 key)) ∧ Below w.heap.size w w' := by
  obtain ⟨k, child, len, loc, next⟩ := c
  unfold cmpV CelC
  simp only
  by_cases h1 : k < key
  · rw [if_pos h1]
    go_enter Try.func65, Try.ntmps65
    go_wp2
    go_ret
    exact ⟨rfl, (Below.refl _ _).alloc (Nat.le_refl _) _⟩
  · rw [if_neg h1]
    by_cases h2 : k > key
    · rw [if_pos h2]
      go_enter Try.func65, Try.ntmps65
      go_wp2
      go_ret
      exact ⟨rfl, (Below.refl _ _).alloc (Nat.le_refl _) _⟩
    · rw [if_neg h2]
      go_enter Try.func65, Try.ntmps65
      go_wp2
      go_ret
      exact ⟨rfl, (Below.refl _ _).alloc (Nat.le_refl _) _⟩
set_option maxHeartbeats 1000000 in
set_option maxRecDepth 100000 in
theorem search_calls (l : List Cel) (key : Int) (A : Option Addr) (cap : Nat) (w : World) (hC : KC9.C w A l.length l) (hc : l.length ≤ cap) (hl : l.length ≤ 100000) (hr : Rise l) :
    Calls Try.prog 64 #[.slice A l.length cap, .int .i64 key, .func (.func 65) #[] #[]] w fun e w' => e = .returned (.tuple #[.int .i64 (pl l key), .bool (hitV l key)]) ∧ Below w.heap.size w w' := by
  have HC := Lib.hid hC
  have HR := Lib.hid hr
  obtain ⟨p, hp⟩ : ∃ p, pl l key = p := ⟨_, rfl⟩
  have hpl := pl_le l key
  rw [hp] at hpl
  have HP := Lib.hid hp
  obtain ⟨hv, hhv⟩ : ∃ hv, hitV l key = hv := ⟨_, rfl⟩
  have HH : Hid (hv = match l[p]? with | some c => c.1 == key | none => false) := Lib.hid (by rw [← hhv]; unfold hitV; rw [hp])
  rw [hhv, hp]
  clear hC hr hp hhv
  go_enter Try.func64, Try.ntmps64
  go_wp2
  go_loopw [9, 10] (fun i j wr => ∃ a b : Nat, i = .int .i64 a ∧ j = .int .i64 b ∧ a ≤ p ∧ p ≤ b ∧ b ≤ l.length ∧ Hid (Below w.heap.size w wr)) (fun i j _ => (intOf j).toNat - (intOf i).toNat)
  case atStart => exact ⟨0, l.length, rfl, rfl, by omega, hpl, by omega, Lib.hid (Below.refl _ _)⟩
  case round =>
    obtain ⟨a, b, rfl, rfl, ha, hb, hbl, HB⟩ := hrel
    by_cases hab : a < b
    · obtain ⟨h, hh⟩ : ∃ h, (a + b) / 2 = h := ⟨_, rfl⟩
      have hhl : h < l.length := by omega
      have hh1 : a ≤ h := by omega
      have hh2 : h < b := by omega
      have hhi : ((a : Int) + b) / 2 = (h : Int) := by omega
      obtain ⟨ad, rfl, kk, child, len, loc, next, AB, cB, hget, x0, x1, x2, x3, x4, hcB, hCB⟩ := cel_at (Kd.C_below HC.out HB.out) h hhl
      have HCM := Lib.hid (fun W => cmp_calls (kk, child, len, loc, next) key AB cB W)
      have HGT := Lib.hid hget
      clear hget hCB hcB
      by_cases hlt : kk < key
      · have hcv : cmpV kk key = -1 := by unfold cmpV; rw [if_pos hlt]
        have hpp : h + 1 ≤ p := by rw [← HP.out]; exact pl_past HR.out HGT.out hlt
        simp only [hcv] at HCM
        clear hcv
        go_wp2_with (refine (HCM.out _).mono ?_; rintro e w6 ⟨rfl, hb6⟩; have HB6 := Lib.hid hb6; clear hb6)
        exact ⟨⟨h + 1, b, by go_num, rfl, hpp, hb, hbl, Lib.hid (bthen HB.out HB6.out)⟩, by simp [intOf] <;> omega⟩
      · have hcv : ¬ cmpV kk key < 0 := by unfold cmpV; rw [if_neg hlt]; split <;> omega
        have hpp : p ≤ h := by rw [← HP.out]; exact pl_stop HGT.out (by show key ≤ kk; omega)
        obtain ⟨cv, hcv2⟩ : ∃ cv, cmpV kk key = cv := ⟨_, rfl⟩
        simp only [hcv2] at HCM
        rw [hcv2] at hcv
        clear hcv2
        go_wp2_with (refine (HCM.out _).mono ?_; rintro e w6 ⟨rfl, hb6⟩; have HB6 := Lib.hid hb6; clear hb6)
        exact ⟨⟨a, h, rfl, by go_num, ha, hpp, by omega, Lib.hid (bthen HB.out HB6.out)⟩, by simp [intOf] <;> omega⟩
    · have hap : a = p := by omega
      subst hap
      by_cases hpn : a < l.length
      · obtain ⟨ad, rfl, kk, child, len, loc, next, AB, cB, hget, x0, x1, x2, x3, x4, hcB, hCB⟩ := cel_at (Kd.C_below HC.out HB.out) a hpn
        have HCM := Lib.hid (fun W => cmp_calls (kk, child, len, loc, next) key AB cB W)
        have hh := HH.out
        rw [hget] at hh
        simp only at hh
        obtain ⟨cv, hcv2⟩ : ∃ cv, cmpV kk key = cv := ⟨_, rfl⟩
        have hce : (cv == 0) = (kk == key) := by
          rw [← hcv2]; unfold cmpV
          by_cases q1 : kk < key
          · rw [if_pos q1]
            have : (kk == key) = false := by simp; omega
            rw [this]; rfl
          · rw [if_neg q1]
            by_cases q2 : kk > key
            · rw [if_pos q2]
              have : (kk == key) = false := by simp; omega
              rw [this]; rfl
            · rw [if_neg q2]
              have : (kk == key) = true := by simp; omega
              rw [this]; rfl
        rw [hcv2] at HCM
        rw [← hce] at hh
        have HH2 := Lib.hid hh
        clear hget hCB hcB hh hcv2 hce HH
        go_wp2_with (refine (HCM.out _).mono ?_; rintro e w6 ⟨rfl, hb6⟩; have HB6 := Lib.hid hb6; clear hb6)
        go_ret2
        exact ⟨by rw [HH2.out]; rfl, bthen HB.out HB6.out⟩
      · have hn : l[a]? = none := List.getElem?_eq_none (by omega)
        have hh := HH.out
        rw [hn] at hh
        have HH2 := Lib.hid hh
        clear hh hn
        go_wp2
        go_ret2
        exact ⟨by rw [HH2.out]; rfl, HB.out⟩

theorem find_calls (leaf : Bool) (right : Int) (l : List Cel) (key : Int) (A : Option Addr) (cap : Nat) (w : World) (hC : KC9.C w A l.length l) (hc : l.length ≤ cap) (hl : l.length ≤ 100000) (hr : Rise l) :
    Calls Try.prog 36 #[.agg #[.bool leaf, .int .i64 right, .slice A l.length cap], .int .i64 key] w fun e w' => e = .returned (.tuple #[.int .i64 (pl l key), .bool (hitV l key)]) ∧ Below w.heap.size w w' := by
  have HS := Lib.hid (fun W (h : Below w.heap.size w W) => search_calls l key A cap W (Kd.C_below hC h) hc hl hr)
  obtain ⟨p, hp⟩ : ∃ p, pl l key = p := ⟨_, rfl⟩
  obtain ⟨hv, hhv⟩ : ∃ hv, hitV l key = hv := ⟨_, rfl⟩
  rw [hp, hhv] at HS ⊢
  clear hC hr hp hhv
  go_enter Try.func36, Try.ntmps36
  go_wp2_with (go_at_call 64; refine (HS.out _ ((Below.refl _ _).alloc (Nat.le_refl _) _)).mono ?_; rintro e w1 ⟨rfl, hb1⟩; have HB1 := Lib.hid hb1; clear hb1)
  go_ret2
  exact ⟨rfl, bthen ((Below.refl _ _).alloc (Nat.le_refl _) _) HB1.out⟩
/-- The child a key leads to. -/
def childV (right : Int) (l : List Cel) (key : Int) : Int := match l[pl l key]? with
  | some c => c.2.1
  | none => right
set_option maxHeartbeats 1000000 in
set_option maxRecDepth 100000 in
theorem child_calls (leaf : Bool) (right : Int) (l : List Cel) (key : Int) (A : Option Addr) (cap : Nat) (w : World) (hC : KC9.C w A l.length l) (hc : l.length ≤ cap) (hl : l.length ≤ 100000) (hr : Rise l) :
    Calls Try.prog 38 #[.agg #[.bool leaf, .int .i64 right, .slice A l.length cap], .int .i64 key] w fun e w' => e = .returned (.tuple #[.int .i64 (pl l key), .int .i64 (childV right l key)]) ∧ Below w.heap.size w w' := by
  have HS := Lib.hid (fun W (h : Below w.heap.size w W) => find_calls leaf right l key A cap W (Kd.C_below hC h) hc hl hr)
  have hpl := pl_le l key
  have HC := Lib.hid hC
  obtain ⟨cv, hcv⟩ : ∃ cv, childV right l key = cv := ⟨_, rfl⟩
  obtain ⟨p, hp⟩ : ∃ p, pl l key = p := ⟨_, rfl⟩
  obtain ⟨hv, hhv⟩ : ∃ hv, hitV l key = hv := ⟨_, rfl⟩
  rw [hp, hhv] at HS
  rw [hp] at hpl
  have HCV : Hid (cv = match l[p]? with | some c => c.2.1 | none => right) := Lib.hid (by rw [← hcv, ← hp]; rfl)
  rw [hp, hcv]
  have HX0 : Hid (Bx w #[.bool leaf, .int .i64 right, .slice A l.length cap] 55 (w.alloc (.cells #[.bool leaf, .int .i64 right, .slice A l.length cap] 55))) := Lib.hid (Bx.new _ _ _)
  clear hC hr hp hhv hcv
  by_cases hpn : p = l.length
  · have hh := HCV.out
    rw [List.getElem?_eq_none (by omega)] at hh
    have HH := Lib.hid hh
    have b1 : ((p : Int) == (l.length : Int)) = true := by simp; omega
    clear hh HCV
    go_enter Try.func38, Try.ntmps38
    go_wp2_with (go_at_call 36; refine (HS.out _ HX0.out.1).mono ?_; rintro e w1 ⟨rfl, hb1⟩; have hx1 := HX0.out.below hb1; have a0 := hx1.cell (i := 0) rfl; have a1 := hx1.cell (i := 1) rfl; have a2 := hx1.cell (i := 2) rfl; have HX1 := Lib.hid hx1; clear hb1 hx1)
    go_quiet (fail)
    go_wp2
    all_goals
      go_ret2
      exact ⟨by rw [HH.out, hpn]; rfl, pw_below_drewN HX1.out.1 _⟩
  · have hpl2 : p < l.length := by omega
    have b1 : ((p : Int) == (l.length : Int)) = false := by simp; omega
    obtain ⟨ad, rfl, kk, child, len, loc, next, AB, cB, hget, x0, x1, x2, x3, x4, hcB, hCB⟩ := cel_at HC.out p hpl2
    have hh := HCV.out
    rw [hget] at hh
    have HH : Hid (cv = child) := Lib.hid hh
    clear hh HCV hget x0 x2 x3 x4 hCB hcB
    go_enter Try.func38, Try.ntmps38
    go_wp2_with (go_at_call 36; refine (HS.out _ HX0.out.1).mono ?_; rintro e w1 ⟨rfl, hb1⟩; have hx1 := HX0.out.below hb1; have a0 := hx1.cell (i := 0) rfl; have a1 := hx1.cell (i := 1) rfl; have a2 := hx1.cell (i := 2) rfl; have y1 := pw_cell_below hx1.1 x1; have HX1 := Lib.hid hx1; clear hb1 hx1)
    go_quiet (fail)
    go_wp2
    all_goals
      go_ret2
      exact ⟨by rw [HH.out]; rfl, pw_below_drewN HX1.out.1 _⟩
set_option maxHeartbeats 1000000 in
set_option maxRecDepth 100000 in
theorem reffind_calls (leaf : Bool) (right : Int) (l : List Cel) (key : Int) (A : Option Addr) (cap : Nat) (w : World) (hC : KC9.C w A l.length l) (hc : l.length ≤ cap) (hl : l.length ≤ 100000) :
    Calls Try.prog 37 #[.agg #[.bool leaf, .int .i64 right, .slice A l.length cap], .int .i64 key] w fun e w' => e = .returned (.tuple #[.int .i64 (pl l key), .bool (hitV l key)]) ∧ Below w.heap.size w w' := by
  have HC := Lib.hid hC
  obtain ⟨p, hp⟩ : ∃ p, pl l key = p := ⟨_, rfl⟩
  obtain ⟨hv, hhv⟩ : ∃ hv, hitV l key = hv := ⟨_, rfl⟩
  have HH : Hid (hv = match l[p]? with | some c => c.1 == key | none => false) := Lib.hid (by rw [← hhv]; unfold hitV; rw [hp])
  have HP := Lib.hid hp
  rw [hp, hhv]
  have hpl := pl_le l key
  rw [hp] at hpl
  have HX0 : Hid (Bx w #[.bool leaf, .int .i64 right, .slice A l.length cap] 60 (w.alloc (.cells #[.bool leaf, .int .i64 right, .slice A l.length cap] 60))) := Lib.hid (Bx.new _ _ _)
  clear hC hp hhv
  go_enter Try.func37, Try.ntmps37
  go_upto_region 2 with (fail)
  go_loopw [11] (fun i wr => ∃ k : Nat, i = .int .i64 k ∧ k ≤ p ∧ Hid (Bx w #[.bool leaf, .int .i64 right, .slice A l.length cap] 60 wr)) (fun i _ => l.length - (intOf i).toNat)
  case atStart => exact ⟨0, rfl, by omega, HX0⟩
  case round =>
    obtain ⟨k, rfl, hk, HX⟩ := hrel
    by_cases hlt : k < l.length
    · obtain ⟨ad, rfl, kk, child, len, loc, next, AB, cB, hget, x0, x1, x2, x3, x4, hcB, hCB⟩ := cel_at (Kd.C_below HC.out HX.out.1) k hlt
      have HGT := Lib.hid hget
      clear hget hCB hcB
      by_cases hge : kk ≥ key
      · have hkp : k = p := by have := pl_stop HGT.out hge; rw [HP.out] at this; omega
        have hh := HH.out
        rw [← hkp, HGT.out] at hh
        have HH2 : Hid (hv = (kk == key)) := Lib.hid hh
        subst hkp
        clear hh HH
        go_upto_region 5 with (fail)
        go_quiet (fail)
        go_wp2
        all_goals
          go_ret2
          exact ⟨by rw [HH2.out]; rfl, pw_below_drewN (HX.out.1.alloc HX.out.1.size _) _⟩
      · have hkp : k + 1 ≤ p := by
          rw [← HP.out]
          refine pl_ge (fun i a hi ha => ?_) (by omega)
          rcases Nat.lt_or_ge i k with h1 | h1
          · exact pl_lt (by rw [HP.out]; omega) ha
          · have : i = k := by omega
            subst this
            rw [HGT.out] at ha
            injection ha with ha
            rw [← ha]; show kk < key; omega
        go_wp2
        go_roundw
        case rel => exact ⟨k + 1, by go_num, hkp, Lib.hid (HX.out.below ((Below.refl _ _).alloc (Nat.le_refl _) _))⟩
        case measure => (simp [intOf] <;> omega)
    · have hkp : k = p := by omega
      have hh := HH.out
      rw [← hkp, List.getElem?_eq_none (by omega)] at hh
      have HH2 : Hid (hv = false) := Lib.hid hh
      have hkl : k = l.length := by omega
      subst hkp
      have a2 := HX.out.cell (i := 2) rfl
      clear hh HH
      go_wp2
      go_ret2
      exact ⟨by rw [HH2.out, hkl]; rfl, HX.out.1⟩

set_option maxHeartbeats 1000000 in
set_option maxRecDepth 100000 in
theorem refchild_calls (leaf : Bool) (right : Int) (l : List Cel) (key : Int) (A : Option Addr) (cap : Nat) (w : World) (hC : KC9.C w A l.length l) (hc : l.length ≤ cap) (hl : l.length ≤ 100000) :
    Calls Try.prog 39 #[.agg #[.bool leaf, .int .i64 right, .slice A l.length cap], .int .i64 key] w fun e w' => e = .returned (.tuple #[.int .i64 (pl l key), .int .i64 (childV right l key)]) ∧ Below w.heap.size w w' := by
  have HS := Lib.hid (fun W (h : Below w.heap.size w W) => reffind_calls leaf right l key A cap W (Kd.C_below hC h) hc hl)
  have hpl := pl_le l key
  have HC := Lib.hid hC
  obtain ⟨cv, hcv⟩ : ∃ cv, childV right l key = cv := ⟨_, rfl⟩
  obtain ⟨p, hp⟩ : ∃ p, pl l key = p := ⟨_, rfl⟩
  obtain ⟨hv, hhv⟩ : ∃ hv, hitV l key = hv := ⟨_, rfl⟩
  rw [hp, hhv] at HS
  rw [hp] at hpl
  have HCV : Hid (cv = match l[p]? with | some c => c.2.1 | none => right) := Lib.hid (by rw [← hcv, ← hp]; rfl)
  rw [hp, hcv]
  have HX0 : Hid (Bx w #[.bool leaf, .int .i64 right, .slice A l.length cap] 60 (w.alloc (.cells #[.bool leaf, .int .i64 right, .slice A l.length cap] 60))) := Lib.hid (Bx.new _ _ _)
  clear hC hp hhv hcv
  by_cases hpn : p < l.length
  · obtain ⟨ad, rfl, kk, child, len, loc, next, AB, cB, hget, x0, x1, x2, x3, x4, hcB, hCB⟩ := cel_at HC.out p hpn
    have hh := HCV.out
    rw [hget] at hh
    have HH : Hid (cv = child) := Lib.hid hh
    clear hh HCV hget x0 x2 x3 x4 hCB hcB
    go_enter Try.func39, Try.ntmps39
    go_wp2_with (go_at_call 37; refine (HS.out _ HX0.out.1).mono ?_; rintro e w1 ⟨rfl, hb1⟩; have hx1 := HX0.out.below hb1; have a0 := hx1.cell (i := 0) rfl; have a1 := hx1.cell (i := 1) rfl; have a2 := hx1.cell (i := 2) rfl; have y1 := pw_cell_below hx1.1 x1; have HX1 := Lib.hid hx1; clear hb1 hx1)
    go_quiet (fail)
    go_wp2
    all_goals
      go_ret2
      exact ⟨by rw [HH.out]; rfl, pw_below_drewN HX1.out.1 _⟩
  · have hh := HCV.out
    rw [List.getElem?_eq_none (by omega)] at hh
    have HH := Lib.hid hh
    clear hh HCV
    go_enter Try.func39, Try.ntmps39
    go_wp2_with (go_at_call 37; refine (HS.out _ HX0.out.1).mono ?_; rintro e w1 ⟨rfl, hb1⟩; have hx1 := HX0.out.below hb1; have a0 := hx1.cell (i := 0) rfl; have a1 := hx1.cell (i := 1) rfl; have a2 := hx1.cell (i := 2) rfl; have HX1 := Lib.hid hx1; clear hb1 hx1)
    go_quiet (fail)
    go_wp2
    all_goals
      go_ret2
      exact ⟨by rw [HH.out]; rfl, pw_below_drewN HX1.out.1 _⟩
/-- How many bytes the cells have. -/
def locs (l : List Cel) : Int := (l.map (fun c => (c.2.2.2.1.length : Int))).sum
def lightV (l : List Cel) : Bool := decide (l.length ≤ 200) && decide (locs l ≤ 5000)
theorem locs_nonneg (l : List Cel) : 0 ≤ locs l := by
  induction l with
  | nil => simp [locs]
  | cons c t ih => unfold locs at ih ⊢; rw [List.map_cons, List.sum_cons]; omega
theorem locs_step {l : List Cel} {k : Nat} {c : Cel} (h : l[k]? = some c) : locs (l.take (k + 1)) = locs (l.take k) + c.2.2.2.1.length := by
  unfold locs; rw [List.take_add_one, h]; simp
theorem locs_take (l : List Cel) (k : Nat) : locs (l.take k) ≤ locs l := by
  have h1 : locs l = locs (l.take k) + locs (l.drop k) := by
    unfold locs; rw [← List.sum_append, ← List.map_append, List.take_append_drop]
  have := locs_nonneg (l.drop k)
  omega
theorem locs_mem {l : List Cel} {c : Cel} (h : c ∈ l) : (c.2.2.2.1.length : Int) ≤ locs l := by
  obtain ⟨k, hk, rfl⟩ := List.mem_iff_getElem.1 h
  have h1 := locs_step (List.getElem?_eq_getElem hk)
  have h2 := locs_take l (k + 1)
  have h3 := locs_nonneg (l.take k)
  omega
set_option maxHeartbeats 1000000 in
set_option maxRecDepth 100000 in
theorem light_any (leaf : Bool) (right : Int) (l : List Cel) (A : Option Addr) (cap : Nat) (w : World) (hC : KC9.C w A l.length l) (hc : l.length ≤ cap) :
    Calls Try.prog 33 #[.agg #[.bool leaf, .int .i64 right, .slice A l.length cap]] w fun e w' => ∃ b, e = .returned (.bool b) ∧ (b = true → l.length ≤ 200) ∧ Below w.heap.size w w' := by
  have HC := Lib.hid hC
  have HX0 : Hid (Bx w #[.bool leaf, .int .i64 right, .slice A l.length cap] 55 (w.alloc (.cells #[.bool leaf, .int .i64 right, .slice A l.length cap] 55))) := Lib.hid (Bx.new _ _ _)
  clear hC
  by_cases h2 : l.length > 200
  · go_enter Try.func33, Try.ntmps33
    go_wp2
    go_ret
    exact ⟨false, rfl, fun h => (Bool.false_ne_true h).elim, HX0.out.1⟩
  · have h3 : l.length ≤ 200 := by omega
    go_enter Try.func33, Try.ntmps33
    go_wp2
    go_loopw [3, 13] (fun s i wr => ∃ (k : Nat) (S : Int), s = .int .i64 S ∧ i = .int .i64 k ∧ k ≤ l.length ∧ Hid (Bx w #[.bool leaf, .int .i64 right, .slice A l.length cap] 55 wr)) (fun _ i _ => l.length - (intOf i).toNat)
    case atStart => exact ⟨0, 0, rfl, rfl, by omega, HX0⟩
    case round =>
      obtain ⟨k, S, rfl, rfl, hk, HX⟩ := hrel
      by_cases hlt : k < l.length
      · obtain ⟨ad, rfl, kk, child, len, loc, next, AB, cB, hget, x0, x1, x2, x3, x4, hcB, hCB⟩ := cel_at (Kd.C_below HC.out HX.out.1) k hlt
        clear hget hCB hcB
        obtain ⟨T, hT⟩ : ∃ T, wrap64 (S + (loc.length : Int)) = T := ⟨_, rfl⟩
        by_cases h5 : T > 5000
        · go_wp2
          go_ret
          exact ⟨false, rfl, fun h => (Bool.false_ne_true h).elim, (HX.out.below ((Below.refl _ _).alloc (Nat.le_refl _) _)).1⟩
        · go_wp2
          go_roundw
          case rel => exact ⟨k + 1, _, rfl, by go_num, by omega, Lib.hid (HX.out.below ((Below.refl _ _).alloc (Nat.le_refl _) _))⟩
          case measure => (simp [intOf] <;> omega)
      · go_wp2
        go_ret
        exact ⟨true, rfl, fun _ => h3, HX.out.1⟩

abbrev KN9 : Kd (Bool × Int × List Cel) := Kd.pair Kd.bool (Kd.pair (Kd.int .i64) (Kd.slice 87 KC9))
theorem i64_wf {n : Int} (hn : (Lit.int .i64 n).wf = true) : -9223372036854775808 ≤ n ∧ n < 9223372036854775808 := by
  have h1 : IntKind.i64.min = -9223372036854775808 := rfl
  have h2 : IntKind.i64.max = 9223372036854775807 := rfl
  simp only [Lit.wf, Bool.and_eq_true, decide_eq_true_eq] at hn
  omega
theorem good_rise {leaf : Bool} {right : Int} {l : List Cel} (h : goodV leaf right l = true) : Rise l := by
  unfold goodV at h
  simp only [Bool.and_eq_true] at h
  exact (rise_of l none h.2).1
set_option maxHeartbeats 2000000 in
set_option maxRecDepth 100000 in
theorem CellFinds_calls {w : World} (cs : Array Value) (x : Bool × Int × List Cel) (hK : KN9.K w x cs.toList)
    (hq : True ∧ (Lit.int .i64 x.2.1).wf = true ∧ (∀ c ∈ x.2.2, ((Lit.int .i64 c.1).wf = true ∧ (Lit.int .i64 c.2.1).wf = true ∧ (Lit.int .i64 c.2.2.1).wf = true ∧ ((∀ y ∈ c.2.2.2.1, (Lit.int .u8 y).wf = true) ∧ c.2.2.2.1.length ≤ 9223372036854775807) ∧ (Lit.int .i64 c.2.2.2.2).wf = true)) ∧ x.2.2.length ≤ 9223372036854775807)
    (key : Int) (hkey : (Lit.int .i64 key).wf = true) (z : Int) (hz : (Lit.int .u64 z).wf = true) :
    Calls Try.prog 7 #[.agg cs, .int .i64 key, .int .u64 z] w fun e w' => e = .returned (.bool true) ∧ Below w.heap.size w w' := by
  obtain ⟨leaf, right, l⟩ := x
  obtain ⟨_, _, e0, rfl, _, _, rfl, rfl, A, cap, rfl, hc, hC⟩ := hK
  obtain rfl : cs = #[.bool leaf, .int .i64 right, .slice A l.length cap] := by
    cases cs; simpa using e0
  clear hq e0
  simp only at hc hC
  have hkr := i64_wf hkey
  have hzr := u64_wf hz
  have HZ1 := Lib.hid (fun W => Zig_calls key W hkr.1 hkr.2)
  have HZ2 := Lib.hid (fun W => Zig40_calls key W hkr.1 hkr.2)
  have HZ3 := Lib.hid (fun W => Zag_calls z W hzr.1 hzr.2)
  have HZ4 := Lib.hid (fun W => Zag41_calls z W hzr.1 hzr.2)
  have HZ5 := Lib.hid (fun W => Local_calls key W)
  have HZ6 := Lib.hid (fun W => Local43_calls key W)
  have HS33 := Lib.hid (fun W (h : Below w.heap.size w W) => light_any leaf right l A cap W (Kd.C_below hC h) hc)
  have HS35 := Lib.hid (fun W (h : Below w.heap.size w W) (h2 : l.length ≤ 200) => plain_calls leaf right l A cap W (Kd.C_below hC h) hc (by omega))
  have HS34 := Lib.hid (fun W A' c' (h : KC9.C W A' l.length l) (hc' : l.length ≤ c') (h2 : l.length ≤ 200) => refgood_calls leaf right l A' c' W h hc' (by omega))
  have HS37 := Lib.hid (fun W A' c' (h : KC9.C W A' l.length l) (hc' : l.length ≤ c') (h2 : l.length ≤ 200) => reffind_calls leaf right l key A' c' W h hc' (by omega))
  have HS39 := Lib.hid (fun W A' c' (h : KC9.C W A' l.length l) (hc' : l.length ≤ c') (h2 : l.length ≤ 200) => refchild_calls leaf right l key A' c' W h hc' (by omega))
  obtain ⟨zk, hzk⟩ : ∃ zk, MOct.zig key = zk := ⟨_, rfl⟩
  obtain ⟨zg, hzg⟩ : ∃ zg, MOct.zag z = zg := ⟨_, rfl⟩
  obtain ⟨lk, hlk⟩ : ∃ lk, localV key = lk := ⟨_, rfl⟩
  rw [hzk] at HZ1 HZ2
  rw [hzg] at HZ3 HZ4
  rw [hlk] at HZ5 HZ6
  obtain ⟨cv, hcv⟩ : ∃ cv, childV right l key = cv := ⟨_, rfl⟩
  obtain ⟨p, hp⟩ : ∃ p : Int, (pl l key : Int) = p := ⟨_, rfl⟩
  obtain ⟨hv, hhv⟩ : ∃ hv, hitV l key = hv := ⟨_, rfl⟩
  rw [hp, hhv] at HS37
  rw [hp, hcv] at HS39
  obtain ⟨gv, hgv⟩ : ∃ gv, goodV leaf right l = gv := ⟨_, rfl⟩
  rw [hgv] at HS34
  have HX : Hid (Bx w #[.bool leaf, .int .i64 right, .slice A l.length cap] 55 (w.alloc (.cells #[.bool leaf, .int .i64 right, .slice A l.length cap] 55))) := Lib.hid (Bx.new _ _ _)
  cases gv with
  | false =>
    clear hC hkr hzr hkey hz hzk hzg hlk hcv hp hhv hgv
    go_enter Try.func7, Try.ntmps7
    go_wp2_with (go_at_call 33; refine (HS33.out _ HX.out.1).mono ?_; rintro e w1 ⟨b, rfl, hl3, hb⟩; have hx := HX.out.below hb; have a0 := hx.cell (i := 0) rfl; have a1 := hx.cell (i := 1) rfl; have a2 := hx.cell (i := 2) rfl; have HX := Lib.hid hx; clear hx hb; cases b)
    · refine (lives09 _).mono ?_; rintro e w1 ⟨rfl, hb⟩; have hx := HX.out.below hb; have a0 := hx.cell (i := 0) rfl; have a1 := hx.cell (i := 1) rfl; have a2 := hx.cell (i := 2) rfl; have HX := Lib.hid hx; clear hx hb
      go_wp2_with (first
          | (go_at_call 24; refine (lives09 _).mono ?_; rintro e w1 ⟨rfl, hb⟩; have hx := HX.out.below hb; have a0 := hx.cell (i := 0) rfl; have a1 := hx.cell (i := 1) rfl; have a2 := hx.cell (i := 2) rfl; have HX := Lib.hid hx; clear hx hb)
          | (go_at_call 35; refine (HS35.out _ HX.out.1 hl3).mono ?_; rintro e w1 ⟨A', c', rfl, hc', hC', hb⟩; have HC' := Lib.hid hC'; clear hC'; have hx := HX.out.below hb; have a0 := hx.cell (i := 0) rfl; have a1 := hx.cell (i := 1) rfl; have a2 := hx.cell (i := 2) rfl; have HX := Lib.hid hx; clear hx hb)
          | (go_at_call 34; refine (HS34.out _ A' c' HC'.out hc' hl3).mono ?_; rintro e w1 ⟨rfl, hb⟩; have hx := HX.out.below hb; have a0 := hx.cell (i := 0) rfl; have a1 := hx.cell (i := 1) rfl; have a2 := hx.cell (i := 2) rfl; have HX := Lib.hid hx; clear hx hb)
          | (go_at_call 36; refine (HS36.out _ HX.out.1 hl3).mono ?_; rintro e w1 ⟨rfl, hb⟩; have hx := HX.out.below hb; have a0 := hx.cell (i := 0) rfl; have a1 := hx.cell (i := 1) rfl; have a2 := hx.cell (i := 2) rfl; have HX := Lib.hid hx; clear hx hb)
          | (go_at_call 38; refine (HS38.out _ HX.out.1 hl3).mono ?_; rintro e w1 ⟨rfl, hb⟩; have hx := HX.out.below hb; have a0 := hx.cell (i := 0) rfl; have a1 := hx.cell (i := 1) rfl; have a2 := hx.cell (i := 2) rfl; have HX := Lib.hid hx; clear hx hb)
          | (go_at_call 37; refine (HS37.out _ A' c' HC'.out hc' hl3).mono ?_; rintro e w1 ⟨rfl, hb⟩; have hx := HX.out.below hb; have a0 := hx.cell (i := 0) rfl; have a1 := hx.cell (i := 1) rfl; have a2 := hx.cell (i := 2) rfl; have HX := Lib.hid hx; clear hx hb)
          | (go_at_call 39; refine (HS39.out _ A' c' HC'.out hc' hl3).mono ?_; rintro e w1 ⟨rfl, hb⟩; have hx := HX.out.below hb; have a0 := hx.cell (i := 0) rfl; have a1 := hx.cell (i := 1) rfl; have a2 := hx.cell (i := 2) rfl; have HX := Lib.hid hx; clear hx hb)
          | (go_at_call 22; refine (HZ1.out _).mono ?_; rintro e w1 ⟨rfl, rfl⟩)
          | (go_at_call 40; refine (HZ2.out _).mono ?_; rintro e w1 ⟨rfl, rfl⟩)
          | (go_at_call 23; refine (HZ3.out _).mono ?_; rintro e w1 ⟨rfl, rfl⟩)
          | (go_at_call 41; refine (HZ4.out _).mono ?_; rintro e w1 ⟨rfl, rfl⟩)
          | (go_at_call 42; refine (HZ5.out _).mono ?_; rintro e w1 ⟨rfl, rfl⟩)
          | (go_at_call 43; refine (HZ6.out _).mono ?_; rintro e w1 ⟨rfl, rfl⟩))
      go_ret
      exact ⟨rfl, HX.out.1⟩
    · have hl3 := hl3 (by trivial); refine (HS35.out _ HX.out.1 hl3).mono ?_; rintro e w1 ⟨A', c', rfl, hc', hC', hb⟩; have HC' := Lib.hid hC'; clear hC'; have hx := HX.out.below hb; have a0 := hx.cell (i := 0) rfl; have a1 := hx.cell (i := 1) rfl; have a2 := hx.cell (i := 2) rfl; have HX := Lib.hid hx; clear hx hb
      go_wp2_with (first
          | (go_at_call 24; refine (lives09 _).mono ?_; rintro e w1 ⟨rfl, hb⟩; have hx := HX.out.below hb; have a0 := hx.cell (i := 0) rfl; have a1 := hx.cell (i := 1) rfl; have a2 := hx.cell (i := 2) rfl; have HX := Lib.hid hx; clear hx hb)
          | (go_at_call 35; refine (HS35.out _ HX.out.1 hl3).mono ?_; rintro e w1 ⟨A', c', rfl, hc', hC', hb⟩; have HC' := Lib.hid hC'; clear hC'; have hx := HX.out.below hb; have a0 := hx.cell (i := 0) rfl; have a1 := hx.cell (i := 1) rfl; have a2 := hx.cell (i := 2) rfl; have HX := Lib.hid hx; clear hx hb)
          | (go_at_call 34; refine (HS34.out _ A' c' HC'.out hc' hl3).mono ?_; rintro e w1 ⟨rfl, hb⟩; have hx := HX.out.below hb; have a0 := hx.cell (i := 0) rfl; have a1 := hx.cell (i := 1) rfl; have a2 := hx.cell (i := 2) rfl; have HX := Lib.hid hx; clear hx hb)
          | (go_at_call 36; refine (HS36.out _ HX.out.1 hl3).mono ?_; rintro e w1 ⟨rfl, hb⟩; have hx := HX.out.below hb; have a0 := hx.cell (i := 0) rfl; have a1 := hx.cell (i := 1) rfl; have a2 := hx.cell (i := 2) rfl; have HX := Lib.hid hx; clear hx hb)
          | (go_at_call 38; refine (HS38.out _ HX.out.1 hl3).mono ?_; rintro e w1 ⟨rfl, hb⟩; have hx := HX.out.below hb; have a0 := hx.cell (i := 0) rfl; have a1 := hx.cell (i := 1) rfl; have a2 := hx.cell (i := 2) rfl; have HX := Lib.hid hx; clear hx hb)
          | (go_at_call 37; refine (HS37.out _ A' c' HC'.out hc' hl3).mono ?_; rintro e w1 ⟨rfl, hb⟩; have hx := HX.out.below hb; have a0 := hx.cell (i := 0) rfl; have a1 := hx.cell (i := 1) rfl; have a2 := hx.cell (i := 2) rfl; have HX := Lib.hid hx; clear hx hb)
          | (go_at_call 39; refine (HS39.out _ A' c' HC'.out hc' hl3).mono ?_; rintro e w1 ⟨rfl, hb⟩; have hx := HX.out.below hb; have a0 := hx.cell (i := 0) rfl; have a1 := hx.cell (i := 1) rfl; have a2 := hx.cell (i := 2) rfl; have HX := Lib.hid hx; clear hx hb)
          | (go_at_call 22; refine (HZ1.out _).mono ?_; rintro e w1 ⟨rfl, rfl⟩)
          | (go_at_call 40; refine (HZ2.out _).mono ?_; rintro e w1 ⟨rfl, rfl⟩)
          | (go_at_call 23; refine (HZ3.out _).mono ?_; rintro e w1 ⟨rfl, rfl⟩)
          | (go_at_call 41; refine (HZ4.out _).mono ?_; rintro e w1 ⟨rfl, rfl⟩)
          | (go_at_call 42; refine (HZ5.out _).mono ?_; rintro e w1 ⟨rfl, rfl⟩)
          | (go_at_call 43; refine (HZ6.out _).mono ?_; rintro e w1 ⟨rfl, rfl⟩))
      go_ret
      exact ⟨rfl, HX.out.1⟩
  | true =>
    have hr := good_rise hgv
    have HS36 := Lib.hid (fun W (h : Below w.heap.size w W) (h2 : l.length ≤ 200) => find_calls leaf right l key A cap W (Kd.C_below hC h) hc (by omega) hr)
    have HS38 := Lib.hid (fun W (h : Below w.heap.size w W) (h2 : l.length ≤ 200) => child_calls leaf right l key A cap W (Kd.C_below hC h) hc (by omega) hr)
    rw [hp, hhv] at HS36
    rw [hp, hcv] at HS38
    have b1 := beq_self_eq_true p
    have b2 := beq_self_eq_true hv
    have b3 := beq_self_eq_true cv
    have b4 := beq_self_eq_true zk
    have b5 := beq_self_eq_true zg
    have b6 := beq_self_eq_true lk
    clear hC hkr hzr hkey hz hzk hzg hlk hcv hp hhv hgv hr
    go_enter Try.func7, Try.ntmps7
    go_wp2_with (go_at_call 33; refine (HS33.out _ HX.out.1).mono ?_; rintro e w1 ⟨b, rfl, hl3, hb⟩; have hx := HX.out.below hb; have a0 := hx.cell (i := 0) rfl; have a1 := hx.cell (i := 1) rfl; have a2 := hx.cell (i := 2) rfl; have HX := Lib.hid hx; clear hx hb; cases b)
    · refine (lives09 _).mono ?_; rintro e w1 ⟨rfl, hb⟩; have hx := HX.out.below hb; have a0 := hx.cell (i := 0) rfl; have a1 := hx.cell (i := 1) rfl; have a2 := hx.cell (i := 2) rfl; have HX := Lib.hid hx; clear hx hb
      go_wp2_with (first
          | (go_at_call 24; refine (lives09 _).mono ?_; rintro e w1 ⟨rfl, hb⟩; have hx := HX.out.below hb; have a0 := hx.cell (i := 0) rfl; have a1 := hx.cell (i := 1) rfl; have a2 := hx.cell (i := 2) rfl; have HX := Lib.hid hx; clear hx hb)
          | (go_at_call 35; refine (HS35.out _ HX.out.1 hl3).mono ?_; rintro e w1 ⟨A', c', rfl, hc', hC', hb⟩; have HC' := Lib.hid hC'; clear hC'; have hx := HX.out.below hb; have a0 := hx.cell (i := 0) rfl; have a1 := hx.cell (i := 1) rfl; have a2 := hx.cell (i := 2) rfl; have HX := Lib.hid hx; clear hx hb)
          | (go_at_call 34; refine (HS34.out _ A' c' HC'.out hc' hl3).mono ?_; rintro e w1 ⟨rfl, hb⟩; have hx := HX.out.below hb; have a0 := hx.cell (i := 0) rfl; have a1 := hx.cell (i := 1) rfl; have a2 := hx.cell (i := 2) rfl; have HX := Lib.hid hx; clear hx hb)
          | (go_at_call 36; refine (HS36.out _ HX.out.1 hl3).mono ?_; rintro e w1 ⟨rfl, hb⟩; have hx := HX.out.below hb; have a0 := hx.cell (i := 0) rfl; have a1 := hx.cell (i := 1) rfl; have a2 := hx.cell (i := 2) rfl; have HX := Lib.hid hx; clear hx hb)
          | (go_at_call 38; refine (HS38.out _ HX.out.1 hl3).mono ?_; rintro e w1 ⟨rfl, hb⟩; have hx := HX.out.below hb; have a0 := hx.cell (i := 0) rfl; have a1 := hx.cell (i := 1) rfl; have a2 := hx.cell (i := 2) rfl; have HX := Lib.hid hx; clear hx hb)
          | (go_at_call 37; refine (HS37.out _ A' c' HC'.out hc' hl3).mono ?_; rintro e w1 ⟨rfl, hb⟩; have hx := HX.out.below hb; have a0 := hx.cell (i := 0) rfl; have a1 := hx.cell (i := 1) rfl; have a2 := hx.cell (i := 2) rfl; have HX := Lib.hid hx; clear hx hb)
          | (go_at_call 39; refine (HS39.out _ A' c' HC'.out hc' hl3).mono ?_; rintro e w1 ⟨rfl, hb⟩; have hx := HX.out.below hb; have a0 := hx.cell (i := 0) rfl; have a1 := hx.cell (i := 1) rfl; have a2 := hx.cell (i := 2) rfl; have HX := Lib.hid hx; clear hx hb)
          | (go_at_call 22; refine (HZ1.out _).mono ?_; rintro e w1 ⟨rfl, rfl⟩)
          | (go_at_call 40; refine (HZ2.out _).mono ?_; rintro e w1 ⟨rfl, rfl⟩)
          | (go_at_call 23; refine (HZ3.out _).mono ?_; rintro e w1 ⟨rfl, rfl⟩)
          | (go_at_call 41; refine (HZ4.out _).mono ?_; rintro e w1 ⟨rfl, rfl⟩)
          | (go_at_call 42; refine (HZ5.out _).mono ?_; rintro e w1 ⟨rfl, rfl⟩)
          | (go_at_call 43; refine (HZ6.out _).mono ?_; rintro e w1 ⟨rfl, rfl⟩))
      go_ret
      exact ⟨rfl, HX.out.1⟩
    · have hl3 := hl3 (by trivial); refine (HS35.out _ HX.out.1 hl3).mono ?_; rintro e w1 ⟨A', c', rfl, hc', hC', hb⟩; have HC' := Lib.hid hC'; clear hC'; have hx := HX.out.below hb; have a0 := hx.cell (i := 0) rfl; have a1 := hx.cell (i := 1) rfl; have a2 := hx.cell (i := 2) rfl; have HX := Lib.hid hx; clear hx hb
      go_wp2_with (first
          | (go_at_call 24; refine (lives09 _).mono ?_; rintro e w1 ⟨rfl, hb⟩; have hx := HX.out.below hb; have a0 := hx.cell (i := 0) rfl; have a1 := hx.cell (i := 1) rfl; have a2 := hx.cell (i := 2) rfl; have HX := Lib.hid hx; clear hx hb)
          | (go_at_call 35; refine (HS35.out _ HX.out.1 hl3).mono ?_; rintro e w1 ⟨A', c', rfl, hc', hC', hb⟩; have HC' := Lib.hid hC'; clear hC'; have hx := HX.out.below hb; have a0 := hx.cell (i := 0) rfl; have a1 := hx.cell (i := 1) rfl; have a2 := hx.cell (i := 2) rfl; have HX := Lib.hid hx; clear hx hb)
          | (go_at_call 34; refine (HS34.out _ A' c' HC'.out hc' hl3).mono ?_; rintro e w1 ⟨rfl, hb⟩; have hx := HX.out.below hb; have a0 := hx.cell (i := 0) rfl; have a1 := hx.cell (i := 1) rfl; have a2 := hx.cell (i := 2) rfl; have HX := Lib.hid hx; clear hx hb)
          | (go_at_call 36; refine (HS36.out _ HX.out.1 hl3).mono ?_; rintro e w1 ⟨rfl, hb⟩; have hx := HX.out.below hb; have a0 := hx.cell (i := 0) rfl; have a1 := hx.cell (i := 1) rfl; have a2 := hx.cell (i := 2) rfl; have HX := Lib.hid hx; clear hx hb)
          | (go_at_call 38; refine (HS38.out _ HX.out.1 hl3).mono ?_; rintro e w1 ⟨rfl, hb⟩; have hx := HX.out.below hb; have a0 := hx.cell (i := 0) rfl; have a1 := hx.cell (i := 1) rfl; have a2 := hx.cell (i := 2) rfl; have HX := Lib.hid hx; clear hx hb)
          | (go_at_call 37; refine (HS37.out _ A' c' HC'.out hc' hl3).mono ?_; rintro e w1 ⟨rfl, hb⟩; have hx := HX.out.below hb; have a0 := hx.cell (i := 0) rfl; have a1 := hx.cell (i := 1) rfl; have a2 := hx.cell (i := 2) rfl; have HX := Lib.hid hx; clear hx hb)
          | (go_at_call 39; refine (HS39.out _ A' c' HC'.out hc' hl3).mono ?_; rintro e w1 ⟨rfl, hb⟩; have hx := HX.out.below hb; have a0 := hx.cell (i := 0) rfl; have a1 := hx.cell (i := 1) rfl; have a2 := hx.cell (i := 2) rfl; have HX := Lib.hid hx; clear hx hb)
          | (go_at_call 22; refine (HZ1.out _).mono ?_; rintro e w1 ⟨rfl, rfl⟩)
          | (go_at_call 40; refine (HZ2.out _).mono ?_; rintro e w1 ⟨rfl, rfl⟩)
          | (go_at_call 23; refine (HZ3.out _).mono ?_; rintro e w1 ⟨rfl, rfl⟩)
          | (go_at_call 41; refine (HZ4.out _).mono ?_; rintro e w1 ⟨rfl, rfl⟩)
          | (go_at_call 42; refine (HZ5.out _).mono ?_; rintro e w1 ⟨rfl, rfl⟩)
          | (go_at_call 43; refine (HZ6.out _).mono ?_; rintro e w1 ⟨rfl, rfl⟩))
      go_ret
      exact ⟨rfl, HX.out.1⟩
end Go.Proofs.Ytlfcgicobhalmaa.K
