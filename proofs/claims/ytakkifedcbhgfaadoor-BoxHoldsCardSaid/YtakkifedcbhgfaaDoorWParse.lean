/- The number of a text. -/
import Derived.Test.YtakkifedcbhgfaaDoorBase
import Derived.Handy
import Derived.Test.YtakkifedcbhgfaaDoorWMore1
import Derived.RangeFuncRecord
namespace Go.Proofs.YtakkifedcbhgfaaDoor.K
open Go Go.RowKit Go.Proofs.YtakkifedcbhgfaaDoorW.PrintWords Go.Proofs.YtakkifedcbhgfaaDoorW.PrintLast Go.Proofs.YtakkifedcbhgfaaDoorW.PrintMore
set_option linter.unusedVariables false
set_option linter.unusedSimpArgs false
open Go.Proofs.YtakkifedcbhgfaaDoor.MWide (bt W64 U192 addV subV addOk subOk cry sumO bor difO cmpV width)
open Go.Proofs.YtakkifedcbhgfaaDoor.MText (padD dec strip numOf parseOk parseV canon digs)
theorem run_next_in {P : Program} (W : World) (g : Nat) (s : ByteArray) (pos : Nat) (ty : TypeId) (hg : W.heap[g]? = some (.stringIter s pos)) (h : pos < s.size) :
    (Instr.next (.pointer (some ⟨g, 0, none⟩)) true ty).run P W = .ok (.tuple #[.bool true, .int .i64 pos, .int .i32 (Utf8.decode s pos).1]) (W.putObj g (.stringIter s (pos + (Utf8.decode s pos).2))) := by
  simp only [Instr.next, getObj, setObj, Sem.run_bind, Sem.run, hg, Result.andThen, h, if_true]
  simp [goInt, World.putObj]
theorem run_next_stop {P : Program} (W : World) (g : Nat) (s : ByteArray) (pos : Nat) (ty : TypeId) (hg : W.heap[g]? = some (.stringIter s pos)) (h : ¬ pos < s.size) :
    (Instr.next (.pointer (some ⟨g, 0, none⟩)) true ty).run P W = .ok (.tuple #[.bool false]) W := by
  simp [Instr.next, getObj, Sem.run, hg, h]
theorem blk_some {W : World} {g : Nat} {o : Obj} (h : W.heap[g]? = some o) : g < W.heap.size := by
  rcases Nat.lt_or_ge g W.heap.size with hl | hl
  · exact hl
  · rw [Array.getElem?_eq_none hl] at h; cases h
theorem iterPos_of {W : World} {g p : Nat} {s : ByteArray} (h : W.heap[g]? = some (.stringIter s p)) : W.iterPos g = p := by simp [World.iterPos, h]
theorem heap_set3 {W : World} {g j : Nat} {x y z : Value} (h : g ≠ j) : (((W.setCell ⟨j, 0, none⟩ x).setCell ⟨j, 1, none⟩ y).setCell ⟨j, 2, none⟩ z).heap[g]? = W.heap[g]? := by
  rw [Below.heap_setCell _ _ _ _ h, Below.heap_setCell _ _ _ _ h, Below.heap_setCell _ _ _ _ h]
theorem Blk.put {W : World} {g j t : Nat} {cs : Array Value} (h : Blk W g cs t) (hj : g ≠ j) (o : Obj) : Blk (W.putObj j o) g cs t := (World.putObj_heap_other hj).trans h
theorem below_put {B : Nat} {a w : World} (h : Below B a w) {j : Nat} (hj : B ≤ j) (o : Obj) : Below B a (w.putObj j o) :=
  ⟨h.os, h.tape, h.output, by simpa using h.size, fun i hi => by
    rw [World.putObj_heap_other (by omega)]; exact h.block i hi⟩
/-- A byte below 128 is a rune; another one begins a rune that is not below 128. -/
theorem rune_low (s : ByteArray) (pos : Nat) (h : pos < s.size) (ha : (s[pos]'h).toNat < 128) : (Utf8.decode s pos).1 = (s[pos]'h).toNat ∧ (Utf8.decode s pos).2 = 1 := by
  rw [decode_ascii s pos h ha]; exact ⟨rfl, rfl⟩
theorem bytes_get (s : ByteArray) (k : Nat) (h : k < s.size) : (bytesOf s)[k]? = some (((s[k]'h).toNat : Nat) : Int) := by
  unfold bytesOf
  have hl : k < s.data.toList.length := by rw [Array.length_toList]; exact h
  rw [List.getElem?_map, List.getElem?_eq_getElem hl]
  rfl
theorem take_next {l : List Int} {k : Nat} {c : Int} (h : l[k]? = some c) : l.take (k + 1) = l.take k ++ [c] := by
  have hk : k < l.length := by
    rcases Nat.lt_or_ge k l.length with h1 | h1
    · exact h1
    · rw [List.getElem?_eq_none h1] at h; cases h
  rw [List.take_succ_eq_append_getElem hk]
  rw [List.getElem?_eq_getElem hk] at h
  rw [Option.some.inj h]
theorem digs_next {l : List Int} {k : Nat} {c : Int} (h : l[k]? = some c) (hd : digs (l.take k)) (hc : 48 ≤ c ∧ c ≤ 57) : digs (l.take (k + 1)) := by
  rw [take_next h]
  intro x hx
  rcases List.mem_append.1 hx with hx | hx
  · exact hd x hx
  · simp at hx; omega
theorem num_next {l : List Int} {k : Nat} {c : Int} (h : l[k]? = some c) : numOf (l.take (k + 1)) = 10 * numOf (l.take k) + (c - 48) := by rw [take_next h, MText.numOf_snoc]
theorem bad_char {l : List Int} {k : Nat} {c : Int} (h : l[k]? = some c) (hc : ¬ (48 ≤ c ∧ c ≤ 57)) : parseOk l = false := by
  rw [Bool.eq_false_iff]
  intro hp
  have := ((MText.parse_iff l).1 hp).1.2.1 c (List.mem_of_getElem? h)
  exact hc this
theorem bad_big {l : List Int} {k : Nat} (hb : 6277101735386680763835789423207666416102355444464034512896 ≤ numOf (l.take k)) : parseOk l = false := by
  rw [Bool.eq_false_iff]
  intro hp
  obtain ⟨h1, h2, h3⟩ := (MText.parse_iff l).1 hp
  have := MText.numOf_app (l := l.take k) (m := l.drop k) (by rw [List.take_append_drop]; exact h1.2.1)
  rw [List.take_append_drop] at this
  omega
theorem bytes_inj {s t : ByteArray} (h : s.data.toList = t.data.toList) : bytesOf s = bytesOf t := by unfold bytesOf; rw [h]
theorem bytes_str {l : List Int} (h : ∀ x ∈ l, 0 ≤ x ∧ x < 256) : bytesOf (strOfNums l) = l := by
  unfold bytesOf
  rw [strOfNums_data, List.map_map]
  conv => rhs; rw [← List.map_id l]
  apply List.map_congr_left
  intro x hx
  have := h x hx
  simp only [Function.comp, id]
  rw [UInt8.toNat_ofNat', Nat.mod_eq_of_lt (by omega), Int.toNat_of_nonneg (by omega)]
theorem str_bytes (s : ByteArray) : strOfNums (bytesOf s) = s := by
  unfold strOfNums bytesOf
  rw [List.map_map]
  have : s.data.toList.map ((fun n : Int => UInt8.ofNat n.toNat) ∘ fun b : UInt8 => ((b.toNat : Nat) : Int)) = s.data.toList := by
    conv => rhs; rw [← List.map_id s.data.toList]
    apply List.map_congr_left
    intro x _
    simp
  rw [this]
set_option maxHeartbeats 2000000 in
set_option maxRecDepth 100000 in
theorem Parse_calls (s : ByteArray) (w : World) (hs : s.size ≤ 9223372036854775807) :
    Calls Tryd.prog 20 #[.string s] w fun e w' => e = .returned (.tuple #[.agg #[.int .u64 (MWide.w0 (parseV (bytesOf s))), .int .u64 (MWide.w1 (parseV (bytesOf s))), .int .u64 (MWide.w2 (parseV (bytesOf s)))], .bool (parseOk (bytesOf s))]) ∧ Bel w w' := by
  have hno : parseOk (bytesOf s) = false → parseV (bytesOf s) = 0 := fun h => by unfold parseV; rw [if_neg (by rw [h]; decide)]
  have HNO := Lib.hid hno
  clear hno
  by_cases h0 : s.size = 0
  · have hp : parseOk (bytesOf s) = false := by
      have : bytesOf s = [] := List.eq_nil_of_length_eq_zero (by rw [bytesOf_length]; exact h0)
      rw [this]; rfl
    have HZ := Lib.hid (HNO.out hp)
    have HP := Lib.hid hp
    have hem : s.toList.isEmpty = true := by
      rw [ByteArray.toList_eq, bytes_nil s h0]; rfl
    clear hp h0
    go_enter Tryd.func20, Tryd.ntmps20
    go_wp2
    refine bodyPost_ret (v := .tuple #[.agg #[.int .u64 (MWide.w0 (parseV (bytesOf s))), .int .u64 (MWide.w1 (parseV (bytesOf s))), .int .u64 (MWide.w2 (parseV (bytesOf s)))], .bool (parseOk (bytesOf s))]) ?_ rfl ⟨rfl, by repeat (first | exact Below.refl _ _ | refine Below.drew ?_ | refine Below.alloc ?_ (by simp <;> omega) _)⟩
    rw [HP.out, HZ.out]
    simp [results, Tryd.results20, go_sem]
    exact ⟨rfl, rfl, rfl⟩
  have hem : s.toList.isEmpty = false := by
    rw [ByteArray.toList_eq]
    cases hx : s.data.toList with
    | nil => exact absurd (by rw [show s.size = s.data.toList.length by rw [Array.length_toList]; rfl, hx]; rfl) h0
    | cons x l => rfl
  by_cases h58 : 58 < s.size
  · have hp : parseOk (bytesOf s) = false := by
      unfold parseOk
      rw [decide_eq_false_iff_not]
      rintro ⟨_, h, _⟩
      rw [bytesOf_length] at h
      omega
    have HZ := Lib.hid (HNO.out hp)
    have HP := Lib.hid hp
    clear hp h0
    go_enter Tryd.func20, Tryd.ntmps20
    go_wp2
    refine bodyPost_ret (v := .tuple #[.agg #[.int .u64 (MWide.w0 (parseV (bytesOf s))), .int .u64 (MWide.w1 (parseV (bytesOf s))), .int .u64 (MWide.w2 (parseV (bytesOf s)))], .bool (parseOk (bytesOf s))]) ?_ rfl ⟨rfl, by repeat (first | exact Below.refl _ _ | refine Below.drew ?_ | refine Below.alloc ?_ (by simp <;> omega) _)⟩
    rw [HP.out, HZ.out]
    simp [results, Tryd.results20, go_sem]
    exact ⟨rfl, rfl, rfl⟩
  clear h0
  go_enter Tryd.func20, Tryd.ntmps20
  go_wp2
  go_outline
  go_loopw [] (fun wr => ∃ k : Nat, k ≤ s.size ∧ Hid (digs ((bytesOf s).take k)) ∧ Hid (numOf ((bytesOf s).take k) < 6277101735386680763835789423207666416102355444464034512896) ∧ Hid (Below w.heap.size w wr) ∧ Blk wr w.heap.size #[.int .u64 0, .int .u64 0, .int .u64 0] 26 ∧ Blk wr (w.heap.size + 1) #[.int .u64 (MWide.w0 (numOf ((bytesOf s).take k))), .int .u64 (MWide.w1 (numOf ((bytesOf s).take k))), .int .u64 (MWide.w2 (numOf ((bytesOf s).take k)))] 26 ∧ Hid (wr.heap[w.heap.size + 1 + 1]? = some (.stringIter s k))) (fun wr => s.size - wr.iterPos (w.heap.size + 1 + 1))
  case atStart =>
    refine ⟨0, by omega, Lib.hid (fun x hx => by simp at hx), Lib.hid (by rw [List.take_zero]; decide), Lib.hid ?_, ?_, ?_, Lib.hid ?_⟩
    · unfold World.iter
      exact ((((Below.refl _ w).alloc (Nat.le_refl _) _).alloc (by simp) _).alloc (by simp; omega) _)
    · exact ((Blk.new w _ _).alloc _).alloc _
    · exact (Blk.new_at (by simp) _ _).alloc _
    · have := World.iter_heap ((w.alloc (.cells #[.int .u64 0, .int .u64 0, .int .u64 0] 26)).alloc (.cells #[.int .u64 0, .int .u64 0, .int .u64 0] 26)) s 0
      simpa using this
  case round =>
    obtain ⟨k, hk, HD, HT, HBel, hr, ho, hi⟩ := hrel
    obtain ⟨r0, r1, r2⟩ := hr.cells3
    obtain ⟨o0, o1, o2⟩ := ho.cells3
    have f0 := hr.froz 0; have f1 := hr.froz 1; have f2 := hr.froz 2
    by_cases hp : k < s.size
    · have hnx : ∀ ty, (Instr.next (.pointer (some ⟨w.heap.size + 1 + 1, 0, none⟩)) true ty).run Tryd.prog wr = _ := fun ty => run_next_in wr _ s k ty hi.out hp
      have hbk := bytes_get s k hp
      have hpr := hr.put (j := w.heap.size + 1 + 1) (by omega) (.stringIter s (k + (Utf8.decode s k).2))
      have hpo := ho.put (j := w.heap.size + 1 + 1) (by omega) (.stringIter s (k + (Utf8.decode s k).2))
      have hpB := Lib.hid (below_put HBel.out (j := w.heap.size + 1 + 1) (by omega) (.stringIter s (k + (Utf8.decode s k).2)))
      have hpi : Hid ((wr.putObj (w.heap.size + 1 + 1) (.stringIter s (k + (Utf8.decode s k).2))).heap[w.heap.size + 1 + 1]? = some (.stringIter s (k + (Utf8.decode s k).2))) := Lib.hid (World.putObj_heap_same (blk_some hi.out))
      obtain ⟨W, hW⟩ : ∃ W, wr.putObj (w.heap.size + 1 + 1) (.stringIter s (k + (Utf8.decode s k).2)) = W := ⟨_, rfl⟩
      rw [hW] at hpr hpo hpB hpi
      simp only [hW] at hnx
      clear hW r0 r1 r2 o0 o1 o2 f0 f1 f2
      obtain ⟨r0, r1, r2⟩ := hpr.cells3
      obtain ⟨o0, o1, o2⟩ := hpo.cells3
      have f0 := hpr.froz 0; have f1 := hpr.froz 1; have f2 := hpr.froz 2
      have p0 := hpo.froz 0; have p1 := hpo.froz 1; have p2 := hpo.froz 2
      by_cases ha : (s[k]'hp).toNat < 128
      · obtain ⟨e1, e2⟩ := rune_low s k hp ha
        rw [e2] at hpi
        obtain ⟨c, hc⟩ : ∃ c, (s[k]'hp).toNat = c := ⟨_, rfl⟩
        rw [hc] at e1 hbk ha
        have hrune : (Utf8.decode s k).1 = c := e1
        by_cases hd : 48 ≤ c ∧ c ≤ 57
        · obtain ⟨hd0, hd1⟩ := hd
          have hn := num_next hbk
          have hdg := Lib.hid (digs_next hbk HD.out (by omega))
          have hnn := MText.numOf_nonneg HD.out
          have HM := Lib.hid (fun w => more_calls (numOf ((bytesOf s).take k)) ((c : Int) - 48) w ⟨hnn, HT.out⟩ (by omega) (by omega))
          by_cases hov : 10 * numOf ((bytesOf s).take k) + ((c : Int) - 48) < 6277101735386680763835789423207666416102355444464034512896
          · have hmo : moreOk (numOf ((bytesOf s).take k)) ((c : Int) - 48) = true := by unfold moreOk; exact decide_eq_true hov
            have hmv : moreV (numOf ((bytesOf s).take k)) ((c : Int) - 48) = numOf ((bytesOf s).take (k + 1)) := by
              rw [hn]; unfold moreV; exact Int.emod_eq_of_lt (by omega) hov
            rw [hmo, hmv] at HM
            have HT2 : Hid (numOf ((bytesOf s).take (k + 1)) < 6277101735386680763835789423207666416102355444464034512896) := Lib.hid (by rw [hn]; exact hov)
            clear e1 e2 hc hbk hn hnn hov hmo hmv
            go_wp2_with fail
            refine (HM.out _).mono ?_
            rintro e w2 ⟨rfl, hb2⟩
            have hpr2 := hpr.bel hb2
            have hpo2 := hpo.bel hb2
            have hpB2 := Lib.hid (bthen hpB.out hb2)
            have hpi2 : Hid (w2.heap[w.heap.size + 1 + 1]? = some (.stringIter s (k + 1))) := Lib.hid ((hb2.block _ (blk_some hpi.out)).trans hpi.out)
            clear hb2 r0 r1 r2 o0 o1 o2 f0 f1 f2 p0 p1 p2
            obtain ⟨o0, o1, o2⟩ := hpo2.cells3
            have p0 := hpo2.froz 0; have p1 := hpo2.froz 1; have p2 := hpo2.froz 2
            go_wp2_with fail
            go_roundw
            case rel =>
              refine ⟨k + 1, by omega, hdg, HT2, Lib.hid (below_set3 hpB2.out (by omega) _ _ _), hpr2.set3_ne (by omega), hpo2.set3, Lib.hid ?_⟩
              rw [heap_set3 (by omega)]
              exact hpi2.out
            case measure =>
              rw [iterPos_of (s := s) (p := k + 1) (by rw [heap_set3 (by omega)]; exact hpi2.out), iterPos_of hi.out]
              omega
          · have hmo : moreOk (numOf ((bytesOf s).take k)) ((c : Int) - 48) = false := by unfold moreOk; exact decide_eq_false hov
            have HP : Hid (parseOk (bytesOf s) = false) := Lib.hid (bad_big (k := k + 1) (by rw [hn]; omega))
            rw [hmo] at HM
            clear e1 e2 hc hbk hn hnn hov hmo
            go_wp2_with fail
            refine (HM.out _).mono ?_
            rintro e w2 ⟨rfl, hb2⟩
            have hpr2 := hpr.bel hb2
            have hpo2 := hpo.bel hb2
            have hpB2 := Lib.hid (bthen hpB.out hb2)
            clear hb2 r0 r1 r2 o0 o1 o2 f0 f1 f2 p0 p1 p2
            obtain ⟨o0, o1, o2⟩ := hpo2.cells3
            have p0 := hpo2.froz 0; have p1 := hpo2.froz 1; have p2 := hpo2.froz 2
            have hpr3 := fun x y z => Blk.set3_ne (j := w.heap.size + 1) (x' := x) (y' := y) (z' := z) hpr2 (by omega)
            have r0 := fun x y z => (hpr3 x y z).cells3.1
            have r1 := fun x y z => (hpr3 x y z).cells3.2.1
            have r2 := fun x y z => (hpr3 x y z).cells3.2.2
            have f0 := fun x y z => (hpr3 x y z).froz 0
            have f1 := fun x y z => (hpr3 x y z).froz 1
            have f2 := fun x y z => (hpr3 x y z).froz 2
            have HPR := Lib.hid hpr3
            clear hpr3
            go_wp2
            refine bodyPost_ret (v := .tuple #[.agg #[.int .u64 (MWide.w0 (parseV (bytesOf s))), .int .u64 (MWide.w1 (parseV (bytesOf s))), .int .u64 (MWide.w2 (parseV (bytesOf s)))], .bool (parseOk (bytesOf s))]) ?_ rfl ⟨rfl, below_set3 (below_set3 hpB2.out (by omega) _ _ _) (by omega) _ _ _⟩
            rw [HP.out, HNO.out HP.out]
            obtain ⟨q0, q1, q2⟩ := (Blk.set3 (HPR.out (.int .u64 (MWide.w0 (moreV (numOf (List.take k (bytesOf s))) ((c : Int) - 48)))) (.int .u64 (MWide.w1 (moreV (numOf (List.take k (bytesOf s))) ((c : Int) - 48)))) (.int .u64 (MWide.w2 (moreV (numOf (List.take k (bytesOf s))) ((c : Int) - 48))))) (x' := .int .u64 0) (y' := .int .u64 0) (z' := .int .u64 0)).cells3
            clear r0 r1 r2 f0 f1 f2
            simp [results, Tryd.results20, go_sem, q0, q1, q2]
            exact ⟨rfl, rfl, rfl⟩
        · have HP : Hid (parseOk (bytesOf s) = false) := Lib.hid (bad_char hbk (by omega))
          by_cases h48 : c < 48
          all_goals
            clear e1 e2 hc hbk
            go_wp2
            refine bodyPost_ret (v := .tuple #[.agg #[.int .u64 (MWide.w0 (parseV (bytesOf s))), .int .u64 (MWide.w1 (parseV (bytesOf s))), .int .u64 (MWide.w2 (parseV (bytesOf s)))], .bool (parseOk (bytesOf s))]) ?_ rfl ⟨rfl, below_set3 hpB.out (by omega) _ _ _⟩
            rw [HP.out, HNO.out HP.out]
            obtain ⟨q0, q1, q2⟩ := (hpr.set3 (x' := .int .u64 0) (y' := .int .u64 0) (z' := .int .u64 0)).cells3
            simp [results, Tryd.results20, go_sem, q0, q1, q2]
            exact ⟨rfl, rfl, rfl⟩
      · have HP : Hid (parseOk (bytesOf s) = false) := Lib.hid (bad_char hbk (by omega))
        have hhi := (decode_high s k hp (by omega)).1
        have hle := decode_le s k
        clear hbk ha
        go_wp2
        refine bodyPost_ret (v := .tuple #[.agg #[.int .u64 (MWide.w0 (parseV (bytesOf s))), .int .u64 (MWide.w1 (parseV (bytesOf s))), .int .u64 (MWide.w2 (parseV (bytesOf s)))], .bool (parseOk (bytesOf s))]) ?_ rfl ⟨rfl, below_set3 hpB.out (by omega) _ _ _⟩
        rw [HP.out, HNO.out HP.out]
        obtain ⟨q0, q1, q2⟩ := (hpr.set3 (x' := .int .u64 0) (y' := .int .u64 0) (z' := .int .u64 0)).cells3
        simp [results, Tryd.results20, go_sem, q0, q1, q2]
        exact ⟨rfl, rfl, rfl⟩
    · have hnx : ∀ ty, (Instr.next (.pointer (some ⟨w.heap.size + 1 + 1, 0, none⟩)) true ty).run Tryd.prog wr = _ := fun ty => run_next_stop wr _ s k ty hi.out hp
      have hkk : k = s.size := by omega
      subst hkk
      have hall : (bytesOf s).take s.size = bytesOf s := List.take_of_length_le (by rw [bytesOf_length]; omega)
      rw [hall] at HD HT ho o0 o1 o2
      have hnn := MText.numOf_nonneg HD.out
      have HTx := Lib.hid (fun w => Text_calls (numOf (bytesOf s)) w ⟨hnn, HT.out⟩)
      clear hall
      have hz58 := h58
      have hne : bytesOf s ≠ [] := fun h => by
        have h1 : (bytesOf s).length = s.size := bytesOf_length s
        rw [h] at h1
        have h2 : s.data.toList = [] := bytes_nil s h1.symm
        rw [ByteArray.toList_eq, h2] at hem
        cases hem
      by_cases hdec : dec (numOf (bytesOf s)) = bytesOf s
      · have hok : parseOk (bytesOf s) = true := by
          unfold parseOk
          rw [decide_eq_true_eq]
          exact ⟨hne, by rw [bytesOf_length]; omega, HD.out, HT.out, hdec⟩
        have hpv : parseV (bytesOf s) = numOf (bytesOf s) := by unfold parseV; rw [if_pos hok]
        have hq : ((strOfNums (dec (numOf (bytesOf s)))).toList == s.toList) = true := by rw [hdec, str_bytes]; exact beq_self_eq_true _
        have HOK := Lib.hid hok
        have HPV := Lib.hid hpv
        clear hdec hok hpv hne hnn
        go_wp2_with fail
        refine (HTx.out _).mono ?_
        rintro e w2 ⟨rfl, hb2⟩
        have hr2 := hr.bel hb2
        have ho2 := ho.bel hb2
        have HB2 := Lib.hid (bthen HBel.out hb2)
        clear r0 r1 r2 o0 o1 o2 f0 f1 f2 hb2 hnx
        obtain ⟨r0, r1, r2⟩ := hr2.cells3
        obtain ⟨o0, o1, o2⟩ := ho2.cells3
        have f0 := hr2.froz 0; have f1 := hr2.froz 1; have f2 := hr2.froz 2
        go_wp2
        refine bodyPost_ret (v := .tuple #[.agg #[.int .u64 (MWide.w0 (parseV (bytesOf s))), .int .u64 (MWide.w1 (parseV (bytesOf s))), .int .u64 (MWide.w2 (parseV (bytesOf s)))], .bool (parseOk (bytesOf s))]) ?_ rfl ⟨rfl, below_set3 HB2.out (by omega) _ _ _⟩
        rw [HOK.out, HPV.out]
        obtain ⟨q0, q1, q2⟩ := (hr2.set3 (x' := .int .u64 (MWide.w0 (numOf (bytesOf s)))) (y' := .int .u64 (MWide.w1 (numOf (bytesOf s)))) (z' := .int .u64 (MWide.w2 (numOf (bytesOf s))))).cells3
        simp [results, Tryd.results20, go_sem, q0, q1, q2]
      · have HP : Hid (parseOk (bytesOf s) = false) := Lib.hid (by
          unfold parseOk
          rw [decide_eq_false_iff_not]
          exact fun h => hdec h.2.2.2.2)
        have hq : ((strOfNums (dec (numOf (bytesOf s)))).toList == s.toList) = false := by
          rw [beq_eq_false_iff_ne]
          intro h
          apply hdec
          rw [ByteArray.toList_eq, ByteArray.toList_eq] at h
          have h2 := bytes_inj h
          rwa [bytes_str (fun x hx => by
            have := MText.dec_digs hnn (Int.lt_trans HT.out MText.top58) x hx
            omega)] at h2
        clear hdec hne hnn
        go_wp2_with fail
        refine (HTx.out _).mono ?_
        rintro e w2 ⟨rfl, hb2⟩
        have hr2 := hr.bel hb2
        have HB2 := Lib.hid (bthen HBel.out hb2)
        clear r0 r1 r2 o0 o1 o2 f0 f1 f2 hb2 hnx
        obtain ⟨r0, r1, r2⟩ := hr2.cells3
        have f0 := hr2.froz 0; have f1 := hr2.froz 1; have f2 := hr2.froz 2
        go_wp2
        refine bodyPost_ret (v := .tuple #[.agg #[.int .u64 (MWide.w0 (parseV (bytesOf s))), .int .u64 (MWide.w1 (parseV (bytesOf s))), .int .u64 (MWide.w2 (parseV (bytesOf s)))], .bool (parseOk (bytesOf s))]) ?_ rfl ⟨rfl, below_set3 HB2.out (by omega) _ _ _⟩
        rw [HP.out, HNO.out HP.out]
        obtain ⟨q0, q1, q2⟩ := (hr2.set3 (x' := .int .u64 0) (y' := .int .u64 0) (z' := .int .u64 0)).cells3
        simp [results, Tryd.results20, go_sem, q0, q1, q2]
        exact ⟨rfl, rfl, rfl⟩

end Go.Proofs.YtakkifedcbhgfaaDoor.K
