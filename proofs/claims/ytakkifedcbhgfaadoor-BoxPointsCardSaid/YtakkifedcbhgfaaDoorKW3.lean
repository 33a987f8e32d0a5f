/- Texts laid as one: Ten times a wide number, and a digit. · The number of a text. · The law of layer 1 on what comes back. -/
import Derived.Test.YtakkifedcbhgfaaDoorKB
import Derived.Handy
import Derived.Test.YtakkifedcbhgfaaDoorKW2
import Derived.RangeFuncRecord
namespace Go.Proofs.YtakkifedcbhgfaaDoor.K
open Go Go.RowKit Go.Proofs.YtakkifedcbhgfaaDoorW.PrintWords Go.Proofs.YtakkifedcbhgfaaDoorW.PrintLast Go.Proofs.YtakkifedcbhgfaaDoorW.PrintMore
set_option linter.unusedVariables false
set_option linter.unusedSimpArgs false
open Go.Proofs.YtakkifedcbhgfaaDoor.MWide (bt W64 U192 addV subV addOk subOk cry sumO bor difO cmpV width)
open Go.Proofs.YtakkifedcbhgfaaDoor.MText (padD dec strip numOf parseOk parseV canon digs)
/-- What a digit more comes to. -/
def moreV (a d : Int) : Int := (10 * a + d) % 6277101735386680763835789423207666416102355444464034512896
def moreOk (a d : Int) : Bool := decide (10 * a + d < 6277101735386680763835789423207666416102355444464034512896)
theorem moreV_u (a d : Int) : U192 (moreV a d) := by unfold moreV U192; omega
theorem moreV_w (a d : Int) : MWide.w0 (moreV a d) = MWide.w0 (10 * a + d) ∧ MWide.w1 (moreV a d) = MWide.w1 (10 * a + d) ∧ MWide.w2 (moreV a d) = MWide.w2 (10 * a + d) := by
  unfold moreV MWide.w0 MWide.w1 MWide.w2
  generalize 10 * a + d = n
  refine ⟨by omega, ?_, ?_⟩
  · have h1 := MWide.parts n 6277101735386680763835789423207666416102355444464034512896
    generalize n / 6277101735386680763835789423207666416102355444464034512896 = q at *
    generalize n % 6277101735386680763835789423207666416102355444464034512896 = r at *
    subst h1
    have : (6277101735386680763835789423207666416102355444464034512896 * q + r) / 18446744073709551616 = 340282366920938463463374607431768211456 * q + r / 18446744073709551616 := by omega
    rw [this]; omega
  · have h1 := MWide.parts n 6277101735386680763835789423207666416102355444464034512896
    generalize n / 6277101735386680763835789423207666416102355444464034512896 = q at *
    generalize n % 6277101735386680763835789423207666416102355444464034512896 = r at *
    subst h1
    have : (6277101735386680763835789423207666416102355444464034512896 * q + r) / 340282366920938463463374607431768211456 = 18446744073709551616 * q + r / 340282366920938463463374607431768211456 := by omega
    rw [this]; omega
set_option maxHeartbeats 1000000 in
set_option maxRecDepth 100000 in
theorem more_calls (a d : Int) (w : World) (ha : U192 a) (d0 : 0 ≤ d) (d1 : d ≤ 9) :
    Calls Tryd.prog 62 #[.agg #[.int .u64 (MWide.w0 a), .int .u64 (MWide.w1 a), .int .u64 (MWide.w2 a)], .int .u64 d] w fun e w' => e = .returned (.tuple #[.agg #[.int .u64 (MWide.w0 (moreV a d)), .int .u64 (MWide.w1 (moreV a d)), .int .u64 (MWide.w2 (moreV a d))], .bool (moreOk a d)]) ∧ Bel w w' := by
  obtain ⟨c0, hc0⟩ : ∃ c, c = MWide.w0 a * 10 / 18446744073709551616 + (MWide.w0 a * 10 % 18446744073709551616 + d) / 18446744073709551616 := ⟨_, rfl⟩
  obtain ⟨c1, hc1⟩ : ∃ c, c = MWide.w1 a * 10 / 18446744073709551616 + (MWide.w1 a * 10 % 18446744073709551616 + c0) / 18446744073709551616 := ⟨_, rfl⟩
  obtain ⟨c2, hc2⟩ : ∃ c, c = MWide.w2 a * 10 / 18446744073709551616 + (MWide.w2 a * 10 % 18446744073709551616 + c1) / 18446744073709551616 := ⟨_, rfl⟩
  obtain ⟨k0, k1, k2, kz, v0, v1, v2⟩ := MDiv.more_words ha d0 d1 c0 c1 c2 hc0 hc1 hc2
  obtain ⟨m0, m1, m2⟩ := moreV_w a d
  have a0 := MWide.w0_64 a; have a1 := MWide.w1_64 a; have a2 := MWide.w2_64 a
  have h10 : W64 10 := ⟨by decide, by decide⟩
  have M0 := Lib.hid (fun w => Mul64_calls (MWide.w0 a) 10 a0 h10 w)
  have M1 := Lib.hid (fun w => Mul64_calls (MWide.w1 a) 10 a1 h10 w)
  have M2 := Lib.hid (fun w => Mul64_calls (MWide.w2 a) 10 a2 h10 w)
  have wd : ∀ x : Int, W64 (x % 18446744073709551616) := fun x => by unfold W64; omega
  have r0 := fun w => add64 (MWide.w0 a * 10 % 18446744073709551616) d 0 (wd _) ⟨by omega, by omega⟩ (Int.le_refl _) (by decide) w
  have r1 := fun w => add64 (MWide.w1 a * 10 % 18446744073709551616) c0 0 (wd _) ⟨by omega, by omega⟩ (Int.le_refl _) (by decide) w
  have r2 := fun w => add64 (MWide.w2 a * 10 % 18446744073709551616) c1 0 (wd _) ⟨by omega, by omega⟩ (Int.le_refl _) (by decide) w
  rw [Int.add_zero, v0, ← m0] at r0
  rw [Int.add_zero, v1, ← m1] at r1
  rw [Int.add_zero, v2, ← m2] at r2
  obtain ⟨l0, hl0⟩ : ∃ x, MWide.w0 a * 10 % 18446744073709551616 = x := ⟨_, rfl⟩
  obtain ⟨l1, hl1⟩ : ∃ x, MWide.w1 a * 10 % 18446744073709551616 = x := ⟨_, rfl⟩
  obtain ⟨l2, hl2⟩ : ∃ x, MWide.w2 a * 10 % 18446744073709551616 = x := ⟨_, rfl⟩
  obtain ⟨u0, hu0⟩ : ∃ x, MWide.w0 a * 10 / 18446744073709551616 = x := ⟨_, rfl⟩
  obtain ⟨u1, hu1⟩ : ∃ x, MWide.w1 a * 10 / 18446744073709551616 = x := ⟨_, rfl⟩
  obtain ⟨u2, hu2⟩ : ∃ x, MWide.w2 a * 10 / 18446744073709551616 = x := ⟨_, rfl⟩
  obtain ⟨e0, he0⟩ : ∃ x, (l0 + d) / 18446744073709551616 = x := ⟨_, rfl⟩
  obtain ⟨e1, he1⟩ : ∃ x, (l1 + c0) / 18446744073709551616 = x := ⟨_, rfl⟩
  obtain ⟨e2, he2⟩ : ∃ x, (l2 + c1) / 18446744073709551616 = x := ⟨_, rfl⟩
  rw [hl0] at r0 M0 hc0
  rw [hl1] at r1 M1 hc1
  rw [hl2] at r2 M2 hc2
  rw [hu0] at M0 hc0
  rw [hu1] at M1 hc1
  rw [hu2] at M2 hc2
  rw [he0] at r0 hc0
  rw [he1] at r1 hc1
  rw [he2] at r2 hc2
  have w0 : IntKind.u64.wrap (u0 + e0) = c0 := by rw [← hc0]; exact MOct.wraps_u64 _ (by omega) (by omega)
  have w1 : IntKind.u64.wrap (u1 + e1) = c1 := by rw [← hc1]; exact MOct.wraps_u64 _ (by omega) (by omega)
  have w2 : IntKind.u64.wrap (u2 + e2) = c2 := by rw [← hc2]; exact MOct.wraps_u64 _ (by omega) (by omega)
  have bz : (c2 == 0) = moreOk a d := by rw [Bool.eq_iff_iff, beq_iff_eq, kz]; unfold moreOk; rw [decide_eq_true_eq]
  obtain ⟨ok, hok⟩ : ∃ x, moreOk a d = x := ⟨_, rfl⟩
  rw [hok] at bz
  have HOK := Lib.hid hok
  clear ha hc0 hc1 hc2 k0 k1 k2 kz v0 v1 v2 m0 m1 m2 a0 a1 a2 h10 wd hl0 hl1 hl2 hu0 hu1 hu2 he0 he1 he2 hok
  go_enter Tryd.func62, Tryd.ntmps62
  go_wp2
  refine wp_loop_rounds 4 ?_
  rw [rounds_succ]
  go_wp2_with (go_at_call 61; refine (M0.out _).mono ?_; rintro e w' ⟨rfl, rfl⟩)
  rw [rounds_succ]
  go_wp2_with (go_at_call 61; refine (M1.out _).mono ?_; rintro e w' ⟨rfl, rfl⟩)
  rw [rounds_succ]
  go_wp2_with (go_at_call 61; refine (M2.out _).mono ?_; rintro e w' ⟨rfl, rfl⟩)
  rw [rounds_succ]
  go_wp2
  refine bodyPost_ret (v := .tuple #[.agg #[.int .u64 (MWide.w0 (moreV a d)), .int .u64 (MWide.w1 (moreV a d)), .int .u64 (MWide.w2 (moreV a d))], .bool (moreOk a d)]) ?_ rfl ⟨rfl, by repeat (first | exact Below.refl _ _ | refine Below.drew ?_ | refine Below.alloc ?_ (by simp <;> omega) _)⟩
  rw [HOK.out]
  simp [results, Tryd.results62, go_sem]

end Go.Proofs.YtakkifedcbhgfaaDoor.K
namespace Go.Proofs.YtakkifedcbhgfaaDoor.K
open Go Go.RowKit Go.Proofs.YtakkifedcbhgfaaDoorW.PrintWords Go.Proofs.YtakkifedcbhgfaaDoorW.PrintLast Go.Proofs.YtakkifedcbhgfaaDoorW.PrintMore
set_option linter.unusedVariables false
set_option linter.unusedSimpArgs false
open Go.Proofs.YtakkifedcbhgfaaDoor.MWide (bt W64 U192 addV subV addOk subOk cry sumO bor difO cmpV width)
open Go.Proofs.YtakkifedcbhgfaaDoor.MText (padD dec strip numOf parseOk parseV canon digs)
theorem run_next_in {P : Program} (W : World) (g : Nat) (s : ByteArray) (pos : Nat) (ty : TypeId) (hg : W.heap[g]? = some (.stringIter s pos)) (h : pos < s.size) :
    (Instr.next (.pointer (some ⟨g, 0, none⟩)) true ty).run P W = .ok (.tuple #[.bool true, .int .i64 pos, .int .i32 (Utf8.decode s pos).1]) (W.putObj g (.stringIter s (pos + (Utf8.decode s pos).2))) := by
  simp only [Instr.next, getObj, setObj, Sem.run_bind, Sem.run, hg, Result.andThen, h, if_true]
  simp [goInt, World.putObj]
theorem run_next_stop {P : Program} (W : World) (g : Nat) (s : ByteArray) (pos : Nat) (ty : TypeId) (hg : W.heap[g]? = some (.stringIter s pos)) (h : ¬ pos < s.size) :
    (Instr.next (.pointer (some ⟨g, 0, none⟩)) true ty).run P W = .ok (.tuple #[.bool false]) W := by
  simp [Instr.next, getObj, Sem.run, hg, h]
theorem blk_some {W : World} {g : Nat} {o : Obj} (h : W.heap[g]? = some o) : g < W.heap.size := by
  rcases Nat.lt_or_ge g W.heap.size with hl | hl
  · exact hl
  · rw [Array.getElem?_eq_none hl] at h; cases h
theorem iterPos_of {W : World} {g p : Nat} {s : ByteArray} (h : W.heap[g]? = some (.stringIter s p)) : W.iterPos g = p := by simp [World.iterPos, h]
theorem heap_set3 {W : World} {g j : Nat} {x y z : Value} (h : g ≠ j) : (((W.setCell ⟨j, 0, none⟩ x).setCell ⟨j, 1, none⟩ y).setCell ⟨j, 2, none⟩ z).heap[g]? = W.heap[g]? := by
  rw [Below.heap_setCell _ _ _ _ h, Below.heap_setCell _ _ _ _ h, Below.heap_setCell _ _ _ _ h]
theorem Blk.put {W : World} {g j t : Nat} {cs : Array Value} (h : Blk W g cs t) (hj : g ≠ j) (o : Obj) : Blk (W.putObj j o) g cs t := (World.putObj_heap_other hj).trans h
theorem below_put {B : Nat} {a w : World} (h : Below B a w) {j : Nat} (hj : B ≤ j) (o : Obj) : Below B a (w.putObj j o) :=
  ⟨h.os, h.tape, h.output, by simpa using h.size, fun i hi => by
    rw [World.putObj_heap_other (by omega)]; exact h.block i hi⟩
/-- A byte below 128 is a rune; another one begins a rune that is not below 128. -/
theorem rune_low (s : ByteArray) (pos : Nat) (h : pos < s.size) (ha : (s[pos]'h).toNat < 128) : (Utf8.decode s pos).1 = (s[pos]'h).toNat ∧ (Utf8.decode s pos).2 = 1 := by
  rw [decode_ascii s pos h ha]; exact ⟨rfl, rfl⟩
theorem bytes_get (s : ByteArray) (k : Nat) (h : k < s.size) : (bytesOf s)[k]? = some (((s[k]'h).toNat : Nat) : Int) := by
  unfold bytesOf
  have hl : k < s.data.toList.length := by rw [Array.length_toList]; exact h
  rw [List.getElem?_map, List.getElem?_eq_getElem hl]
  rfl
theorem take_next {l : List Int} {k : Nat} {c : Int} (h : l[k]? = some c) : l.take (k + 1) = l.take k ++ [c] := by
  have hk : k < l.length := by
    rcases Nat.lt_or_ge k l.length with h1 | h1
    · exact h1
    · rw [List.getElem?_eq_none h1] at h; cases h
  rw [List.take_succ_eq_append_getElem hk]
  rw [List.getElem?_eq_getElem hk] at h
  rw [Option.some.inj h]
theorem digs_next {l : List Int} {k : Nat} {c : Int} (h : l[k]? = some c) (hd : digs (l.take k)) (hc : 48 ≤ c ∧ c ≤ 57) : digs (l.take (k + 1)) := by
  rw [take_next h]
  intro x hx
  rcases List.mem_append.1 hx with hx | hx
  · exact hd x hx
  · simp at hx; omega
theorem num_next {l : List Int} {k : Nat} {c : Int} (h : l[k]? = some c) : numOf (l.take (k + 1)) = 10 * numOf (l.take k) + (c - 48) := by rw [take_next h, MText.numOf_snoc]
theorem bad_char {l : List Int} {k : Nat} {c : Int} (h : l[k]? = some c) (hc : ¬ (48 ≤ c ∧ c ≤ 57)) : parseOk l = false := by
  rw [Bool.eq_false_iff]
  intro hp
  have := ((MText.parse_iff l).1 hp).1.2.1 c (List.mem_of_getElem? h)
  exact hc this
theorem bad_big {l : List Int} {k : Nat} (hb : 6277101735386680763835789423207666416102355444464034512896 ≤ numOf (l.take k)) : parseOk l = false := by
  rw [Bool.eq_false_iff]
  intro hp
  obtain ⟨h1, h2, h3⟩ := (MText.parse_iff l).1 hp
  have := MText.numOf_app (l := l.take k) (m := l.drop k) (by rw [List.take_append_drop]; exact h1.2.1)
  rw [List.take_append_drop] at this
  omega
theorem bytes_inj {s t : ByteArray} (h : s.data.toList = t.data.toList) : bytesOf s = bytesOf t := by unfold bytesOf; rw [h]
theorem bytes_str {l : List Int} (h : ∀ x ∈ l, 0 ≤ x ∧ x < 256) : bytesOf (strOfNums l) = l := by
  unfold bytesOf
  rw [strOfNums_data, List.map_map]
  conv => rhs; rw [← List.map_id l]
  apply List.map_congr_left
  intro x hx
  have := h x hx
  simp only [Function.comp, id]
  rw [UInt8.toNat_ofNat', Nat.mod_eq_of_lt (by omega), Int.toNat_of_nonneg (by omega)]
theorem str_bytes (s : ByteArray) : strOfNums (bytesOf s) = s := by
  unfold strOfNums bytesOf
  rw [List.map_map]
  have : s.data.toList.map ((fun n : Int => UInt8.ofNat n.toNat) ∘ fun b : UInt8 => ((b.toNat : Nat) : Int)) = s.data.toList := by
    conv => rhs; rw [← List.map_id s.data.toList]
    apply List.map_congr_left
    intro x _
    simp
  rw [this]
set_option maxHeartbeats 2000000 in
set_option maxRecDepth 100000 in
theorem Parse_calls (s : ByteArray) (w : World) (hs : s.size ≤ 9223372036854775807) :
    Calls Tryd.prog 20 #[.string s] w fun e w' => e = .returned (.tuple #[.agg #[.int .u64 (MWide.w0 (parseV (bytesOf s))), .int .u64 (MWide.w1 (parseV (bytesOf s))), .int .u64 (MWide.w2 (parseV (bytesOf s)))], .bool (parseOk (bytesOf s))]) ∧ Bel w w' := by
  have hno : parseOk (bytesOf s) = false → parseV (bytesOf s) = 0 := fun h => by unfold parseV; rw [if_neg (by rw [h]; decide)]
  have HNO := Lib.hid hno
  clear hno
  by_cases h0 : s.size = 0
  · have hp : parseOk (bytesOf s) = false := by
      have : bytesOf s = [] := List.eq_nil_of_length_eq_zero (by rw [bytesOf_length]; exact h0)
      rw [this]; rfl
    have HZ := Lib.hid (HNO.out hp)
    have HP := Lib.hid hp
    have hem : s.toList.isEmpty = true := by
      rw [ByteArray.toList_eq, bytes_nil s h0]; rfl
    clear hp h0
    go_enter Tryd.func20, Tryd.ntmps20
    go_wp2
    refine bodyPost_ret (v := .tuple #[.agg #[.int .u64 (MWide.w0 (parseV (bytesOf s))), .int .u64 (MWide.w1 (parseV (bytesOf s))), .int .u64 (MWide.w2 (parseV (bytesOf s)))], .bool (parseOk (bytesOf s))]) ?_ rfl ⟨rfl, by repeat (first | exact Below.refl _ _ | refine Below.drew ?_ | refine Below.alloc ?_ (by simp <;> omega) _)⟩
    rw [HP.out, HZ.out]
    simp [results, Tryd.results20, go_sem]
    exact ⟨rfl, rfl, rfl⟩
  have hem : s.toList.isEmpty = false := by
    rw [ByteArray.toList_eq]
    cases hx : s.data.toList with
    | nil => exact absurd (by rw [show s.size = s.data.toList.length by rw [Array.length_toList]; rfl, hx]; rfl) h0
    | cons x l => rfl
  by_cases h58 : 58 < s.size
  · have hp : parseOk (bytesOf s) = false := by
      unfold parseOk
      rw [decide_eq_false_iff_not]
      rintro ⟨_, h, _⟩
      rw [bytesOf_length] at h
      omega
    have HZ := Lib.hid (HNO.out hp)
    have HP := Lib.hid hp
    clear hp h0
    go_enter Tryd.func20, Tryd.ntmps20
    go_wp2
    refine bodyPost_ret (v := .tuple #[.agg #[.int .u64 (MWide.w0 (parseV (bytesOf s))), .int .u64 (MWide.w1 (parseV (bytesOf s))), .int .u64 (MWide.w2 (parseV (bytesOf s)))], .bool (parseOk (bytesOf s))]) ?_ rfl ⟨rfl, by repeat (first | exact Below.refl _ _ | refine Below.drew ?_ | refine Below.alloc ?_ (by simp <;> omega) _)⟩
    rw [HP.out, HZ.out]
    simp [results, Tryd.results20, go_sem]
    exact ⟨rfl, rfl, rfl⟩
  clear h0
  go_enter Tryd.func20, Tryd.ntmps20
  go_wp2
  go_outline
  go_loopw [] (fun wr => ∃ k : Nat, k ≤ s.size ∧ Hid (digs ((bytesOf s).take k)) ∧ Hid (numOf ((bytesOf s).take k) < 6277101735386680763835789423207666416102355444464034512896) ∧ Hid (Below w.heap.size w wr) ∧ Blk wr w.heap.size #[.int .u64 0, .int .u64 0, .int .u64 0] 26 ∧ Blk wr (w.heap.size + 1) #[.int .u64 (MWide.w0 (numOf ((bytesOf s).take k))), .int .u64 (MWide.w1 (numOf ((bytesOf s).take k))), .int .u64 (MWide.w2 (numOf ((bytesOf s).take k)))] 26 ∧ Hid (wr.heap[w.heap.size + 1 + 1]? = some (.stringIter s k))) (fun wr => s.size - wr.iterPos (w.heap.size + 1 + 1))
  case atStart =>
    refine ⟨0, by omega, Lib.hid (fun x hx => by simp at hx), Lib.hid (by rw [List.take_zero]; decide), Lib.hid ?_, ?_, ?_, Lib.hid ?_⟩
    · unfold World.iter
      exact ((((Below.refl _ w).alloc (Nat.le_refl _) _).alloc (by simp) _).alloc (by simp; omega) _)
    · exact ((Blk.new w _ _).alloc _).alloc _
    · exact (Blk.new_at (by simp) _ _).alloc _
    · have := World.iter_heap ((w.alloc (.cells #[.int .u64 0, .int .u64 0, .int .u64 0] 26)).alloc (.cells #[.int .u64 0, .int .u64 0, .int .u64 0] 26)) s 0
      simpa using this
  case round =>
    obtain ⟨k, hk, HD, HT, HBel, hr, ho, hi⟩ := hrel
    obtain ⟨r0, r1, r2⟩ := hr.cells3
    obtain ⟨o0, o1, o2⟩ := ho.cells3
    have f0 := hr.froz 0; have f1 := hr.froz 1; have f2 := hr.froz 2
    by_cases hp : k < s.size
    · have hnx : ∀ ty, (Instr.next (.pointer (some ⟨w.heap.size + 1 + 1, 0, none⟩)) true ty).run Tryd.prog wr = _ := fun ty => run_next_in wr _ s k ty hi.out hp
      have hbk := bytes_get s k hp
      have hpr := hr.put (j := w.heap.size + 1 + 1) (by omega) (.stringIter s (k + (Utf8.decode s k).2))
      have hpo := ho.put (j := w.heap.size + 1 + 1) (by omega) (.stringIter s (k + (Utf8.decode s k).2))
      have hpB := Lib.hid (below_put HBel.out (j := w.heap.size + 1 + 1) (by omega) (.stringIter s (k + (Utf8.decode s k).2)))
      have hpi : Hid ((wr.putObj (w.heap.size + 1 + 1) (.stringIter s (k + (Utf8.decode s k).2))).heap[w.heap.size + 1 + 1]? = some (.stringIter s (k + (Utf8.decode s k).2))) := Lib.hid (World.putObj_heap_same (blk_some hi.out))
      obtain ⟨W, hW⟩ : ∃ W, wr.putObj (w.heap.size + 1 + 1) (.stringIter s (k + (Utf8.decode s k).2)) = W := ⟨_, rfl⟩
      rw [hW] at hpr hpo hpB hpi
      simp only [hW] at hnx
      clear hW r0 r1 r2 o0 o1 o2 f0 f1 f2
      obtain ⟨r0, r1, r2⟩ := hpr.cells3
      obtain ⟨o0, o1, o2⟩ := hpo.cells3
      have f0 := hpr.froz 0; have f1 := hpr.froz 1; have f2 := hpr.froz 2
      have p0 := hpo.froz 0; have p1 := hpo.froz 1; have p2 := hpo.froz 2
      by_cases ha : (s[k]'hp).toNat < 128
      · obtain ⟨e1, e2⟩ := rune_low s k hp ha
        rw [e2] at hpi
        obtain ⟨c, hc⟩ : ∃ c, (s[k]'hp).toNat = c := ⟨_, rfl⟩
        rw [hc] at e1 hbk ha
        have hrune : (Utf8.decode s k).1 = c := e1
        by_cases hd : 48 ≤ c ∧ c ≤ 57
        · obtain ⟨hd0, hd1⟩ := hd
          have hn := num_next hbk
          have hdg := Lib.hid (digs_next hbk HD.out (by omega))
          have hnn := MText.numOf_nonneg HD.out
          have HM := Lib.hid (fun w => more_calls (numOf ((bytesOf s).take k)) ((c : Int) - 48) w ⟨hnn, HT.out⟩ (by omega) (by omega))
          by_cases hov : 10 * numOf ((bytesOf s).take k) + ((c : Int) - 48) < 6277101735386680763835789423207666416102355444464034512896
          · have hmo : moreOk (numOf ((bytesOf s).take k)) ((c : Int) - 48) = true := by unfold moreOk; exact decide_eq_true hov
            have hmv : moreV (numOf ((bytesOf s).take k)) ((c : Int) - 48) = numOf ((bytesOf s).take (k + 1)) := by
              rw [hn]; unfold moreV; exact Int.emod_eq_of_lt (by omega) hov
            rw [hmo, hmv] at HM
            have HT2 : Hid (numOf ((bytesOf s).take (k + 1)) < 6277101735386680763835789423207666416102355444464034512896) := Lib.hid (by rw [hn]; exact hov)
            clear e1 e2 hc hbk hn hnn hov hmo hmv
            go_wp2_with fail
            refine (HM.out _).mono ?_
            rintro e w2 ⟨rfl, hb2⟩
            have hpr2 := hpr.bel hb2
            have hpo2 := hpo.bel hb2
            have hpB2 := Lib.hid (bthen hpB.out hb2)
            have hpi2 : Hid (w2.heap[w.heap.size + 1 + 1]? = some (.stringIter s (k + 1))) := Lib.hid ((hb2.block _ (blk_some hpi.out)).trans hpi.out)
            clear hb2 r0 r1 r2 o0 o1 o2 f0 f1 f2 p0 p1 p2
            obtain ⟨o0, o1, o2⟩ := hpo2.cells3
            have p0 := hpo2.froz 0; have p1 := hpo2.froz 1; have p2 := hpo2.froz 2
            go_wp2_with fail
            go_roundw
            case rel =>
              refine ⟨k + 1, by omega, hdg, HT2, Lib.hid (below_set3 hpB2.out (by omega) _ _ _), hpr2.set3_ne (by omega), hpo2.set3, Lib.hid ?_⟩
              rw [heap_set3 (by omega)]
              exact hpi2.out
            case measure =>
              rw [iterPos_of (s := s) (p := k + 1) (by rw [heap_set3 (by omega)]; exact hpi2.out), iterPos_of hi.out]
              omega
          · have hmo : moreOk (numOf ((bytesOf s).take k)) ((c : Int) - 48) = false := by unfold moreOk; exact decide_eq_false hov
            have HP : Hid (parseOk (bytesOf s) = false) := Lib.hid (bad_big (k := k + 1) (by rw [hn]; omega))
            rw [hmo] at HM
            clear e1 e2 hc hbk hn hnn hov hmo
            go_wp2_with fail
            refine (HM.out _).mono ?_
            rintro e w2 ⟨rfl, hb2⟩
            have hpr2 := hpr.bel hb2
            have hpo2 := hpo.bel hb2
            have hpB2 := Lib.hid (bthen hpB.out hb2)
            clear hb2 r0 r1 r2 o0 o1 o2 f0 f1 f2 p0 p1 p2
            obtain ⟨o0, o1, o2⟩ := hpo2.cells3
            have p0 := hpo2.froz 0; have p1 := hpo2.froz 1; have p2 := hpo2.froz 2
            have hpr3 := fun x y z => Blk.set3_ne (j := w.heap.size + 1) (x' := x) (y' := y) (z' := z) hpr2 (by omega)
            have r0 := fun x y z => (hpr3 x y z).cells3.1
            have r1 := fun x y z => (hpr3 x y z).cells3.2.1
            have r2 := fun x y z => (hpr3 x y z).cells3.2.2
            have f0 := fun x y z => (hpr3 x y z).froz 0
            have f1 := fun x y z => (hpr3 x y z).froz 1
            have f2 := fun x y z => (hpr3 x y z).froz 2
            have HPR := Lib.hid hpr3
            clear hpr3
            go_wp2
            refine bodyPost_ret (v := .tuple #[.agg #[.int .u64 (MWide.w0 (parseV (bytesOf s))), .int .u64 (MWide.w1 (parseV (bytesOf s))), .int .u64 (MWide.w2 (parseV (bytesOf s)))], .bool (parseOk (bytesOf s))]) ?_ rfl ⟨rfl, below_set3 (below_set3 hpB2.out (by omega) _ _ _) (by omega) _ _ _⟩
            rw [HP.out, HNO.out HP.out]
            obtain ⟨q0, q1, q2⟩ := (Blk.set3 (HPR.out (.int .u64 (MWide.w0 (moreV (numOf (List.take k (bytesOf s))) ((c : Int) - 48)))) (.int .u64 (MWide.w1 (moreV (numOf (List.take k (bytesOf s))) ((c : Int) - 48)))) (.int .u64 (MWide.w2 (moreV (numOf (List.take k (bytesOf s))) ((c : Int) - 48))))) (x' := .int .u64 0) (y' := .int .u64 0) (z' := .int .u64 0)).cells3
            clear r0 r1 r2 f0 f1 f2
            simp [results, Tryd.results20, go_sem, q0, q1, q2]
            exact ⟨rfl, rfl, rfl⟩
        · have HP : Hid (parseOk (bytesOf s) = false) := Lib.hid (bad_char hbk (by omega))
          by_cases h48 : c < 48
          all_goals
            clear e1 e2 hc hbk
            go_wp2
            refine bodyPost_ret (v := .tuple #[.agg #[.int .u64 (MWide.w0 (parseV (bytesOf s))), .int .u64 (MWide.w1 (parseV (bytesOf s))), .int .u64 (MWide.w2 (parseV (bytesOf s)))], .bool (parseOk (bytesOf s))]) ?_ rfl ⟨rfl, below_set3 hpB.out (by omega) _ _ _⟩
            rw [HP.out, HNO.out HP.out]
            obtain ⟨q0, q1, q2⟩ := (hpr.set3 (x' := .int .u64 0) (y' := .int .u64 0) (z' := .int .u64 0)).cells3
            simp [results, Tryd.results20, go_sem, q0, q1, q2]
            exact ⟨rfl, rfl, rfl⟩
      · have HP : Hid (parseOk (bytesOf s) = false) := Lib.hid (bad_char hbk (by omega))
        have hhi := (decode_high s k hp (by omega)).1
        have hle := decode_le s k
        clear hbk ha
        go_wp2
        refine bodyPost_ret (v := .tuple #[.agg #[.int .u64 (MWide.w0 (parseV (bytesOf s))), .int .u64 (MWide.w1 (parseV (bytesOf s))), .int .u64 (MWide.w2 (parseV (bytesOf s)))], .bool (parseOk (bytesOf s))]) ?_ rfl ⟨rfl, below_set3 hpB.out (by omega) _ _ _⟩
        rw [HP.out, HNO.out HP.out]
        obtain ⟨q0, q1, q2⟩ := (hpr.set3 (x' := .int .u64 0) (y' := .int .u64 0) (z' := .int .u64 0)).cells3
        simp [results, Tryd.results20, go_sem, q0, q1, q2]
        exact ⟨rfl, rfl, rfl⟩
    · have hnx : ∀ ty, (Instr.next (.pointer (some ⟨w.heap.size + 1 + 1, 0, none⟩)) true ty).run Tryd.prog wr = _ := fun ty => run_next_stop wr _ s k ty hi.out hp
      have hkk : k = s.size := by omega
      subst hkk
      have hall : (bytesOf s).take s.size = bytesOf s := List.take_of_length_le (by rw [bytesOf_length]; omega)
      rw [hall] at HD HT ho o0 o1 o2
      have hnn := MText.numOf_nonneg HD.out
      have HTx := Lib.hid (fun w => Text_calls (numOf (bytesOf s)) w ⟨hnn, HT.out⟩)
      clear hall
      have hz58 := h58
      have hne : bytesOf s ≠ [] := fun h => by
        have h1 : (bytesOf s).length = s.size := bytesOf_length s
        rw [h] at h1
        have h2 : s.data.toList = [] := bytes_nil s h1.symm
        rw [ByteArray.toList_eq, h2] at hem
        cases hem
      by_cases hdec : dec (numOf (bytesOf s)) = bytesOf s
      · have hok : parseOk (bytesOf s) = true := by
          unfold parseOk
          rw [decide_eq_true_eq]
          exact ⟨hne, by rw [bytesOf_length]; omega, HD.out, HT.out, hdec⟩
        have hpv : parseV (bytesOf s) = numOf (bytesOf s) := by unfold parseV; rw [if_pos hok]
        have hq : ((strOfNums (dec (numOf (bytesOf s)))).toList == s.toList) = true := by rw [hdec, str_bytes]; exact beq_self_eq_true _
        have HOK := Lib.hid hok
        have HPV := Lib.hid hpv
        clear hdec hok hpv hne hnn
        go_wp2_with fail
        refine (HTx.out _).mono ?_
        rintro e w2 ⟨rfl, hb2⟩
        have hr2 := hr.bel hb2
        have ho2 := ho.bel hb2
        have HB2 := Lib.hid (bthen HBel.out hb2)
        clear r0 r1 r2 o0 o1 o2 f0 f1 f2 hb2 hnx
        obtain ⟨r0, r1, r2⟩ := hr2.cells3
        obtain ⟨o0, o1, o2⟩ := ho2.cells3
        have f0 := hr2.froz 0; have f1 := hr2.froz 1; have f2 := hr2.froz 2
        go_wp2
        refine bodyPost_ret (v := .tuple #[.agg #[.int .u64 (MWide.w0 (parseV (bytesOf s))), .int .u64 (MWide.w1 (parseV (bytesOf s))), .int .u64 (MWide.w2 (parseV (bytesOf s)))], .bool (parseOk (bytesOf s))]) ?_ rfl ⟨rfl, below_set3 HB2.out (by omega) _ _ _⟩
        rw [HOK.out, HPV.out]
        obtain ⟨q0, q1, q2⟩ := (hr2.set3 (x' := .int .u64 (MWide.w0 (numOf (bytesOf s)))) (y' := .int .u64 (MWide.w1 (numOf (bytesOf s)))) (z' := .int .u64 (MWide.w2 (numOf (bytesOf s))))).cells3
        simp [results, Tryd.results20, go_sem, q0, q1, q2]
      · have HP : Hid (parseOk (bytesOf s) = false) := Lib.hid (by
          unfold parseOk
          rw [decide_eq_false_iff_not]
          exact fun h => hdec h.2.2.2.2)
        have hq : ((strOfNums (dec (numOf (bytesOf s)))).toList == s.toList) = false := by
          rw [beq_eq_false_iff_ne]
          intro h
          apply hdec
          rw [ByteArray.toList_eq, ByteArray.toList_eq] at h
          have h2 := bytes_inj h
          rwa [bytes_str (fun x hx => by
            have := MText.dec_digs hnn (Int.lt_trans HT.out MText.top58) x hx
            omega)] at h2
        clear hdec hne hnn
        go_wp2_with fail
        refine (HTx.out _).mono ?_
        rintro e w2 ⟨rfl, hb2⟩
        have hr2 := hr.bel hb2
        have HB2 := Lib.hid (bthen HBel.out hb2)
        clear r0 r1 r2 o0 o1 o2 f0 f1 f2 hb2 hnx
        obtain ⟨r0, r1, r2⟩ := hr2.cells3
        have f0 := hr2.froz 0; have f1 := hr2.froz 1; have f2 := hr2.froz 2
        go_wp2
        refine bodyPost_ret (v := .tuple #[.agg #[.int .u64 (MWide.w0 (parseV (bytesOf s))), .int .u64 (MWide.w1 (parseV (bytesOf s))), .int .u64 (MWide.w2 (parseV (bytesOf s)))], .bool (parseOk (bytesOf s))]) ?_ rfl ⟨rfl, below_set3 HB2.out (by omega) _ _ _⟩
        rw [HP.out, HNO.out HP.out]
        obtain ⟨q0, q1, q2⟩ := (hr2.set3 (x' := .int .u64 0) (y' := .int .u64 0) (z' := .int .u64 0)).cells3
        simp [results, Tryd.results20, go_sem, q0, q1, q2]
        exact ⟨rfl, rfl, rfl⟩

end Go.Proofs.YtakkifedcbhgfaaDoor.K
namespace Go.Proofs.YtakkifedcbhgfaaDoor.K
open Go Go.RowKit Go.Proofs.YtakkifedcbhgfaaDoorW.PrintWords Go.Proofs.YtakkifedcbhgfaaDoorW.PrintLast Go.Proofs.YtakkifedcbhgfaaDoorW.PrintMore
set_option linter.unusedVariables false
set_option linter.unusedSimpArgs false
open Go.Proofs.YtakkifedcbhgfaaDoor.MWide (bt W64 U192 addV subV addOk subOk cry sumO bor difO cmpV width)
open Go.Proofs.YtakkifedcbhgfaaDoor.MText (padD dec strip numOf parseOk parseV canon digs)
theorem eqU0 {n : Int} (h : n = 0) (w : World) : (binOp .eql 26 (.agg #[.int .u64 (MWide.w0 n), .int .u64 (MWide.w1 n), .int .u64 (MWide.w2 n)]) (.agg #[.int .u64 0, .int .u64 0, .int .u64 0])).run Tryd.prog w = .ok (.bool true) w := by
  subst h
  exact eqU26 0 w
theorem neU26 (a : Int) (w : World) : (binOp .neq 26 (.agg #[.int .u64 (MWide.w0 a), .int .u64 (MWide.w1 a), .int .u64 (MWide.w2 a)]) (.agg #[.int .u64 (MWide.w0 a), .int .u64 (MWide.w1 a), .int .u64 (MWide.w2 a)])).run Tryd.prog w = .ok (.bool false) w := by
  have := neq3 26 u26 (MWide.w0 a) (MWide.w1 a) (MWide.w2 a) (MWide.w0 a) (MWide.w1 a) (MWide.w2 a) w
  rw [this]; simp
set_option maxHeartbeats 2000000 in
set_option maxRecDepth 100000 in
theorem WideBack_calls {w : World} (cs : Array Value) (x : Int × Int × Int) (hK : (Kd.pair (Kd.int .u64) (Kd.pair (Kd.int .u64) (Kd.int .u64))).K w x cs.toList) (hq : (Lit.int .u64 x.1).wf = true ∧ (Lit.int .u64 x.2.1).wf = true ∧ (Lit.int .u64 x.2.2).wf = true)
    (ds : Array Value) (y : Int × Int × Int) (hK' : (Kd.pair (Kd.int .u64) (Kd.pair (Kd.int .u64) (Kd.int .u64))).K w y ds.toList) (hq' : (Lit.int .u64 y.1).wf = true ∧ (Lit.int .u64 y.2.1).wf = true ∧ (Lit.int .u64 y.2.2).wf = true)
    (es : Array Value) (p : Int × Int) (hK2 : (Kd.pair (Kd.int .u64) (Kd.int .u64)).K w p es.toList) (hq2 : (Lit.int .u64 p.1).wf = true ∧ (Lit.int .u64 p.2).wf = true) :
    Calls Tryd.prog 10 #[.agg cs, .agg ds, .agg es] w fun e w' => e = .returned (.bool true) ∧ Below w.heap.size w w' := by
  obtain ⟨a, ha, rfl⟩ := u_arg hK hq
  obtain ⟨b, hb, rfl⟩ := u_arg hK' hq'
  obtain rfl := pair_cells hK2
  obtain ⟨n, m⟩ := p
  simp only at hq2 hK2 ⊢
  have hn := wf_u64 hq2.1
  have hm := wf_u64 hq2.2
  clear hK hq hK' hq' hK2 hq2
  have HA := Lib.hid (fun w => Add_calls a b w ha hb)
  have HT := Lib.hid (fun w => Text_calls a w ha)
  have hds : ∀ c ∈ dec a, 0 ≤ c ∧ c < 256 := fun c hc => by
    have := MText.dec_digs ha.1 (Int.lt_trans ha.2 MText.top58) c hc
    omega
  have hlen := MText.dec_length ha.1 (Int.lt_trans ha.2 MText.top58)
  have HP := Lib.hid (fun w => Parse_calls (strOfNums (dec a)) w (by rw [strOfNums_size]; omega))
  obtain ⟨hp1, hp2⟩ := MText.parse_dec ha
  rw [bytes_str hds, hp1, hp2] at HP
  obtain ⟨S, hS⟩ : ∃ S, strOfNums (dec a) = S := ⟨_, rfl⟩
  rw [hS] at HT HP
  have HL := Lib.hid lives01
  have HM := Lib.hid (fun w => Times_calls n m hn hm w)
  have HM2 := Lib.hid (fun w => Times_calls m n hm hn w)
  rw [Int.mul_comm m n] at HM2
  have HOn := Lib.hid (fun w => Of_calls n hn w)
  have HOm := Lib.hid (fun w => Of_calls m hm w)
  have HBn := Lib.hid (fun w => Bits_calls n w (MWide.u64_u hn))
  have HBm := Lib.hid (fun w => Bits_calls m w (MWide.u64_u hm))
  have HBp := Lib.hid (fun w => Bits_calls (n * m) w (MWide.u_mul hn hm))
  have wn := width_64 hn
  have wm := width_64 hm
  have wk : 0 < n → 0 < m → width n + width m - width (n * m) = 0 ∨ width n + width m - width (n * m) = 1 := fun h1 h2 => MWide.width_mul h1 h2
  have hn0 := hn.1
  have hm0 := hm.1
  have q1 := neU26 a
  have HWK := Lib.hid wk
  have q2 := eqU26 (n * m)
  clear hn hm hds hlen hp1 hp2 hS wk
  by_cases hov : addOk a b = true
  · have hsum : addV a b = a + b := by unfold addV; rw [if_pos hov]
    have hsu : U192 (a + b) := by rw [← hsum]; exact MWide.addV_u ha hb
    have hb0 := hb.1
    have hsk : subOk (a + b) b = true := by unfold subOk; exact decide_eq_true (by have := ha.1; omega)
    have hsv : subV (a + b) b = a := by unfold subV; rw [if_pos hsk]; omega
    have HS := Lib.hid (fun w => Sub_calls (a + b) b w hsu hb)
    have HC := Lib.hid (fun w => Cmp_calls (a + b) a w hsu ha)
    have hcv : 0 ≤ cmpV (a + b) a := by unfold cmpV; rw [if_neg (by omega)]; split <;> omega
    rw [hsk, hsv] at HS
    rw [hov, hsum] at HA
    obtain ⟨s, hs⟩ : ∃ s, a + b = s := ⟨_, rfl⟩
    obtain ⟨cv, hcv1⟩ : ∃ s, cmpV (a + b) a = s := ⟨_, rfl⟩
    rw [hcv1] at HC hcv
    rw [hs] at HA HS HC
    clear ha hb hb0 hov hsum hsu hsk hsv hs hcv1
    have A0 := ((Blk.new w #[.int .u64 (MWide.w0 a), .int .u64 (MWide.w1 a), .int .u64 (MWide.w2 a)] 26).alloc (.cells #[.int .u64 (MWide.w0 b), .int .u64 (MWide.w1 b), .int .u64 (MWide.w2 b)] 26)).alloc (.cells #[.int .u64 n, .int .u64 m] 23)
    have B0 := (Blk.new_at (W := w.alloc (.cells #[.int .u64 (MWide.w0 a), .int .u64 (MWide.w1 a), .int .u64 (MWide.w2 a)] 26)) (g := w.heap.size + 1) (by simp) #[.int .u64 (MWide.w0 b), .int .u64 (MWide.w1 b), .int .u64 (MWide.w2 b)] 26).alloc (.cells #[.int .u64 n, .int .u64 m] 23)
    have P0 := Blk.new_at (W := (w.alloc (.cells #[.int .u64 (MWide.w0 a), .int .u64 (MWide.w1 a), .int .u64 (MWide.w2 a)] 26)).alloc (.cells #[.int .u64 (MWide.w0 b), .int .u64 (MWide.w1 b), .int .u64 (MWide.w2 b)] 26)) (g := w.heap.size + 1 + 1) (by simp) #[.int .u64 n, .int .u64 m] 23
    have HB0 : Hid (Below w.heap.size w (((w.alloc (.cells #[.int .u64 (MWide.w0 a), .int .u64 (MWide.w1 a), .int .u64 (MWide.w2 a)] 26)).alloc (.cells #[.int .u64 (MWide.w0 b), .int .u64 (MWide.w1 b), .int .u64 (MWide.w2 b)] 26)).alloc (.cells #[.int .u64 n, .int .u64 m] 23))) := Lib.hid (by repeat (first | exact Below.refl _ _ | refine Below.drew ?_ | refine Below.alloc ?_ (by simp <;> omega) _))
    go_enter Tryd.func10, Tryd.ntmps10
    go_wp2_with fail
    refine (HA.out _).mono ?_
    rintro e w1 ⟨rfl, hb1⟩
    have A1 := A0.bel hb1
    have B1 := B0.bel hb1
    have P1 := P0.bel hb1
    have HB1 := Lib.hid (bthen HB0.out hb1)
    clear A0 B0 P0 HB0 hb1
    go_upto_region 3 with (fail)
    have S1 := Blk.new w1 #[.int .u64 (MWide.w0 s), .int .u64 (MWide.w1 s), .int .u64 (MWide.w2 s)] 26
    have A2 := A1.alloc (.cells #[.int .u64 (MWide.w0 s), .int .u64 (MWide.w1 s), .int .u64 (MWide.w2 s)] 26)
    have B2 := B1.alloc (.cells #[.int .u64 (MWide.w0 s), .int .u64 (MWide.w1 s), .int .u64 (MWide.w2 s)] 26)
    have P2 := P1.alloc (.cells #[.int .u64 (MWide.w0 s), .int .u64 (MWide.w1 s), .int .u64 (MWide.w2 s)] 26)
    have HB2 := Lib.hid (HB1.out.alloc HB1.out.size (.cells #[.int .u64 (MWide.w0 s), .int .u64 (MWide.w1 s), .int .u64 (MWide.w2 s)] 26))
    clear A1 B1 P1 HB1
    obtain ⟨W, hW⟩ : ∃ W, w1.alloc (.cells #[.int .u64 (MWide.w0 s), .int .u64 (MWide.w1 s), .int .u64 (MWide.w2 s)] 26) = W := ⟨_, rfl⟩
    rw [hW] at A2 B2 P2 HB2 S1 ⊢
    clear hW
    obtain ⟨a0, a1, a2⟩ := A2.cells3
    obtain ⟨b0, b1, b2⟩ := B2.cells3
    obtain ⟨s0, s1, s2⟩ := S1.cells3
    go_wp2_with fail
    refine (HS.out _).mono ?_
    rintro e w2 ⟨rfl, hb2⟩
    have S2 := S1.bel hb2
    have A3 := A2.bel hb2
    have B3 := B2.bel hb2
    have P3 := P2.bel hb2
    have HB3 := Lib.hid (bthen HB2.out hb2)
    clear A2 B2 P2 HB2 hb2
    clear a0 a1 a2 b0 b1 b2 s0 s1 s2
    go_upto_region 4 with (fail)
    have D1 := Blk.new w2 #[.int .u64 (MWide.w0 a), .int .u64 (MWide.w1 a), .int .u64 (MWide.w2 a)] 26
    have S3 := S2.alloc (.cells #[.int .u64 (MWide.w0 a), .int .u64 (MWide.w1 a), .int .u64 (MWide.w2 a)] 26)
    have A4 := A3.alloc (.cells #[.int .u64 (MWide.w0 a), .int .u64 (MWide.w1 a), .int .u64 (MWide.w2 a)] 26)
    have B4 := B3.alloc (.cells #[.int .u64 (MWide.w0 a), .int .u64 (MWide.w1 a), .int .u64 (MWide.w2 a)] 26)
    have P4 := P3.alloc (.cells #[.int .u64 (MWide.w0 a), .int .u64 (MWide.w1 a), .int .u64 (MWide.w2 a)] 26)
    have HB4 := Lib.hid (HB3.out.alloc HB3.out.size (.cells #[.int .u64 (MWide.w0 a), .int .u64 (MWide.w1 a), .int .u64 (MWide.w2 a)] 26))
    clear A3 B3 P3 HB3
    obtain ⟨W', hW⟩ : ∃ W, w2.alloc (.cells #[.int .u64 (MWide.w0 a), .int .u64 (MWide.w1 a), .int .u64 (MWide.w2 a)] 26) = W := ⟨_, rfl⟩
    rw [hW] at A4 B4 P4 HB4 S3 D1 ⊢
    clear hW S1 S2
    obtain ⟨a0, a1, a2⟩ := A4.cells3
    obtain ⟨s0, s1, s2⟩ := S3.cells3
    obtain ⟨d0, d1, d2⟩ := D1.cells3
    go_wp2_with fail
    refine (HC.out _).mono ?_
    rintro e w3 ⟨rfl, hb3⟩
    have A5 := A4.bel hb3
    have B5 := B4.bel hb3
    have P5 := P4.bel hb3
    have HB5 := Lib.hid (bthen HB4.out hb3)
    clear A4 B4 P4 HB4 hb3
    clear a0 a1 a2 s0 s1 s2 d0 d1 d2
    obtain ⟨a0, a1, a2⟩ := A5.cells3
    go_upto_region 6 with (fail)
    go_wp2_with fail
    refine (HT.out _).mono ?_
    rintro e v1 ⟨rfl, hv1⟩
    have A6 := A5.bel hv1
    have B6 := B5.bel hv1
    have P6 := P5.bel hv1
    have HB6 := Lib.hid (bthen HB5.out hv1)
    clear A5 B5 P5 HB5 hv1
    go_wp2_with fail
    refine (HP.out _).mono ?_
    rintro e v2 ⟨rfl, hv2⟩
    have A7 := A6.bel hv2
    have B7 := B6.bel hv2
    have P7 := P6.bel hv2
    have HB7 := Lib.hid (bthen HB6.out hv2)
    clear A6 B6 P6 HB6 hv2
    clear a0 a1 a2
    go_upto_region 7 with (fail)
    have X1 := Blk.new v2 #[.int .u64 (MWide.w0 a), .int .u64 (MWide.w1 a), .int .u64 (MWide.w2 a)] 26
    have A8 := A7.alloc (.cells #[.int .u64 (MWide.w0 a), .int .u64 (MWide.w1 a), .int .u64 (MWide.w2 a)] 26)
    have B8 := B7.alloc (.cells #[.int .u64 (MWide.w0 a), .int .u64 (MWide.w1 a), .int .u64 (MWide.w2 a)] 26)
    have P8 := P7.alloc (.cells #[.int .u64 (MWide.w0 a), .int .u64 (MWide.w1 a), .int .u64 (MWide.w2 a)] 26)
    have HB8 := Lib.hid (HB7.out.alloc HB7.out.size (.cells #[.int .u64 (MWide.w0 a), .int .u64 (MWide.w1 a), .int .u64 (MWide.w2 a)] 26))
    clear A7 B7 P7 HB7
    obtain ⟨V, hV⟩ : ∃ W, v2.alloc (.cells #[.int .u64 (MWide.w0 a), .int .u64 (MWide.w1 a), .int .u64 (MWide.w2 a)] 26) = W := ⟨_, rfl⟩
    rw [hV] at A8 B8 P8 HB8 X1 ⊢
    clear hV
    obtain ⟨a0, a1, a2⟩ := A8.cells3
    obtain ⟨x0, x1, x2⟩ := X1.cells3
    have p0 := P8.cell 0 rfl
    have p1 := P8.cell 1 rfl
    go_upto_region 9 with (fail)
    go_region
    have HBx := Lib.hid (Below.drew HB8.out)
    clear a0 a1 a2 x0 x1 x2 p0 p1 A8 B8 P8 X1 HB8
    by_cases hz : n = 0
    · have e0 := eqU0 (n := n * m) (by rw [hz, Int.zero_mul])
      have b1 : (n == 0) = true := by rw [hz]; rfl
      clear hz q2
      go_wp2_with fail
      refine (HM.out _).mono ?_
      rintro e y1 ⟨rfl, hy1⟩
      have HY1 := Lib.hid (bthen HBx.out hy1)
      clear hy1
      go_wp2_with (go_at_call 19; refine (HL.out _).mono ?_; rintro e y2 ⟨rfl, hy2⟩; have HY2 := Lib.hid (bthen HY1.out hy2); clear hy2)
      go_ret
      exact ⟨rfl, HY2.out⟩
    · have b1 : (n == 0) = false := by rw [beq_eq_false_iff_ne]; exact hz
      by_cases hz2 : m = 0
      · have e0 := eqU0 (n := n * m) (by rw [hz2, Int.mul_zero])
        have b2 : (m == 0) = true := by rw [hz2]; rfl
        clear hz hz2 q2
        go_wp2_with fail
        refine (HM.out _).mono ?_
        rintro e y1 ⟨rfl, hy1⟩
        have HY1 := Lib.hid (bthen HBx.out hy1)
        clear hy1
        go_wp2_with (go_at_call 19; refine (HL.out _).mono ?_; rintro e y2 ⟨rfl, hy2⟩; have HY2 := Lib.hid (bthen HY1.out hy2); clear hy2)
        go_ret
        exact ⟨rfl, HY2.out⟩
      · have b2 : (m == 0) = false := by rw [beq_eq_false_iff_ne]; exact hz2
        have hwk := HWK.out (by omega) (by omega)
        obtain ⟨k, hk⟩ : ∃ k, width n + width m - width (n * m) = k := ⟨_, rfl⟩
        rw [hk] at hwk
        have hw0 : 0 ≤ width (n * m) := by unfold width; split <;> omega
        have hkk : 0 ≤ width (n * m) ∧ width (n * m) ≤ 128 := by omega
        obtain ⟨wp, hwp⟩ : ∃ k, width (n * m) = k := ⟨_, rfl⟩
        rw [hwp] at hk hkk HBp
        have HK := Lib.hid hk
        clear hk hwp hz hz2
        go_wp2_with fail
        refine (HOn.out _).mono ?_
        rintro e y1 ⟨rfl, hy1⟩
        go_wp2_with fail
        refine (HBn.out _).mono ?_
        rintro e y2 ⟨rfl, hy2⟩
        go_wp2_with fail
        refine (HOm.out _).mono ?_
        rintro e y3 ⟨rfl, hy3⟩
        go_wp2_with fail
        refine (HBm.out _).mono ?_
        rintro e y4 ⟨rfl, hy4⟩
        go_wp2_with fail
        refine (HM.out _).mono ?_
        rintro e y5 ⟨rfl, hy5⟩
        go_wp2_with fail
        refine (HBp.out _).mono ?_
        rintro e y6 ⟨rfl, hy6⟩
        have HY6 := Lib.hid (bthen (bthen (bthen (bthen (bthen (bthen HBx.out hy1) hy2) hy3) hy4) hy5) hy6)
        clear hy1 hy2 hy3 hy4 hy5 hy6
        rcases hwk with hk0 | hk1
        · have b3 : (width n + width m - wp == 0) = true := by rw [HK.out, hk0]; rfl
          clear hk0
          go_wp2_with fail
          refine (HM.out _).mono ?_
          rintro e y7 ⟨rfl, hy7⟩
          go_wp2_with fail
          refine (HM2.out _).mono ?_
          rintro e y8 ⟨rfl, hy8⟩
          go_wp2_with fail
          refine (HL.out _).mono ?_
          rintro e y9 ⟨rfl, hy9⟩
          have HY9 := Lib.hid (bthen (bthen (bthen HY6.out hy7) hy8) hy9)
          clear hy7 hy8 hy9
          go_wp2_with fail
          go_ret
          exact ⟨rfl, HY9.out⟩
        · have b3 : (width n + width m - wp == 0) = false := by rw [HK.out, hk1]; rfl
          have b4 : (width n + width m - wp == 1) = true := by rw [HK.out, hk1]; rfl
          clear hk1
          go_wp2_with fail
          refine (HM.out _).mono ?_
          rintro e y7 ⟨rfl, hy7⟩
          go_wp2_with fail
          refine (HM2.out _).mono ?_
          rintro e y8 ⟨rfl, hy8⟩
          go_wp2_with fail
          refine (HL.out _).mono ?_
          rintro e y9 ⟨rfl, hy9⟩
          have HY9 := Lib.hid (bthen (bthen (bthen HY6.out hy7) hy8) hy9)
          clear hy7 hy8 hy9
          go_wp2_with fail
          go_ret
          exact ⟨rfl, HY9.out⟩
  · have hov2 : addOk a b = false := by simpa using hov
    have hsum : addV a b = 0 := by unfold addV; rw [if_neg hov]
    rw [hov2, hsum] at HA
    clear ha hb hov hov2 hsum
    have A0 := ((Blk.new w #[.int .u64 (MWide.w0 a), .int .u64 (MWide.w1 a), .int .u64 (MWide.w2 a)] 26).alloc (.cells #[.int .u64 (MWide.w0 b), .int .u64 (MWide.w1 b), .int .u64 (MWide.w2 b)] 26)).alloc (.cells #[.int .u64 n, .int .u64 m] 23)
    have B0 := (Blk.new_at (W := w.alloc (.cells #[.int .u64 (MWide.w0 a), .int .u64 (MWide.w1 a), .int .u64 (MWide.w2 a)] 26)) (g := w.heap.size + 1) (by simp) #[.int .u64 (MWide.w0 b), .int .u64 (MWide.w1 b), .int .u64 (MWide.w2 b)] 26).alloc (.cells #[.int .u64 n, .int .u64 m] 23)
    have P0 := Blk.new_at (W := (w.alloc (.cells #[.int .u64 (MWide.w0 a), .int .u64 (MWide.w1 a), .int .u64 (MWide.w2 a)] 26)).alloc (.cells #[.int .u64 (MWide.w0 b), .int .u64 (MWide.w1 b), .int .u64 (MWide.w2 b)] 26)) (g := w.heap.size + 1 + 1) (by simp) #[.int .u64 n, .int .u64 m] 23
    have HB0 : Hid (Below w.heap.size w (((w.alloc (.cells #[.int .u64 (MWide.w0 a), .int .u64 (MWide.w1 a), .int .u64 (MWide.w2 a)] 26)).alloc (.cells #[.int .u64 (MWide.w0 b), .int .u64 (MWide.w1 b), .int .u64 (MWide.w2 b)] 26)).alloc (.cells #[.int .u64 n, .int .u64 m] 23))) := Lib.hid (by repeat (first | exact Below.refl _ _ | refine Below.drew ?_ | refine Below.alloc ?_ (by simp <;> omega) _))
    go_enter Tryd.func10, Tryd.ntmps10
    go_wp2_with fail
    refine (HA.out _).mono ?_
    rintro e w1 ⟨rfl, hb1⟩
    have A1 := A0.bel hb1
    have B1 := B0.bel hb1
    have P1 := P0.bel hb1
    have HB1 := Lib.hid (bthen HB0.out hb1)
    clear A0 B0 P0 HB0 hb1
    go_upto_region 6 with (fail)
    have A2 := A1.alloc (.cells #[.int .u64 (MWide.w0 0), .int .u64 (MWide.w1 0), .int .u64 (MWide.w2 0)] 26)
    have B2 := B1.alloc (.cells #[.int .u64 (MWide.w0 0), .int .u64 (MWide.w1 0), .int .u64 (MWide.w2 0)] 26)
    have P2 := P1.alloc (.cells #[.int .u64 (MWide.w0 0), .int .u64 (MWide.w1 0), .int .u64 (MWide.w2 0)] 26)
    have HB2 := Lib.hid (HB1.out.alloc HB1.out.size (.cells #[.int .u64 (MWide.w0 0), .int .u64 (MWide.w1 0), .int .u64 (MWide.w2 0)] 26))
    obtain ⟨W, hW⟩ : ∃ W, w1.alloc (.cells #[.int .u64 (MWide.w0 0), .int .u64 (MWide.w1 0), .int .u64 (MWide.w2 0)] 26) = W := ⟨_, rfl⟩
    rw [hW] at A2 B2 P2 HB2 ⊢
    clear hW A1 B1 P1 HB1
    obtain ⟨a0, a1, a2⟩ := A2.cells3
    go_wp2_with fail
    refine (HT.out _).mono ?_
    rintro e v1 ⟨rfl, hv1⟩
    have A3 := A2.bel hv1
    have B3 := B2.bel hv1
    have P3 := P2.bel hv1
    have HB3 := Lib.hid (bthen HB2.out hv1)
    clear A2 B2 P2 HB2 hv1
    go_wp2_with fail
    refine (HP.out _).mono ?_
    rintro e v2 ⟨rfl, hv2⟩
    have A4 := A3.bel hv2
    have B4 := B3.bel hv2
    have P4 := P3.bel hv2
    have HB4 := Lib.hid (bthen HB3.out hv2)
    clear A3 B3 P3 HB3 hv2
    clear a0 a1 a2
    go_upto_region 7 with (fail)
    have X1 := Blk.new v2 #[.int .u64 (MWide.w0 a), .int .u64 (MWide.w1 a), .int .u64 (MWide.w2 a)] 26
    have A5 := A4.alloc (.cells #[.int .u64 (MWide.w0 a), .int .u64 (MWide.w1 a), .int .u64 (MWide.w2 a)] 26)
    have B5 := B4.alloc (.cells #[.int .u64 (MWide.w0 a), .int .u64 (MWide.w1 a), .int .u64 (MWide.w2 a)] 26)
    have P5 := P4.alloc (.cells #[.int .u64 (MWide.w0 a), .int .u64 (MWide.w1 a), .int .u64 (MWide.w2 a)] 26)
    have HB5 := Lib.hid (HB4.out.alloc HB4.out.size (.cells #[.int .u64 (MWide.w0 a), .int .u64 (MWide.w1 a), .int .u64 (MWide.w2 a)] 26))
    clear A4 B4 P4 HB4
    obtain ⟨V, hV⟩ : ∃ W, v2.alloc (.cells #[.int .u64 (MWide.w0 a), .int .u64 (MWide.w1 a), .int .u64 (MWide.w2 a)] 26) = W := ⟨_, rfl⟩
    rw [hV] at A5 B5 P5 HB5 X1 ⊢
    clear hV
    obtain ⟨a0, a1, a2⟩ := A5.cells3
    obtain ⟨x0, x1, x2⟩ := X1.cells3
    have p0 := P5.cell 0 rfl
    have p1 := P5.cell 1 rfl
    go_upto_region 9 with (fail)
    go_region
    have HBx := Lib.hid (Below.drew HB5.out)
    clear a0 a1 a2 x0 x1 x2 p0 p1 A5 B5 P5 X1 HB5
    by_cases hz : n = 0
    · have e0 := eqU0 (n := n * m) (by rw [hz, Int.zero_mul])
      have b1 : (n == 0) = true := by rw [hz]; rfl
      clear hz q2
      go_wp2_with fail
      refine (HM.out _).mono ?_
      rintro e y1 ⟨rfl, hy1⟩
      have HY1 := Lib.hid (bthen HBx.out hy1)
      clear hy1
      go_wp2_with (go_at_call 19; refine (HL.out _).mono ?_; rintro e y2 ⟨rfl, hy2⟩; have HY2 := Lib.hid (bthen HY1.out hy2); clear hy2)
      go_ret
      exact ⟨rfl, HY2.out⟩
    · have b1 : (n == 0) = false := by rw [beq_eq_false_iff_ne]; exact hz
      by_cases hz2 : m = 0
      · have e0 := eqU0 (n := n * m) (by rw [hz2, Int.mul_zero])
        have b2 : (m == 0) = true := by rw [hz2]; rfl
        clear hz hz2 q2
        go_wp2_with fail
        refine (HM.out _).mono ?_
        rintro e y1 ⟨rfl, hy1⟩
        have HY1 := Lib.hid (bthen HBx.out hy1)
        clear hy1
        go_wp2_with (go_at_call 19; refine (HL.out _).mono ?_; rintro e y2 ⟨rfl, hy2⟩; have HY2 := Lib.hid (bthen HY1.out hy2); clear hy2)
        go_ret
        exact ⟨rfl, HY2.out⟩
      · have b2 : (m == 0) = false := by rw [beq_eq_false_iff_ne]; exact hz2
        have hwk := HWK.out (by omega) (by omega)
        obtain ⟨k, hk⟩ : ∃ k, width n + width m - width (n * m) = k := ⟨_, rfl⟩
        rw [hk] at hwk
        have hw0 : 0 ≤ width (n * m) := by unfold width; split <;> omega
        have hkk : 0 ≤ width (n * m) ∧ width (n * m) ≤ 128 := by omega
        obtain ⟨wp, hwp⟩ : ∃ k, width (n * m) = k := ⟨_, rfl⟩
        rw [hwp] at hk hkk HBp
        have HK := Lib.hid hk
        clear hk hwp hz hz2
        go_wp2_with fail
        refine (HOn.out _).mono ?_
        rintro e y1 ⟨rfl, hy1⟩
        go_wp2_with fail
        refine (HBn.out _).mono ?_
        rintro e y2 ⟨rfl, hy2⟩
        go_wp2_with fail
        refine (HOm.out _).mono ?_
        rintro e y3 ⟨rfl, hy3⟩
        go_wp2_with fail
        refine (HBm.out _).mono ?_
        rintro e y4 ⟨rfl, hy4⟩
        go_wp2_with fail
        refine (HM.out _).mono ?_
        rintro e y5 ⟨rfl, hy5⟩
        go_wp2_with fail
        refine (HBp.out _).mono ?_
        rintro e y6 ⟨rfl, hy6⟩
        have HY6 := Lib.hid (bthen (bthen (bthen (bthen (bthen (bthen HBx.out hy1) hy2) hy3) hy4) hy5) hy6)
        clear hy1 hy2 hy3 hy4 hy5 hy6
        rcases hwk with hk0 | hk1
        · have b3 : (width n + width m - wp == 0) = true := by rw [HK.out, hk0]; rfl
          clear hk0
          go_wp2_with fail
          refine (HM.out _).mono ?_
          rintro e y7 ⟨rfl, hy7⟩
          go_wp2_with fail
          refine (HM2.out _).mono ?_
          rintro e y8 ⟨rfl, hy8⟩
          go_wp2_with fail
          refine (HL.out _).mono ?_
          rintro e y9 ⟨rfl, hy9⟩
          have HY9 := Lib.hid (bthen (bthen (bthen HY6.out hy7) hy8) hy9)
          clear hy7 hy8 hy9
          go_wp2_with fail
          go_ret
          exact ⟨rfl, HY9.out⟩
        · have b3 : (width n + width m - wp == 0) = false := by rw [HK.out, hk1]; rfl
          have b4 : (width n + width m - wp == 1) = true := by rw [HK.out, hk1]; rfl
          clear hk1
          go_wp2_with fail
          refine (HM.out _).mono ?_
          rintro e y7 ⟨rfl, hy7⟩
          go_wp2_with fail
          refine (HM2.out _).mono ?_
          rintro e y8 ⟨rfl, hy8⟩
          go_wp2_with fail
          refine (HL.out _).mono ?_
          rintro e y9 ⟨rfl, hy9⟩
          have HY9 := Lib.hid (bthen (bthen (bthen HY6.out hy7) hy8) hy9)
          clear hy7 hy8 hy9
          go_wp2_with fail
          go_ret
          exact ⟨rfl, HY9.out⟩

end Go.Proofs.YtakkifedcbhgfaaDoor.K
