/- What shape.All hands back, ranged over. -/
import Derived.Test.YtfknhpgelleenaaDoorKB
import Derived.Handy
import Derived.Test.YtfknhpgelleenaaDoorWShape1
namespace Go.Proofs.YtfknhpgelleenaaDoor.K
open Go Go.RowKit Go.Proofs.YtfknhpgelleenaaDoorW.PrintWords Go.Proofs.YtfknhpgelleenaaDoorW.PrintLast Go.Proofs.YtfknhpgelleenaaDoorW.PrintMore
set_option linter.unusedVariables false
set_option linter.unusedSimpArgs false
open Go.Shelf
theorem room_of_none {F : Fence} (hd : F.depth = none) (k : Nat) : F.room k := fun d h => by rw [hd] at h; cases h
theorem round_anyDepth {F : Fence} (hd : F.depth = none) {m m' : Nat} {P : Program} {l : Nat} {f : FuncId} {tmps : Array Value} {assign body : Code} {w : World} {R : Ending → World → Prop}
    (h : RoundIn F m P l f tmps assign body w R) : RoundIn F m' P l f tmps assign body w R := ⟨h.1, fun c cs _ => h.2 c cs (room_of_none hd _)⟩
theorem yield_anyDepth {F : Fence} (hd : F.depth = none) {m : Nat} (m' : Nat) {P : Program} {l : Nat} {args : Array Value} {W : World} {R : Ending → World → Prop} (h : YieldAt F m P l args W R) : YieldAt F m' P l args W R := by
  obtain ⟨fn, tmps, assign, body, hy, hR⟩ := h
  exact ⟨fn, tmps, assign, body, hy, round_anyDepth hd hR⟩
set_option maxHeartbeats 1000000 in
set_option maxRecDepth 100000 in
/-- What shape.All hands back, ranged over: the shape's points, in order. -/
theorem seq_stops (F : Fence) (hd : F.depth = none) (n : Nat) (h97 : F.fn 56) (h98 : F.fn 57) (hro : F.round = none) (B k d : Nat) (c : Value × Value × Value) (out : List (Int × Int)) (w : World)
    (hB : Blk w B #[c.1, c.2.1, c.2.2] 25) (hk : k < w.heap.size) (hs : IsSh k w d c out) :
    SeqStopsK F n Tryd.prog 56 #[.pointer (some ⟨B, 0, none⟩)] (fun x : Int × Int => #[Value.agg #[.int .i64 x.1, .int .i64 x.2]]) (Kx k) (fun ys => ys = out) (fun pre => pre <+: out) out.length w := fun l J Jx W hW hJ hJx hY h0 => by
  have hdd : ∀ k : Nat, (F.depth.isSome = true → 1 ≤ k) := fun k h => by rw [hd] at h; cases h
  have hs' := IsSh.kx (Kx.bel hW) d hs
  obtain ⟨kd, e1, e2, e3, e4, e5, e6, rfl⟩ := hs.forms
  have hB' := Blk.bel hB hW
  dsimp only at hB'
  obtain ⟨b0, b1, b2⟩ := Blk.cells3 hB'
  have hp := each_in F hd h98 hro l k W.heap.size out.length J Jx hJ (fun m pre x W1 hj hl => yield_anyDepth hd m (hY pre x W1 hj hl)) d _ out (n - 1) [] W hs' h0 (Nat.lt_of_lt_of_le hk hW.size) (by simp)
  dsimp only at hp
  refine callsIn_of_wp Tryd.func56 rfl h97 ?_ hro
  simp only [Tryd.ntmps56, List.size_toArray, List.length_cons, List.length_nil, Nat.reduceAdd, Nat.reduceSub, Array.replicate_succ, Array.replicate_zero, List.push_toArray, List.append_toArray, List.nil_append, List.cons_append]
  gi_wp2_with ((try refine ⟨hdd _, ?_⟩); gi_at_call 57; refine hp.mono ?_; clear hp; rintro e W1 (⟨rfl, hJ1, _⟩ | ⟨rfl, q, hq, hx⟩))
  · go_end0
    exact ⟨⟨_, rfl⟩, .inl ⟨_, rfl, by simpa using hJ1⟩⟩
  · go_end0
    exact ⟨⟨_, rfl⟩, .inr ⟨q, hq, by simpa using hx⟩⟩

end Go.Proofs.YtfknhpgelleenaaDoor.K
