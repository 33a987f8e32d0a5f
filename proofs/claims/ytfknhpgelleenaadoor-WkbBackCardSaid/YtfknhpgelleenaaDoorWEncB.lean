/- The bytes of a shape are bytes; Order. -/
import Derived.Test.YtfknhpgelleenaaDoorKB
import Derived.Handy
import Derived.Test.YtfknhpgelleenaaDoorKWW
import Derived.Test.YtfknhpgelleenaaDoorMRd
import Derived.Test.YtfknhpgelleenaaDoorWShp
import Derived.IntWalk
namespace Go.Proofs.YtfknhpgelleenaaDoor.K
open Go Go.RowKit Go.Proofs.YtfknhpgelleenaaDoorW.PrintWords Go.Proofs.YtfknhpgelleenaaDoorW.PrintLast Go.Proofs.YtfknhpgelleenaaDoorW.PrintMore
set_option linter.unusedVariables false
set_option linter.unusedSimpArgs false
open Go.Proofs.YtfknhpgelleenaaDoor.MShape (Sh flats)
open Go.Proofs.YtfknhpgelleenaaDoor.MRead (decodeS readS inS inI)
theorem I6_in {n : Int} (h : I6 n) : inI n := by
  simp only [I6, Lit.wf, IntKind.min, IntKind.max, IntKind.signed, IntKind.bits, Bool.and_eq_true, decide_eq_true_eq, if_true] at h
  unfold MRead.inI
  omega
theorem bytes_nm (n k : Int) (o : Bool) : bytesOk (MWkb.nm n k o) := fun x hx => MOct.putL_range _ _ _ x hx
mutual
theorem flat_in : ∀ {s : Sh}, shOk s → ∀ q ∈ s.flat, inI q.1 ∧ inI q.2
  | .mk k pts ps, h, q, hq => by
    unfold Sh.flat at hq
    rcases List.mem_append.1 hq with hq | hq
    · have := h.2.1 q hq; exact ⟨I6_in this.1, I6_in this.2⟩
    · exact flats_in h.2.2 q hq
theorem flats_in : ∀ {l : List Sh}, shOks l → ∀ q ∈ flats l, inI q.1 ∧ inI q.2
  | [], _, q, hq => by simp [flats] at hq
  | p :: ps, h, q, hq => by
    unfold flats at hq
    rcases List.mem_append.1 hq with hq | hq
    · exact flat_in h.1 q hq
    · exact flats_in h.2 q hq
end
theorem bytes_pt (o : Bool) (p : Int × Int) : bytesOk (MWkb.pt o p) := bytesOk_append (bytes_nm _ _ _) (bytes_nm _ _ _)
theorem bytes_ptsE (o : Bool) : ∀ l, bytesOk (MWkb.ptsE o l)
  | [] => bytesOk_nil
  | p :: l => bytesOk_append (bytes_pt o p) (bytes_ptsE o l)
theorem bytes_run (o : Bool) (l : List (Int × Int)) : bytesOk (MWkb.run o l) := bytesOk_append (bytes_nm _ _ _) (bytes_ptsE o l)
theorem bytes_rings (o : Bool) : ∀ l, bytesOk (MWkb.ringsE o l)
  | [] => bytesOk_nil
  | p :: l => by unfold MWkb.ringsE; exact bytesOk_append (bytes_run o _) (bytes_rings o l)
mutual
theorem bytes_enc (o : Bool) : ∀ s, bytesOk (MWkb.enc o s)
  | .mk k pts ps => by
    intro x hx
    unfold MWkb.enc at hx
    rcases List.mem_cons.1 hx with rfl | hx
    · cases o <;> simp [MWkb.mark]
    rcases List.mem_append.1 hx with hx | hx
    · exact bytes_nm _ _ _ x hx
    split at hx
    · exact bytes_pt o _ x hx
    split at hx
    · exact bytes_run o _ x hx
    rcases List.mem_append.1 hx with hx | hx
    · exact bytes_nm _ _ _ x hx
    split at hx
    · exact bytes_rings o _ x hx
    · exact bytes_encs o ps x hx
theorem bytes_encs (o : Bool) : ∀ l, bytesOk (MWkb.encs o l)
  | [] => fun x hx => by simp [MWkb.encs] at hx
  | p :: l => by
    intro x hx
    unfold MWkb.encs at hx
    rcases List.mem_append.1 hx with hx | hx
    · exact bytes_enc o p x hx
    · exact bytes_encs o l x hx
end
set_option maxHeartbeats 4000000 in
set_option maxRecDepth 100000 in
theorem order_calls (w : World) (A : Option Addr) (c : Nat) (l : List Int) (o : Bool) (h : CB w A (MWkb.mark o :: l)) :
    Calls Tryd.prog 45 #[.slice A (MWkb.mark o :: l).length c] w fun e w' => e = .returned (.tuple #[.bool o, .bool true]) ∧ w = w' := by
  obtain ⟨ad, rfl, hc⟩ := h.at_ 0 (by simp)
  obtain ⟨b, off, rfl, hlt⟩ := add_none hc
  rw [add_mid] at hc
  have hc0 : w.cell? ⟨b, off, none⟩ = some (.int .u8 (MWkb.mark o)) := hc
  obtain ⟨n, hn⟩ : ∃ n, (MWkb.mark o :: l).length = n + 1 := ⟨l.length, by simp⟩
  rw [hn]
  have hz : (((n + 1 : Nat) : Int) == 0) = false := by simp; omega
  have hz3 : ((n : Int) + 1 == 0) = false := by simp; omega
  have hz2 : (0 : Int) < ((n + 1 : Nat) : Int) := by omega
  have hz4 : (0 : Int) < (n : Int) + 1 := by omega
  clear h hc hn hlt
  cases o
  · have hc0 : w.cell? ⟨b, off, none⟩ = some (.int .u8 0) := hc0
    go_enter Tryd.func45, Tryd.ntmps45
    go_wp2
    refine ⟨rfl, .tuple #[.bool false, .bool true], ?_, rfl, rfl⟩
    simp [results, Tryd.results45, go_sem, MWkb.mark]
  · have hc0 : w.cell? ⟨b, off, none⟩ = some (.int .u8 1) := hc0
    go_enter Tryd.func45, Tryd.ntmps45
    go_wp2
    refine ⟨rfl, .tuple #[.bool true, .bool true], ?_, rfl, rfl⟩
    simp [results, Tryd.results45, go_sem, MWkb.mark]

end Go.Proofs.YtfknhpgelleenaaDoor.K
