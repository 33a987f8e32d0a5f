/- What a claim leans on, part 24, cut by a program out of the texts WEncB. -/
import Derived.Handy
import Derived.IntWalk
import Derived.Test.YtfknhpgelleenaaDoorZB4
import Derived.Test.YtfknhpgelleenaaDoorZB6
import Derived.Test.YtfknhpgelleenaaDoorZB12
import Derived.Test.YtfknhpgelleenaaDoorZB19
section
namespace Go.Proofs.YtfknhpgelleenaaDoor.K
open Go Go.RowKit Go.Proofs.YtfknhpgelleenaaDoorW.PrintWords Go.Proofs.YtfknhpgelleenaaDoorW.PrintLast Go.Proofs.YtfknhpgelleenaaDoorW.PrintMore
set_option linter.unusedVariables false
set_option linter.unusedSimpArgs false
open Go.Proofs.YtfknhpgelleenaaDoor.MShape (Sh flats)
open Go.Proofs.YtfknhpgelleenaaDoor.MRead (decodeS readS inS inI)
theorem I6_in {n : Int} (h : I6 n) : inI n := by
  simp only [I6, Lit.wf, IntKind.min, IntKind.max, IntKind.signed, IntKind.bits, Bool.and_eq_true, decide_eq_true_eq, if_true] at h
  unfold MRead.inI
  omega
theorem bytes_nm (n k : Int) (o : Bool) : bytesOk (MWkb.nm n k o) := fun x hx => MOct.putL_range _ _ _ x hx
mutual
theorem flat_in : ∀ {s : Sh}, shOk s → ∀ q ∈ s.flat, inI q.1 ∧ inI q.2
  | .mk k pts ps, h, q, hq => by
    unfold Sh.flat at hq
    rcases List.mem_append.1 hq with hq | hq
    · have := h.2.1 q hq; exact ⟨I6_in this.1, I6_in this.2⟩
    · exact flats_in h.2.2 q hq
theorem flats_in : ∀ {l : List Sh}, shOks l → ∀ q ∈ flats l, inI q.1 ∧ inI q.2
  | [], _, q, hq => by simp [flats] at hq
  | p :: ps, h, q, hq => by
    unfold flats at hq
    rcases List.mem_append.1 hq with hq | hq
    · exact flat_in h.1 q hq
    · exact flats_in h.2 q hq
end
theorem bytes_pt (o : Bool) (p : Int × Int) : bytesOk (MWkb.pt o p) := bytesOk_append (bytes_nm _ _ _) (bytes_nm _ _ _)
theorem bytes_ptsE (o : Bool) : ∀ l, bytesOk (MWkb.ptsE o l)
  | [] => bytesOk_nil
  | p :: l => bytesOk_append (bytes_pt o p) (bytes_ptsE o l)
theorem bytes_run (o : Bool) (l : List (Int × Int)) : bytesOk (MWkb.run o l) := bytesOk_append (bytes_nm _ _ _) (bytes_ptsE o l)
theorem bytes_rings (o : Bool) : ∀ l, bytesOk (MWkb.ringsE o l)
  | [] => bytesOk_nil
  | p :: l => by unfold MWkb.ringsE; exact bytesOk_append (bytes_run o _) (bytes_rings o l)
mutual
theorem bytes_enc (o : Bool) : ∀ s, bytesOk (MWkb.enc o s)
  | .mk k pts ps => by
    intro x hx
    unfold MWkb.enc at hx
    rcases List.mem_cons.1 hx with rfl | hx
    · cases o <;> simp [MWkb.mark]
    rcases List.mem_append.1 hx with hx | hx
    · exact bytes_nm _ _ _ x hx
    split at hx
    · exact bytes_pt o _ x hx
    split at hx
    · exact bytes_run o _ x hx
    rcases List.mem_append.1 hx with hx | hx
    · exact bytes_nm _ _ _ x hx
    split at hx
    · exact bytes_rings o _ x hx
    · exact bytes_encs o ps x hx
theorem bytes_encs (o : Bool) : ∀ l, bytesOk (MWkb.encs o l)
  | [] => fun x hx => by simp [MWkb.encs] at hx
  | p :: l => by
    intro x hx
    unfold MWkb.encs at hx
    rcases List.mem_append.1 hx with hx | hx
    · exact bytes_enc o p x hx
    · exact bytes_encs o l x hx
end
end Go.Proofs.YtfknhpgelleenaaDoor.K
end
