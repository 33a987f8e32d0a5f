/- What a claim leans on, part 43, cut by a program out of the texts WOpen6. -/
import Derived.Handy
import Derived.Test.YtfknhpgelleenaaDoorZB4
import Derived.Test.YtfknhpgelleenaaDoorZB24
import Derived.Test.YtfknhpgelleenaaDoorZB40
import Derived.Test.YtfknhpgelleenaaDoorZB41
import Derived.Test.YtfknhpgelleenaaDoorZB42
section
namespace Go.Proofs.YtfknhpgelleenaaDoor.K
open Go Go.RowKit Go.Proofs.YtfknhpgelleenaaDoorW.PrintWords Go.Proofs.YtfknhpgelleenaaDoorW.PrintLast Go.Proofs.YtfknhpgelleenaaDoorW.PrintMore
set_option linter.unusedVariables false
set_option linter.unusedSimpArgs false
open Go.Proofs.YtfknhpgelleenaaDoor.MPeek
open Go.Proofs.YtfknhpgelleenaaDoor.MBox (noneB zeroB good)
open Go.Proofs.YtfknhpgelleenaaDoor.MShape (Sh)
open Go.Proofs.YtfknhpgelleenaaDoor.MRead (readS inS inI)
theorem open_good (w : World) (A : Option Addr) (c : Nat) (l : List Int) (h : CB w A l) (hc : l.length ≤ c) (hb : bytesOk l) (hlen : l.length < 100000000000) (hGl : Gl w) {hd : Hd} {s : Sh} (ho : openS boxOf l = .ok hd s) :
    Calls Tryd.prog 46 #[.slice A l.length c] w fun ex w' => ∃ k0 B1 m1 e1 B2 m2 e2, ex = .returned (.tuple #[.agg (hdC hd), .agg #[.int .i64 k0, .slice B1 m1 e1, .slice B2 m2 e2], .int .i64 0]) ∧ Hid (KW.M w' w.heap.size (fun _ => True) s [.int .i64 k0, .slice B1 m1 e1, .slice B2 m2 e2]) ∧ Hid (Bel w w') := by
  refine (open_calls w A c l h hc hb hlen hGl).mono ?_
  rintro ex w' (⟨e, h1, -⟩ | ⟨hd', s', h1, h2⟩)
  · rw [ho] at h1; cases h1
  · rw [ho] at h1
    injection h1 with e1 e2
    subst e1 e2
    exact h2
theorem open_none (w : World) (A : Option Addr) (c : Nat) (l : List Int) (h : CB w A l) (hc : l.length ≤ c) (hb : bytesOk l) (hlen : l.length < 100000000000) (hGl : Gl w) {e : Int} (ho : openS boxOf l = .bad e) :
    Calls Tryd.prog 46 #[.slice A l.length c] w fun ex w' => ex = .returned (.tuple #[.agg #[.int .i64 0, .bool false, .bool false, .bool false, .bool false, .int .i64 0, .int .i64 0, .int .i64 0, .int .i64 0], .agg #[.int .i64 0, .slice none 0 0, .slice none 0 0], .int .i64 e]) ∧ Bel w w' := by
  refine (open_calls w A c l h hc hb hlen hGl).mono ?_
  rintro ex w' (⟨e', h1, h2, h3, h4⟩ | ⟨hd', s', h1, h2⟩)
  · rw [ho] at h1
    injection h1 with e1
    subst e1
    exact ⟨h3, h4⟩
  · rw [ho] at h1; cases h1
theorem bytes_blobL (o bx : Bool) (srs : Int) (s : Sh) (b : MBox.Bx) : bytesOk (blobL o bx srs s b) := by
  have hf : ∀ a b c : Bool, 0 ≤ flagsV a b c ∧ flagsV a b c < 256 := by decide
  unfold blobL
  refine bytesOk_append (bytesOk_append (bytesOk_append ?_ (bytes_nm _ _ _)) ?_) (bytes_enc o s)
  · intro x hx
    simp only [List.mem_cons, List.not_mem_nil, or_false] at hx
    rcases hx with rfl | rfl | rfl | rfl
    · decide
    · decide
    · decide
    · exact hf _ _ _
  · split
    · exact bytes_corn o b
    · exact bytesOk_nil
theorem blobL_len {o bx : Bool} {srs : Int} {s : Sh} {b : MBox.Bx} (h : MShape.check s = 0) : 17 ≤ (blobL o bx srs s b).length ∧ (blobL o bx srs s b).length < 100040 := by
  have h1 := encB_len o s
  unfold encB at h1
  rw [if_pos h] at h1
  have h2 := MRead.enc_len9 o s
  rw [blobL_eq, List.length_append, hdL_len]
  split <;> omega
end Go.Proofs.YtfknhpgelleenaaDoor.K
end
