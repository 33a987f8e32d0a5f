/- What a claim leans on, part 40, cut by a program out of the texts WOpen5. -/
import Derived.Handy
import Derived.IntWalk
import Derived.Test.YtfknhpgelleenaaDoorZB4
import Derived.Test.YtfknhpgelleenaaDoorZB38
import Derived.Test.YtfknhpgelleenaaDoorZB39
section
namespace Go.Proofs.YtfknhpgelleenaaDoor.K
open Go Go.RowKit Go.Proofs.YtfknhpgelleenaaDoorW.PrintWords Go.Proofs.YtfknhpgelleenaaDoorW.PrintLast Go.Proofs.YtfknhpgelleenaaDoorW.PrintMore
set_option linter.unusedVariables false
set_option linter.unusedSimpArgs false
open Go.Proofs.YtfknhpgelleenaaDoor.MPeek
open Go.Proofs.YtfknhpgelleenaaDoor.MBox (noneB zeroB good)
open Go.Proofs.YtfknhpgelleenaaDoor.MShape (Sh)
open Go.Proofs.YtfknhpgelleenaaDoor.MRead (readS)
theorem peek_bad_ne {l : List Int} {e : Int} (h : peekS l = .bad e) : e ≠ 0 := by
  unfold peekS at h
  split at h
  · cases h; decide
  split at h
  · cases h; decide
  split at h
  · cases h
  split at h
  · cases h; decide
  split at h
  · cases h
  · cases h; decide
/-- Open of any bytes: what it leaves. -/
def OpenAns (w : World) (l : List Int) (ex : Ending) (w' : World) : Prop :=
  (∃ e, openS boxOf l = .bad e ∧ e ≠ 0 ∧ ex = .returned (.tuple #[.agg #[.int .i64 0, .bool false, .bool false, .bool false, .bool false, .int .i64 0, .int .i64 0, .int .i64 0, .int .i64 0], .agg #[.int .i64 0, .slice none 0 0, .slice none 0 0], .int .i64 e]) ∧ Bel w w') ∨
  (∃ hd s, openS boxOf l = .ok hd s ∧ ∃ k0 B1 m1 e1 B2 m2 e2, ex = .returned (.tuple #[.agg (hdC hd), .agg #[.int .i64 k0, .slice B1 m1 e1, .slice B2 m2 e2], .int .i64 0]) ∧ Hid (KW.M w' w.heap.size (fun _ => True) s [.int .i64 k0, .slice B1 m1 e1, .slice B2 m2 e2]) ∧ Hid (Bel w w'))
theorem open_calls (w : World) (A : Option Addr) (c : Nat) (l : List Int) (h : CB w A l) (hc : l.length ≤ c) (hb : bytesOk l) (hlen : l.length < 100000000000) (hGl : Gl w) :
    Calls Tryd.prog 46 #[.slice A l.length c] w (OpenAns w l) := by
  cases hp : peekS l with
  | bad e =>
    refine (open_peekbad w A c l h hc hb hp (peek_bad_ne hp)).mono ?_
    rintro ex w' ⟨h1, h2⟩
    exact .inl ⟨e, by unfold openS; rw [hp], peek_bad_ne hp, h1, h2⟩
  | ok hd n =>
    by_cases hr : (readS (l.drop n)).2 = 0
    · have hr' : readS (l.drop n) = ((readS (l.drop n)).1, 0) := by rw [← hr]
      obtain ⟨s, hs⟩ : ∃ s, (readS (l.drop n)).1 = s := ⟨_, rfl⟩
      rw [hs] at hr'
      obtain ⟨v, hv⟩ : ∃ v, sameH hd (wantS hd (decide ((l.drop n).headD 0 = 1)) (boxOf s.flat)) = v := ⟨_, rfl⟩
      have ho : openS boxOf l = if v = true then .ok hd s else .bad 9 := by
        unfold openS
        rw [hp]
        simp only
        rw [if_neg (by rw [hr]; simp), hs, hv]
      obtain ⟨srs, hl, bx, he, hx⟩ := hd
      cases v with
      | true =>
        rw [if_pos rfl] at ho
        cases bx with
        | true =>
          refine (open_bk w A c l h hc hb hp hr' rfl rfl hlen hGl hv).mono ?_
          rintro ex w' hh
          exact .inr ⟨_, _, ho, hh⟩
        | false =>
          refine (open_nk w A c l h hc hb hp hr' rfl rfl hlen hGl hv).mono ?_
          rintro ex w' hh
          exact .inr ⟨_, _, ho, hh⟩
      | false =>
        rw [if_neg (by decide)] at ho
        cases bx with
        | true =>
          refine (open_bx w A c l h hc hb hp hr' rfl rfl hlen hGl hv).mono ?_
          rintro ex w' hh
          exact .inl ⟨_, ho, by decide, hh⟩
        | false =>
          refine (open_nx w A c l h hc hb hp hr' rfl rfl hlen hGl hv).mono ?_
          rintro ex w' hh
          exact .inl ⟨_, ho, by decide, hh⟩
    · refine (open_readbad w A c l h hc hb hp rfl hr hlen hGl).mono ?_
      rintro ex w' ⟨h1, h2⟩
      exact .inl ⟨_, by unfold openS; rw [hp]; simp only; rw [if_pos hr], hr, h1, h2⟩
end Go.Proofs.YtfknhpgelleenaaDoor.K
end
