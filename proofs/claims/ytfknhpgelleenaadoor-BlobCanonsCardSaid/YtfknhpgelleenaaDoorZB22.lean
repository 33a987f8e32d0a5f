/- What a claim leans on, part 22, cut by a program out of the texts KRP WBlob1 WBlob2. -/
import Derived.Handy
import Derived.IntWalk
import Derived.Test.YtfknhpgelleenaaDoorZB3
import Derived.Test.YtfknhpgelleenaaDoorZB4
import Derived.Test.YtfknhpgelleenaaDoorZB5
import Derived.Test.YtfknhpgelleenaaDoorZB7
import Derived.Test.YtfknhpgelleenaaDoorZB10
import Derived.Test.YtfknhpgelleenaaDoorZB12
import Derived.Test.YtfknhpgelleenaaDoorZB13
import Derived.Test.YtfknhpgelleenaaDoorZB14
import Derived.Test.YtfknhpgelleenaaDoorZB19
section
namespace Go.Proofs.YtfknhpgelleenaaDoor.K
open Go Go.RowKit Go.Proofs.YtfknhpgelleenaaDoorW.PrintWords Go.Proofs.YtfknhpgelleenaaDoorW.PrintLast Go.Proofs.YtfknhpgelleenaaDoorW.PrintMore
set_option linter.unusedVariables false
set_option linter.unusedSimpArgs false
open Go.Proofs.YtfknhpgelleenaaDoor.MShape (Sh flats)
theorem u64w (n : Int) : IntKind.u64.wrap n = MWkb.u64 n := by rw [IntKind.wrap_u64]; rfl
end Go.Proofs.YtfknhpgelleenaaDoor.K
end
section
namespace Go.Proofs.YtfknhpgelleenaaDoor.K
open Go Go.RowKit Go.Proofs.YtfknhpgelleenaaDoorW.PrintWords Go.Proofs.YtfknhpgelleenaaDoorW.PrintLast Go.Proofs.YtfknhpgelleenaaDoorW.PrintMore
set_option linter.unusedVariables false
set_option linter.unusedSimpArgs false
open Go.Proofs.YtfknhpgelleenaaDoor.MBox (Bx)
def srsOk (n : Int) : Bool := decide (-2147483648 ≤ n) && decide (n ≤ 2147483647)
theorem isSrs_calls (n : Int) (w : World) : Calls Tryd.prog 63 #[.int .i64 n] w fun e w' => e = .returned (.bool (srsOk n)) ∧ w' = w := by
  obtain ⟨r, hr⟩ : ∃ r, srsOk n = r := ⟨_, rfl⟩
  rw [hr]
  unfold srsOk at hr
  have HR := Lib.hid hr
  clear hr
  cases h1 : decide ((-2147483648 : Int) ≤ n)
  all_goals
    have H1 := Lib.hid h1
    go_enter Tryd.func63, Tryd.ntmps63
    go_wp2
    go_ret
    exact ⟨by have h := HR.out; rw [H1.out] at h; rw [← h]; first | rfl | simp, rfl⟩
def flagsV (b0 b1 b2 : Bool) : Int := (if b0 then 1 else 0) + (if b1 then 2 else 0) + (if b2 then 16 else 0)
def flagsK (b0 b1 b2 : Bool) (k : Nat) : Int := (if b0 && decide (0 < k) then 1 else 0) + (if b1 && decide (1 < k) then 2 else 0) + (if b2 && decide (2 < k) then 16 else 0)
set_option maxHeartbeats 2000000 in
set_option maxRecDepth 100000 in
theorem flags_calls (b0 b1 b2 : Bool) (g : Nat) (w : World) (hg : Blk w g #[.bool b0, .bool b1, .bool b2] 4) :
    Calls Tryd.prog 65 #[.slice (some ⟨g, 0, none⟩) 3 3] w fun e w' => e = .returned (.int .u8 (flagsV b0 b1 b2)) ∧ Bel w w' := by
  have HG := Lib.hid hg
  have R := Blk.new w #[.int .u8 1, .int .u8 2, .int .u8 16] 126
  have HB : Hid (Bel w (w.alloc (.cells #[.int .u8 1, .int .u8 2, .int .u8 16] 126))) := Lib.hid ((Bel.refl w).alloc (Nat.le_refl _) _)
  clear hg
  cases b0 <;> cases b1 <;> cases b2
  · skip
    go_enter Tryd.func65, Tryd.ntmps65
    go_upto_region 2 with (fail)
    obtain ⟨W, hW⟩ : ∃ X, w.alloc (.cells #[.int .u8 1, .int .u8 2, .int .u8 16] 126) = X := ⟨_, rfl⟩
    rw [hW] at R HB ⊢
    obtain ⟨gr, hr⟩ : ∃ X, w.heap.size = X := ⟨_, rfl⟩
    rw [hr] at R ⊢
    clear hW hr
    obtain ⟨c0, c1, c2⟩ := Blk.cells3 (HG.out.bel HB.out)
    obtain ⟨r0, r1, r2⟩ := Blk.cells3 R
    clear R
    go_wp2
    go_loopw [4, 10] (fun fv i wr => ∃ k : Nat, i = .int .i64 k ∧ k ≤ 3 ∧ fv = .int .u8 (flagsK false false false k) ∧ wr = W) (fun _ i _ => 3 - (intOf i).toNat)
    case atStart => exact ⟨0, rfl, by omega, rfl, rfl⟩
    case round =>
      obtain ⟨k, rfl, hk, rfl, rfl⟩ := hrel
      have hk : k = 0 ∨ k = 1 ∨ k = 2 ∨ k = 3 := by omega
      rcases hk with rfl | rfl | rfl | rfl
      · have e : flagsK false false false 0 = 0 := by rfl
        rw [e]
        clear e
        go_wp2
        go_roundw
        case rel => exact ⟨1, rfl, by omega, rfl, by first | trivial | rfl⟩
        case measure => (simp [intOf] <;> omega)
      · have e : flagsK false false false 1 = 0 := by rfl
        rw [e]
        clear e
        go_wp2
        go_roundw
        case rel => exact ⟨2, rfl, by omega, rfl, by first | trivial | rfl⟩
        case measure => (simp [intOf] <;> omega)
      · have e : flagsK false false false 2 = 0 := by rfl
        rw [e]
        clear e
        go_wp2
        go_roundw
        case rel => exact ⟨3, rfl, by omega, rfl, by first | trivial | rfl⟩
        case measure => (simp [intOf] <;> omega)
      · have e : flagsK false false false 3 = 0 := by rfl
        rw [e]
        clear e
        go_wp2
        go_ret
        exact ⟨by rfl, HB.out⟩
  · skip
    go_enter Tryd.func65, Tryd.ntmps65
    go_upto_region 2 with (fail)
    obtain ⟨W, hW⟩ : ∃ X, w.alloc (.cells #[.int .u8 1, .int .u8 2, .int .u8 16] 126) = X := ⟨_, rfl⟩
    rw [hW] at R HB ⊢
    obtain ⟨gr, hr⟩ : ∃ X, w.heap.size = X := ⟨_, rfl⟩
    rw [hr] at R ⊢
    clear hW hr
    obtain ⟨c0, c1, c2⟩ := Blk.cells3 (HG.out.bel HB.out)
    obtain ⟨r0, r1, r2⟩ := Blk.cells3 R
    clear R
    go_wp2
    go_loopw [4, 10] (fun fv i wr => ∃ k : Nat, i = .int .i64 k ∧ k ≤ 3 ∧ fv = .int .u8 (flagsK false false true k) ∧ wr = W) (fun _ i _ => 3 - (intOf i).toNat)
    case atStart => exact ⟨0, rfl, by omega, rfl, rfl⟩
    case round =>
      obtain ⟨k, rfl, hk, rfl, rfl⟩ := hrel
      have hk : k = 0 ∨ k = 1 ∨ k = 2 ∨ k = 3 := by omega
      rcases hk with rfl | rfl | rfl | rfl
      · have e : flagsK false false true 0 = 0 := by rfl
        rw [e]
        clear e
        go_wp2
        go_roundw
        case rel => exact ⟨1, rfl, by omega, rfl, by first | trivial | rfl⟩
        case measure => (simp [intOf] <;> omega)
      · have e : flagsK false false true 1 = 0 := by rfl
        rw [e]
        clear e
        go_wp2
        go_roundw
        case rel => exact ⟨2, rfl, by omega, rfl, by first | trivial | rfl⟩
        case measure => (simp [intOf] <;> omega)
      · have e : flagsK false false true 2 = 0 := by rfl
        rw [e]
        clear e
        go_wp2
        go_roundw
        case rel => exact ⟨3, rfl, by omega, rfl, by first | trivial | rfl⟩
        case measure => (simp [intOf] <;> omega)
      · have e : flagsK false false true 3 = 16 := by rfl
        rw [e]
        clear e
        go_wp2
        go_ret
        exact ⟨by rfl, HB.out⟩
  · skip
    go_enter Tryd.func65, Tryd.ntmps65
    go_upto_region 2 with (fail)
    obtain ⟨W, hW⟩ : ∃ X, w.alloc (.cells #[.int .u8 1, .int .u8 2, .int .u8 16] 126) = X := ⟨_, rfl⟩
    rw [hW] at R HB ⊢
    obtain ⟨gr, hr⟩ : ∃ X, w.heap.size = X := ⟨_, rfl⟩
    rw [hr] at R ⊢
    clear hW hr
    obtain ⟨c0, c1, c2⟩ := Blk.cells3 (HG.out.bel HB.out)
    obtain ⟨r0, r1, r2⟩ := Blk.cells3 R
    clear R
    go_wp2
    go_loopw [4, 10] (fun fv i wr => ∃ k : Nat, i = .int .i64 k ∧ k ≤ 3 ∧ fv = .int .u8 (flagsK false true false k) ∧ wr = W) (fun _ i _ => 3 - (intOf i).toNat)
    case atStart => exact ⟨0, rfl, by omega, rfl, rfl⟩
    case round =>
      obtain ⟨k, rfl, hk, rfl, rfl⟩ := hrel
      have hk : k = 0 ∨ k = 1 ∨ k = 2 ∨ k = 3 := by omega
      rcases hk with rfl | rfl | rfl | rfl
      · have e : flagsK false true false 0 = 0 := by rfl
        rw [e]
        clear e
        go_wp2
        go_roundw
        case rel => exact ⟨1, rfl, by omega, rfl, by first | trivial | rfl⟩
        case measure => (simp [intOf] <;> omega)
      · have e : flagsK false true false 1 = 0 := by rfl
        rw [e]
        clear e
        go_wp2
        go_roundw
        case rel => exact ⟨2, rfl, by omega, rfl, by first | trivial | rfl⟩
        case measure => (simp [intOf] <;> omega)
      · have e : flagsK false true false 2 = 2 := by rfl
        rw [e]
        clear e
        go_wp2
        go_roundw
        case rel => exact ⟨3, rfl, by omega, rfl, by first | trivial | rfl⟩
        case measure => (simp [intOf] <;> omega)
      · have e : flagsK false true false 3 = 2 := by rfl
        rw [e]
        clear e
        go_wp2
        go_ret
        exact ⟨by rfl, HB.out⟩
  · skip
    go_enter Tryd.func65, Tryd.ntmps65
    go_upto_region 2 with (fail)
    obtain ⟨W, hW⟩ : ∃ X, w.alloc (.cells #[.int .u8 1, .int .u8 2, .int .u8 16] 126) = X := ⟨_, rfl⟩
    rw [hW] at R HB ⊢
    obtain ⟨gr, hr⟩ : ∃ X, w.heap.size = X := ⟨_, rfl⟩
    rw [hr] at R ⊢
    clear hW hr
    obtain ⟨c0, c1, c2⟩ := Blk.cells3 (HG.out.bel HB.out)
    obtain ⟨r0, r1, r2⟩ := Blk.cells3 R
    clear R
    go_wp2
    go_loopw [4, 10] (fun fv i wr => ∃ k : Nat, i = .int .i64 k ∧ k ≤ 3 ∧ fv = .int .u8 (flagsK false true true k) ∧ wr = W) (fun _ i _ => 3 - (intOf i).toNat)
    case atStart => exact ⟨0, rfl, by omega, rfl, rfl⟩
    case round =>
      obtain ⟨k, rfl, hk, rfl, rfl⟩ := hrel
      have hk : k = 0 ∨ k = 1 ∨ k = 2 ∨ k = 3 := by omega
      rcases hk with rfl | rfl | rfl | rfl
      · have e : flagsK false true true 0 = 0 := by rfl
        rw [e]
        clear e
        go_wp2
        go_roundw
        case rel => exact ⟨1, rfl, by omega, rfl, by first | trivial | rfl⟩
        case measure => (simp [intOf] <;> omega)
      · have e : flagsK false true true 1 = 0 := by rfl
        rw [e]
        clear e
        go_wp2
        go_roundw
        case rel => exact ⟨2, rfl, by omega, rfl, by first | trivial | rfl⟩
        case measure => (simp [intOf] <;> omega)
      · have e : flagsK false true true 2 = 2 := by rfl
        rw [e]
        clear e
        go_wp2
        go_roundw
        case rel => exact ⟨3, rfl, by omega, rfl, by first | trivial | rfl⟩
        case measure => (simp [intOf] <;> omega)
      · have e : flagsK false true true 3 = 18 := by rfl
        rw [e]
        clear e
        go_wp2
        go_ret
        exact ⟨by rfl, HB.out⟩
  · skip
    go_enter Tryd.func65, Tryd.ntmps65
    go_upto_region 2 with (fail)
    obtain ⟨W, hW⟩ : ∃ X, w.alloc (.cells #[.int .u8 1, .int .u8 2, .int .u8 16] 126) = X := ⟨_, rfl⟩
    rw [hW] at R HB ⊢
    obtain ⟨gr, hr⟩ : ∃ X, w.heap.size = X := ⟨_, rfl⟩
    rw [hr] at R ⊢
    clear hW hr
    obtain ⟨c0, c1, c2⟩ := Blk.cells3 (HG.out.bel HB.out)
    obtain ⟨r0, r1, r2⟩ := Blk.cells3 R
    clear R
    go_wp2
    go_loopw [4, 10] (fun fv i wr => ∃ k : Nat, i = .int .i64 k ∧ k ≤ 3 ∧ fv = .int .u8 (flagsK true false false k) ∧ wr = W) (fun _ i _ => 3 - (intOf i).toNat)
    case atStart => exact ⟨0, rfl, by omega, rfl, rfl⟩
    case round =>
      obtain ⟨k, rfl, hk, rfl, rfl⟩ := hrel
      have hk : k = 0 ∨ k = 1 ∨ k = 2 ∨ k = 3 := by omega
      rcases hk with rfl | rfl | rfl | rfl
      · have e : flagsK true false false 0 = 0 := by rfl
        rw [e]
        clear e
        go_wp2
        go_roundw
        case rel => exact ⟨1, rfl, by omega, rfl, by first | trivial | rfl⟩
        case measure => (simp [intOf] <;> omega)
      · have e : flagsK true false false 1 = 1 := by rfl
        rw [e]
        clear e
        go_wp2
        go_roundw
        case rel => exact ⟨2, rfl, by omega, rfl, by first | trivial | rfl⟩
        case measure => (simp [intOf] <;> omega)
      · have e : flagsK true false false 2 = 1 := by rfl
        rw [e]
        clear e
        go_wp2
        go_roundw
        case rel => exact ⟨3, rfl, by omega, rfl, by first | trivial | rfl⟩
        case measure => (simp [intOf] <;> omega)
      · have e : flagsK true false false 3 = 1 := by rfl
        rw [e]
        clear e
        go_wp2
        go_ret
        exact ⟨by rfl, HB.out⟩
  · skip
    go_enter Tryd.func65, Tryd.ntmps65
    go_upto_region 2 with (fail)
    obtain ⟨W, hW⟩ : ∃ X, w.alloc (.cells #[.int .u8 1, .int .u8 2, .int .u8 16] 126) = X := ⟨_, rfl⟩
    rw [hW] at R HB ⊢
    obtain ⟨gr, hr⟩ : ∃ X, w.heap.size = X := ⟨_, rfl⟩
    rw [hr] at R ⊢
    clear hW hr
    obtain ⟨c0, c1, c2⟩ := Blk.cells3 (HG.out.bel HB.out)
    obtain ⟨r0, r1, r2⟩ := Blk.cells3 R
    clear R
    go_wp2
    go_loopw [4, 10] (fun fv i wr => ∃ k : Nat, i = .int .i64 k ∧ k ≤ 3 ∧ fv = .int .u8 (flagsK true false true k) ∧ wr = W) (fun _ i _ => 3 - (intOf i).toNat)
    case atStart => exact ⟨0, rfl, by omega, rfl, rfl⟩
    case round =>
      obtain ⟨k, rfl, hk, rfl, rfl⟩ := hrel
      have hk : k = 0 ∨ k = 1 ∨ k = 2 ∨ k = 3 := by omega
      rcases hk with rfl | rfl | rfl | rfl
      · have e : flagsK true false true 0 = 0 := by rfl
        rw [e]
        clear e
        go_wp2
        go_roundw
        case rel => exact ⟨1, rfl, by omega, rfl, by first | trivial | rfl⟩
        case measure => (simp [intOf] <;> omega)
      · have e : flagsK true false true 1 = 1 := by rfl
        rw [e]
        clear e
        go_wp2
        go_roundw
        case rel => exact ⟨2, rfl, by omega, rfl, by first | trivial | rfl⟩
        case measure => (simp [intOf] <;> omega)
      · have e : flagsK true false true 2 = 1 := by rfl
        rw [e]
        clear e
        go_wp2
        go_roundw
        case rel => exact ⟨3, rfl, by omega, rfl, by first | trivial | rfl⟩
        case measure => (simp [intOf] <;> omega)
      · have e : flagsK true false true 3 = 17 := by rfl
        rw [e]
        clear e
        go_wp2
        go_ret
        exact ⟨by rfl, HB.out⟩
  · skip
    go_enter Tryd.func65, Tryd.ntmps65
    go_upto_region 2 with (fail)
    obtain ⟨W, hW⟩ : ∃ X, w.alloc (.cells #[.int .u8 1, .int .u8 2, .int .u8 16] 126) = X := ⟨_, rfl⟩
    rw [hW] at R HB ⊢
    obtain ⟨gr, hr⟩ : ∃ X, w.heap.size = X := ⟨_, rfl⟩
    rw [hr] at R ⊢
    clear hW hr
    obtain ⟨c0, c1, c2⟩ := Blk.cells3 (HG.out.bel HB.out)
    obtain ⟨r0, r1, r2⟩ := Blk.cells3 R
    clear R
    go_wp2
    go_loopw [4, 10] (fun fv i wr => ∃ k : Nat, i = .int .i64 k ∧ k ≤ 3 ∧ fv = .int .u8 (flagsK true true false k) ∧ wr = W) (fun _ i _ => 3 - (intOf i).toNat)
    case atStart => exact ⟨0, rfl, by omega, rfl, rfl⟩
    case round =>
      obtain ⟨k, rfl, hk, rfl, rfl⟩ := hrel
      have hk : k = 0 ∨ k = 1 ∨ k = 2 ∨ k = 3 := by omega
      rcases hk with rfl | rfl | rfl | rfl
      · have e : flagsK true true false 0 = 0 := by rfl
        rw [e]
        clear e
        go_wp2
        go_roundw
        case rel => exact ⟨1, rfl, by omega, rfl, by first | trivial | rfl⟩
        case measure => (simp [intOf] <;> omega)
      · have e : flagsK true true false 1 = 1 := by rfl
        rw [e]
        clear e
        go_wp2
        go_roundw
        case rel => exact ⟨2, rfl, by omega, rfl, by first | trivial | rfl⟩
        case measure => (simp [intOf] <;> omega)
      · have e : flagsK true true false 2 = 3 := by rfl
        rw [e]
        clear e
        go_wp2
        go_roundw
        case rel => exact ⟨3, rfl, by omega, rfl, by first | trivial | rfl⟩
        case measure => (simp [intOf] <;> omega)
      · have e : flagsK true true false 3 = 3 := by rfl
        rw [e]
        clear e
        go_wp2
        go_ret
        exact ⟨by rfl, HB.out⟩
  · skip
    go_enter Tryd.func65, Tryd.ntmps65
    go_upto_region 2 with (fail)
    obtain ⟨W, hW⟩ : ∃ X, w.alloc (.cells #[.int .u8 1, .int .u8 2, .int .u8 16] 126) = X := ⟨_, rfl⟩
    rw [hW] at R HB ⊢
    obtain ⟨gr, hr⟩ : ∃ X, w.heap.size = X := ⟨_, rfl⟩
    rw [hr] at R ⊢
    clear hW hr
    obtain ⟨c0, c1, c2⟩ := Blk.cells3 (HG.out.bel HB.out)
    obtain ⟨r0, r1, r2⟩ := Blk.cells3 R
    clear R
    go_wp2
    go_loopw [4, 10] (fun fv i wr => ∃ k : Nat, i = .int .i64 k ∧ k ≤ 3 ∧ fv = .int .u8 (flagsK true true true k) ∧ wr = W) (fun _ i _ => 3 - (intOf i).toNat)
    case atStart => exact ⟨0, rfl, by omega, rfl, rfl⟩
    case round =>
      obtain ⟨k, rfl, hk, rfl, rfl⟩ := hrel
      have hk : k = 0 ∨ k = 1 ∨ k = 2 ∨ k = 3 := by omega
      rcases hk with rfl | rfl | rfl | rfl
      · have e : flagsK true true true 0 = 0 := by rfl
        rw [e]
        clear e
        go_wp2
        go_roundw
        case rel => exact ⟨1, rfl, by omega, rfl, by first | trivial | rfl⟩
        case measure => (simp [intOf] <;> omega)
      · have e : flagsK true true true 1 = 1 := by rfl
        rw [e]
        clear e
        go_wp2
        go_roundw
        case rel => exact ⟨2, rfl, by omega, rfl, by first | trivial | rfl⟩
        case measure => (simp [intOf] <;> omega)
      · have e : flagsK true true true 2 = 3 := by rfl
        rw [e]
        clear e
        go_wp2
        go_roundw
        case rel => exact ⟨3, rfl, by omega, rfl, by first | trivial | rfl⟩
        case measure => (simp [intOf] <;> omega)
      · have e : flagsK true true true 3 = 19 := by rfl
        rw [e]
        clear e
        go_wp2
        go_ret
        exact ⟨by rfl, HB.out⟩
def corn (o : Bool) (b : Bx) : List Int := MWkb.nm b.lx 8 o ++ (MWkb.nm b.hx 8 o ++ (MWkb.nm b.ly 8 o ++ MWkb.nm b.hy 8 o))
theorem corn_len (o : Bool) (b : Bx) : (corn o b).length = 32 := by unfold corn; simp only [List.length_append, MWkb.nm8]
end Go.Proofs.YtfknhpgelleenaaDoor.K
end
section
namespace Go.Proofs.YtfknhpgelleenaaDoor.K
open Go Go.RowKit Go.Proofs.YtfknhpgelleenaaDoorW.PrintWords Go.Proofs.YtfknhpgelleenaaDoorW.PrintLast Go.Proofs.YtfknhpgelleenaaDoorW.PrintMore
set_option linter.unusedVariables false
set_option linter.unusedSimpArgs false
open Go.Proofs.YtfknhpgelleenaaDoor.MBox (Bx)
theorem idx4 (a b c d : Int) (w : World) : (Instr.index 99 (.agg #[.int .i64 a, .int .i64 b, .int .i64 c, .int .i64 d]) (.int .i64 0)).run Tryd.prog w = .ok (.int .i64 a) w ∧ (Instr.index 99 (.agg #[.int .i64 a, .int .i64 b, .int .i64 c, .int .i64 d]) (.int .i64 1)).run Tryd.prog w = .ok (.int .i64 b) w ∧ (Instr.index 99 (.agg #[.int .i64 a, .int .i64 b, .int .i64 c, .int .i64 d]) (.int .i64 2)).run Tryd.prog w = .ok (.int .i64 c) w ∧ (Instr.index 99 (.agg #[.int .i64 a, .int .i64 b, .int .i64 c, .int .i64 d]) (.int .i64 3)).run Tryd.prog w = .ok (.int .i64 d) w := by
  refine ⟨?_, ?_, ?_, ?_⟩ <;> simp [Instr.index, go_sem, run_underlying Tryd.underlying99, Tryd.underlying99, Tryd.underlying3, run_underlying Tryd.underlying3]
def cornK (o : Bool) (b : Bx) (k : Nat) : List Int := match k with
  | 0 => []
  | 1 => MWkb.nm b.lx 8 o
  | 2 => MWkb.nm b.lx 8 o ++ MWkb.nm b.hx 8 o
  | 3 => MWkb.nm b.lx 8 o ++ MWkb.nm b.hx 8 o ++ MWkb.nm b.ly 8 o
  | _ => MWkb.nm b.lx 8 o ++ MWkb.nm b.hx 8 o ++ MWkb.nm b.ly 8 o ++ MWkb.nm b.hy 8 o
set_option maxHeartbeats 2000000 in
set_option maxRecDepth 100000 in
theorem corners_calls (b : Bx) (o : Bool) (w : World) :
    Calls Tryd.prog 66 #[.agg #[.bool b.no, .int .i64 b.lx, .int .i64 b.ly, .int .i64 b.hx, .int .i64 b.hy], .bool o] w fun e w' => ∃ v, e = .returned v ∧ Hid (RB w w' v (corn o b)) ∧ Hid (Bel w w') := by
  obtain ⟨lx, hlx⟩ : ∃ x, b.lx = x := ⟨_, rfl⟩
  obtain ⟨ly, hly⟩ : ∃ x, b.ly = x := ⟨_, rfl⟩
  obtain ⟨hx, hhx⟩ : ∃ x, b.hx = x := ⟨_, rfl⟩
  obtain ⟨hy, hhy⟩ : ∃ x, b.hy = x := ⟨_, rfl⟩
  have hc : corn o b = MWkb.nm lx 8 o ++ MWkb.nm hx 8 o ++ MWkb.nm ly 8 o ++ MWkb.nm hy 8 o := by unfold corn; rw [hlx, hly, hhx, hhy]; simp
  have H1 := Lib.hid hlx
  have H2 := Lib.hid hly
  have H3 := Lib.hid hhx
  have H4 := Lib.hid hhy
  rw [hlx, hly, hhx, hhy]
  have HC := Lib.hid hc
  obtain ⟨X, hX⟩ : ∃ X, corn o b = X := ⟨_, rfl⟩
  rw [hX] at HC ⊢
  obtain ⟨nb, hnb⟩ : ∃ x, b.no = x := ⟨_, rfl⟩
  rw [hnb]
  clear hc hlx hly hhx hhy hX hnb
  have S := Blk.new w #[.bool nb, .int .i64 lx, .int .i64 ly, .int .i64 hx, .int .i64 hy] 67
  have HB : Hid (Bel w (w.alloc (.cells #[.bool nb, .int .i64 lx, .int .i64 ly, .int .i64 hx, .int .i64 hy] 67))) := Lib.hid ((Bel.refl w).alloc (Nat.le_refl _) _)
  go_enter Tryd.func66, Tryd.ntmps66
  go_upto_region 1 with (fail)
  obtain ⟨W, hW⟩ : ∃ X, w.alloc (.cells #[.bool nb, .int .i64 lx, .int .i64 ly, .int .i64 hx, .int .i64 hy] 67) = X := ⟨_, rfl⟩
  rw [hW] at S HB ⊢
  obtain ⟨gs, hg⟩ : ∃ X, w.heap.size = X := ⟨_, rfl⟩
  rw [hg] at S ⊢
  clear hW hg
  obtain ⟨s0, s1, s2, s3, s4⟩ := Blk.cells5 S
  clear S
  go_wp2
  clear s0 s1 s2 s3 s4
  have HI := Lib.hid (fun W' => idx4 lx hx ly hy W')
  go_loopw [5, 21] (fun ov i wr => ∃ k : Nat, i = .int .i64 k ∧ k ≤ 4 ∧ Hid (RB w wr ov (cornK o b k)) ∧ Hid (Bel w wr)) (fun _ i _ => 4 - (intOf i).toNat)
  case atStart => exact ⟨0, rfl, by omega, Lib.hid (RB.nil _ _), HB⟩
  case round =>
    obtain ⟨k, rfl, hk, HRk, HBk⟩ := hrel
    have hk : k = 0 ∨ k = 1 ∨ k = 2 ∨ k = 3 ∨ k = 4 := by omega
    have HLk : Hid ((cornK o b k).length ≤ 32) := Lib.hid (by rcases hk with rfl | rfl | rfl | rfl | rfl <;> simp [cornK, MWkb.nm8])
    obtain ⟨A9, c9, hv9, hc9, hC9⟩ := HRk.out.reads
    obtain ⟨n9, hn9⟩ : ∃ n, (cornK o b k).length = n := ⟨_, rfl⟩
    have HPU : Hid (∀ x, Calls Tryd.prog 68 #[.slice A9 n9 c9, .int .u64 (MWkb.u64 x), .int .i64 8, .bool o] wr fun e w' => ∃ v, e = .returned v ∧ RB wr w' v (cornK o b k ++ MWkb.nm x 8 o) ∧ Below wr.heap.size wr w') := Lib.hid (fun x => by
      have h9 := octet_Put_calls A9 c9 (cornK o b k) (MWkb.u64 x) 8 o wr hC9 hc9 (by have := HLk.out; omega) (MWkb.u64_in _).1 (MWkb.u64_in _).2
      rw [hn9] at h9
      exact h9)
    rw [hn9] at hv9
    clear hn9 hC9 hc9
    subst hv9
    rcases hk with rfl | rfl | rfl | rfl | rfl
    · have hi := fun W' => (HI.out W').1
      have hu := u64w lx
      go_wp2_with (go_at_call 68; refine (HPU.out lx).mono ?_; rintro e w7 ⟨v7, rfl, hr7, hb7⟩)
      go_roundw
      case rel => exact ⟨1, rfl, by omega, Lib.hid (by have h9 := hr7.lower (w0 := w) HBk.out.size; rw [← H1.out] at h9; exact h9), Lib.hid (bthen HBk.out hb7)⟩
      case measure => (simp [intOf] <;> omega)
    · have hi := fun W' => (HI.out W').2.1
      have hu := u64w hx
      go_wp2_with (go_at_call 68; refine (HPU.out hx).mono ?_; rintro e w7 ⟨v7, rfl, hr7, hb7⟩)
      go_roundw
      case rel => exact ⟨2, rfl, by omega, Lib.hid (by have h9 := hr7.lower (w0 := w) HBk.out.size; rw [← H3.out] at h9; exact h9), Lib.hid (bthen HBk.out hb7)⟩
      case measure => (simp [intOf] <;> omega)
    · have hi := fun W' => (HI.out W').2.2.1
      have hu := u64w ly
      go_wp2_with (go_at_call 68; refine (HPU.out ly).mono ?_; rintro e w7 ⟨v7, rfl, hr7, hb7⟩)
      go_roundw
      case rel => exact ⟨3, rfl, by omega, Lib.hid (by have h9 := hr7.lower (w0 := w) HBk.out.size; rw [← H2.out] at h9; exact h9), Lib.hid (bthen HBk.out hb7)⟩
      case measure => (simp [intOf] <;> omega)
    · have hi := fun W' => (HI.out W').2.2.2
      have hu := u64w hy
      go_wp2_with (go_at_call 68; refine (HPU.out hy).mono ?_; rintro e w7 ⟨v7, rfl, hr7, hb7⟩)
      go_roundw
      case rel => exact ⟨4, rfl, by omega, Lib.hid (by have h9 := hr7.lower (w0 := w) HBk.out.size; rw [← H4.out] at h9; exact h9), Lib.hid (bthen HBk.out hb7)⟩
      case measure => (simp [intOf] <;> omega)
    · go_wp2
      go_ret
      exact ⟨_, rfl, by have h9 := HRk.out; rw [HC.out, ← H1.out, ← H2.out, ← H3.out, ← H4.out]; exact h9, HBk.out⟩
set_option maxHeartbeats 2000000 in
set_option maxRecDepth 100000 in
theorem concat_calls (g : Nat) (A0 A1 A2 : Option Addr) (c0 c1 c2 : Nat) (l0 l1 l2 : List Int) (w : World) (hg : Blk w g #[.slice A0 l0.length c0, .slice A1 l1.length c1, .slice A2 l2.length c2] 49)
    (h0 : CB w A0 l0) (h1 : CB w A1 l1) (h2 : CB w A2 l2) (hl : l0.length + l1.length + l2.length < 100000000) :
    Calls Tryd.prog 67 #[.slice (some ⟨g, 0, none⟩) 3 3] w fun e w' => ∃ v, e = .returned v ∧ Hid (RB w w' v (l0 ++ l1 ++ l2)) ∧ Hid (Bel w w') := by
  have HG := Lib.hid hg
  have H0 := Lib.hid h0
  have H1 := Lib.hid h1
  have H2 := Lib.hid h2
  have HL := Lib.hid hl
  clear hg h0 h1 h2 hl
  go_enter Tryd.func67, Tryd.ntmps67
  go_wp2
  go_loopw [3, 8] (fun ov i wr => ∃ k : Nat, i = .int .i64 k ∧ k ≤ 3 ∧ Hid (RB w wr ov (if k = 0 then [] else if k = 1 then l0 else if k = 2 then l0 ++ l1 else l0 ++ l1 ++ l2)) ∧ Hid (Bel w wr)) (fun _ i _ => 3 - (intOf i).toNat)
  case atStart => exact ⟨0, rfl, by omega, Lib.hid (RB.nil _ _), Lib.hid (Bel.refl w)⟩
  case round =>
    obtain ⟨k, rfl, hk, HRk, HBk⟩ := hrel
    have hk : k = 0 ∨ k = 1 ∨ k = 2 ∨ k = 3 := by omega
    obtain ⟨x0, x1, x2⟩ := Blk.cells3 (HG.out.bel HBk.out)
    rcases hk with rfl | rfl | rfl | rfl
    · have HRk : Hid (RB w wr u3 ([] : List Int)) := HRk
      obtain ⟨A9, n9, c9, hv9⟩ := RB.sl HRk.out
      subst hv9
      have HLK : Hid (([] : List Int).length + l0.length < 140737488355328) := Lib.hid (by have := HL.out; (try simp only [List.length_append, List.length_nil]); omega)
      have HCK := Lib.hid (H0.out.below HBk.out)
      go_wp2_with (at_builtin; refine appN (w0 := w) (.tmp 12) (.tmp 13) rfl rfl (.slice A9 n9 c9) ([] : List Int) l0 A0 c0 rfl rfl HRk.out HCK.out HBk.out HLK.out ?_; intro v7 w7 HR7 HB7)
      go_roundw
      case rel => exact ⟨1, rfl, by omega, Lib.hid (by have h9 := HR7.out; rw [List.nil_append] at h9; exact h9), HB7⟩
      case measure => (simp [intOf] <;> omega)
    · have HRk : Hid (RB w wr u3 l0) := HRk
      obtain ⟨A9, n9, c9, hv9⟩ := RB.sl HRk.out
      subst hv9
      have HLK : Hid (l0.length + l1.length < 140737488355328) := Lib.hid (by have := HL.out; (try simp only [List.length_append, List.length_nil]); omega)
      have HCK := Lib.hid (H1.out.below HBk.out)
      go_wp2_with (at_builtin; refine appN (w0 := w) (.tmp 12) (.tmp 13) rfl rfl (.slice A9 n9 c9) l0 l1 A1 c1 rfl rfl HRk.out HCK.out HBk.out HLK.out ?_; intro v7 w7 HR7 HB7)
      go_roundw
      case rel => exact ⟨2, rfl, by omega, Lib.hid (by have h9 := HR7.out; exact h9), HB7⟩
      case measure => (simp [intOf] <;> omega)
    · have HRk : Hid (RB w wr u3 (l0 ++ l1)) := HRk
      obtain ⟨A9, n9, c9, hv9⟩ := RB.sl HRk.out
      subst hv9
      have HLK : Hid ((l0 ++ l1).length + l2.length < 140737488355328) := Lib.hid (by have := HL.out; (try simp only [List.length_append, List.length_nil]); omega)
      have HCK := Lib.hid (H2.out.below HBk.out)
      go_wp2_with (at_builtin; refine appN (w0 := w) (.tmp 12) (.tmp 13) rfl rfl (.slice A9 n9 c9) (l0 ++ l1) l2 A2 c2 rfl rfl HRk.out HCK.out HBk.out HLK.out ?_; intro v7 w7 HR7 HB7)
      go_roundw
      case rel => exact ⟨3, rfl, by omega, Lib.hid (by have h9 := HR7.out; exact h9), HB7⟩
      case measure => (simp [intOf] <;> omega)
    · go_wp2
      go_ret
      exact ⟨_, rfl, HRk.out, HBk.out⟩
end Go.Proofs.YtfknhpgelleenaaDoor.K
end
