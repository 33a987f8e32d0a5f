/- Reference systems and flags of blobs. -/
import Derived.Test.YtfknhpgelleenaaDoorKB
import Derived.Handy
import Derived.Test.YtfknhpgelleenaaDoorKM
import Derived.Test.YtfknhpgelleenaaDoorMWkb
import Derived.IntWalk
namespace Go.Proofs.YtfknhpgelleenaaDoor.K
open Go Go.RowKit Go.Proofs.YtfknhpgelleenaaDoorW.PrintWords Go.Proofs.YtfknhpgelleenaaDoorW.PrintLast Go.Proofs.YtfknhpgelleenaaDoorW.PrintMore
set_option linter.unusedVariables false
set_option linter.unusedSimpArgs false
open Go.Proofs.YtfknhpgelleenaaDoor.MBox (Bx)
def srsOk (n : Int) : Bool := decide (-2147483648 ≤ n) && decide (n ≤ 2147483647)
theorem isSrs_calls (n : Int) (w : World) : Calls Tryd.prog 63 #[.int .i64 n] w fun e w' => e = .returned (.bool (srsOk n)) ∧ w' = w := by
  obtain ⟨r, hr⟩ : ∃ r, srsOk n = r := ⟨_, rfl⟩
  rw [hr]
  unfold srsOk at hr
  have HR := Lib.hid hr
  clear hr
  cases h1 : decide ((-2147483648 : Int) ≤ n)
  all_goals
    have H1 := Lib.hid h1
    go_enter Tryd.func63, Tryd.ntmps63
    go_wp2
    go_ret
    exact ⟨by have h := HR.out; rw [H1.out] at h; rw [← h]; first | rfl | simp, rfl⟩
theorem rsrs_calls (n : Int) (w : World) : Calls Tryd.prog 69 #[.int .i64 n] w fun e w' => e = .returned (.bool (srsOk n)) ∧ w' = w := by
  obtain ⟨r, hr⟩ : ∃ r, srsOk n = r := ⟨_, rfl⟩
  rw [hr]
  unfold srsOk at hr
  have HR := Lib.hid hr
  clear hr
  cases h1 : decide ((-2147483648 : Int) ≤ n)
  all_goals
    have H1 := Lib.hid h1
    go_enter Tryd.func69, Tryd.ntmps69
    go_wp2
    go_ret
    exact ⟨by have h := HR.out; rw [H1.out] at h; rw [← h]; first | rfl | simp, rfl⟩
def flagsV (b0 b1 b2 : Bool) : Int := (if b0 then 1 else 0) + (if b1 then 2 else 0) + (if b2 then 16 else 0)
def flagsK (b0 b1 b2 : Bool) (k : Nat) : Int := (if b0 && decide (0 < k) then 1 else 0) + (if b1 && decide (1 < k) then 2 else 0) + (if b2 && decide (2 < k) then 16 else 0)
set_option maxHeartbeats 2000000 in
set_option maxRecDepth 100000 in
theorem flags_calls (b0 b1 b2 : Bool) (g : Nat) (w : World) (hg : Blk w g #[.bool b0, .bool b1, .bool b2] 4) :
    Calls Tryd.prog 65 #[.slice (some ⟨g, 0, none⟩) 3 3] w fun e w' => e = .returned (.int .u8 (flagsV b0 b1 b2)) ∧ Bel w w' := by
  have HG := Lib.hid hg
  have R := Blk.new w #[.int .u8 1, .int .u8 2, .int .u8 16] 126
  have HB : Hid (Bel w (w.alloc (.cells #[.int .u8 1, .int .u8 2, .int .u8 16] 126))) := Lib.hid ((Bel.refl w).alloc (Nat.le_refl _) _)
  clear hg
  cases b0 <;> cases b1 <;> cases b2
  · skip
    go_enter Tryd.func65, Tryd.ntmps65
    go_upto_region 2 with (fail)
    obtain ⟨W, hW⟩ : ∃ X, w.alloc (.cells #[.int .u8 1, .int .u8 2, .int .u8 16] 126) = X := ⟨_, rfl⟩
    rw [hW] at R HB ⊢
    obtain ⟨gr, hr⟩ : ∃ X, w.heap.size = X := ⟨_, rfl⟩
    rw [hr] at R ⊢
    clear hW hr
    obtain ⟨c0, c1, c2⟩ := Blk.cells3 (HG.out.bel HB.out)
    obtain ⟨r0, r1, r2⟩ := Blk.cells3 R
    clear R
    go_wp2
    go_loopw [4, 10] (fun fv i wr => ∃ k : Nat, i = .int .i64 k ∧ k ≤ 3 ∧ fv = .int .u8 (flagsK false false false k) ∧ wr = W) (fun _ i _ => 3 - (intOf i).toNat)
    case atStart => exact ⟨0, rfl, by omega, rfl, rfl⟩
    case round =>
      obtain ⟨k, rfl, hk, rfl, rfl⟩ := hrel
      have hk : k = 0 ∨ k = 1 ∨ k = 2 ∨ k = 3 := by omega
      rcases hk with rfl | rfl | rfl | rfl
      · have e : flagsK false false false 0 = 0 := by rfl
        rw [e]
        clear e
        go_wp2
        go_roundw
        case rel => exact ⟨1, rfl, by omega, rfl, by first | trivial | rfl⟩
        case measure => (simp [intOf] <;> omega)
      · have e : flagsK false false false 1 = 0 := by rfl
        rw [e]
        clear e
        go_wp2
        go_roundw
        case rel => exact ⟨2, rfl, by omega, rfl, by first | trivial | rfl⟩
        case measure => (simp [intOf] <;> omega)
      · have e : flagsK false false false 2 = 0 := by rfl
        rw [e]
        clear e
        go_wp2
        go_roundw
        case rel => exact ⟨3, rfl, by omega, rfl, by first | trivial | rfl⟩
        case measure => (simp [intOf] <;> omega)
      · have e : flagsK false false false 3 = 0 := by rfl
        rw [e]
        clear e
        go_wp2
        go_ret
        exact ⟨by rfl, HB.out⟩
  · skip
    go_enter Tryd.func65, Tryd.ntmps65
    go_upto_region 2 with (fail)
    obtain ⟨W, hW⟩ : ∃ X, w.alloc (.cells #[.int .u8 1, .int .u8 2, .int .u8 16] 126) = X := ⟨_, rfl⟩
    rw [hW] at R HB ⊢
    obtain ⟨gr, hr⟩ : ∃ X, w.heap.size = X := ⟨_, rfl⟩
    rw [hr] at R ⊢
    clear hW hr
    obtain ⟨c0, c1, c2⟩ := Blk.cells3 (HG.out.bel HB.out)
    obtain ⟨r0, r1, r2⟩ := Blk.cells3 R
    clear R
    go_wp2
    go_loopw [4, 10] (fun fv i wr => ∃ k : Nat, i = .int .i64 k ∧ k ≤ 3 ∧ fv = .int .u8 (flagsK false false true k) ∧ wr = W) (fun _ i _ => 3 - (intOf i).toNat)
    case atStart => exact ⟨0, rfl, by omega, rfl, rfl⟩
    case round =>
      obtain ⟨k, rfl, hk, rfl, rfl⟩ := hrel
      have hk : k = 0 ∨ k = 1 ∨ k = 2 ∨ k = 3 := by omega
      rcases hk with rfl | rfl | rfl | rfl
      · have e : flagsK false false true 0 = 0 := by rfl
        rw [e]
        clear e
        go_wp2
        go_roundw
        case rel => exact ⟨1, rfl, by omega, rfl, by first | trivial | rfl⟩
        case measure => (simp [intOf] <;> omega)
      · have e : flagsK false false true 1 = 0 := by rfl
        rw [e]
        clear e
        go_wp2
        go_roundw
        case rel => exact ⟨2, rfl, by omega, rfl, by first | trivial | rfl⟩
        case measure => (simp [intOf] <;> omega)
      · have e : flagsK false false true 2 = 0 := by rfl
        rw [e]
        clear e
        go_wp2
        go_roundw
        case rel => exact ⟨3, rfl, by omega, rfl, by first | trivial | rfl⟩
        case measure => (simp [intOf] <;> omega)
      · have e : flagsK false false true 3 = 16 := by rfl
        rw [e]
        clear e
        go_wp2
        go_ret
        exact ⟨by rfl, HB.out⟩
  · skip
    go_enter Tryd.func65, Tryd.ntmps65
    go_upto_region 2 with (fail)
    obtain ⟨W, hW⟩ : ∃ X, w.alloc (.cells #[.int .u8 1, .int .u8 2, .int .u8 16] 126) = X := ⟨_, rfl⟩
    rw [hW] at R HB ⊢
    obtain ⟨gr, hr⟩ : ∃ X, w.heap.size = X := ⟨_, rfl⟩
    rw [hr] at R ⊢
    clear hW hr
    obtain ⟨c0, c1, c2⟩ := Blk.cells3 (HG.out.bel HB.out)
    obtain ⟨r0, r1, r2⟩ := Blk.cells3 R
    clear R
    go_wp2
    go_loopw [4, 10] (fun fv i wr => ∃ k : Nat, i = .int .i64 k ∧ k ≤ 3 ∧ fv = .int .u8 (flagsK false true false k) ∧ wr = W) (fun _ i _ => 3 - (intOf i).toNat)
    case atStart => exact ⟨0, rfl, by omega, rfl, rfl⟩
    case round =>
      obtain ⟨k, rfl, hk, rfl, rfl⟩ := hrel
      have hk : k = 0 ∨ k = 1 ∨ k = 2 ∨ k = 3 := by omega
      rcases hk with rfl | rfl | rfl | rfl
      · have e : flagsK false true false 0 = 0 := by rfl
        rw [e]
        clear e
        go_wp2
        go_roundw
        case rel => exact ⟨1, rfl, by omega, rfl, by first | trivial | rfl⟩
        case measure => (simp [intOf] <;> omega)
      · have e : flagsK false true false 1 = 0 := by rfl
        rw [e]
        clear e
        go_wp2
        go_roundw
        case rel => exact ⟨2, rfl, by omega, rfl, by first | trivial | rfl⟩
        case measure => (simp [intOf] <;> omega)
      · have e : flagsK false true false 2 = 2 := by rfl
        rw [e]
        clear e
        go_wp2
        go_roundw
        case rel => exact ⟨3, rfl, by omega, rfl, by first | trivial | rfl⟩
        case measure => (simp [intOf] <;> omega)
      · have e : flagsK false true false 3 = 2 := by rfl
        rw [e]
        clear e
        go_wp2
        go_ret
        exact ⟨by rfl, HB.out⟩
  · skip
    go_enter Tryd.func65, Tryd.ntmps65
    go_upto_region 2 with (fail)
    obtain ⟨W, hW⟩ : ∃ X, w.alloc (.cells #[.int .u8 1, .int .u8 2, .int .u8 16] 126) = X := ⟨_, rfl⟩
    rw [hW] at R HB ⊢
    obtain ⟨gr, hr⟩ : ∃ X, w.heap.size = X := ⟨_, rfl⟩
    rw [hr] at R ⊢
    clear hW hr
    obtain ⟨c0, c1, c2⟩ := Blk.cells3 (HG.out.bel HB.out)
    obtain ⟨r0, r1, r2⟩ := Blk.cells3 R
    clear R
    go_wp2
    go_loopw [4, 10] (fun fv i wr => ∃ k : Nat, i = .int .i64 k ∧ k ≤ 3 ∧ fv = .int .u8 (flagsK false true true k) ∧ wr = W) (fun _ i _ => 3 - (intOf i).toNat)
    case atStart => exact ⟨0, rfl, by omega, rfl, rfl⟩
    case round =>
      obtain ⟨k, rfl, hk, rfl, rfl⟩ := hrel
      have hk : k = 0 ∨ k = 1 ∨ k = 2 ∨ k = 3 := by omega
      rcases hk with rfl | rfl | rfl | rfl
      · have e : flagsK false true true 0 = 0 := by rfl
        rw [e]
        clear e
        go_wp2
        go_roundw
        case rel => exact ⟨1, rfl, by omega, rfl, by first | trivial | rfl⟩
        case measure => (simp [intOf] <;> omega)
      · have e : flagsK false true true 1 = 0 := by rfl
        rw [e]
        clear e
        go_wp2
        go_roundw
        case rel => exact ⟨2, rfl, by omega, rfl, by first | trivial | rfl⟩
        case measure => (simp [intOf] <;> omega)
      · have e : flagsK false true true 2 = 2 := by rfl
        rw [e]
        clear e
        go_wp2
        go_roundw
        case rel => exact ⟨3, rfl, by omega, rfl, by first | trivial | rfl⟩
        case measure => (simp [intOf] <;> omega)
      · have e : flagsK false true true 3 = 18 := by rfl
        rw [e]
        clear e
        go_wp2
        go_ret
        exact ⟨by rfl, HB.out⟩
  · skip
    go_enter Tryd.func65, Tryd.ntmps65
    go_upto_region 2 with (fail)
    obtain ⟨W, hW⟩ : ∃ X, w.alloc (.cells #[.int .u8 1, .int .u8 2, .int .u8 16] 126) = X := ⟨_, rfl⟩
    rw [hW] at R HB ⊢
    obtain ⟨gr, hr⟩ : ∃ X, w.heap.size = X := ⟨_, rfl⟩
    rw [hr] at R ⊢
    clear hW hr
    obtain ⟨c0, c1, c2⟩ := Blk.cells3 (HG.out.bel HB.out)
    obtain ⟨r0, r1, r2⟩ := Blk.cells3 R
    clear R
    go_wp2
    go_loopw [4, 10] (fun fv i wr => ∃ k : Nat, i = .int .i64 k ∧ k ≤ 3 ∧ fv = .int .u8 (flagsK true false false k) ∧ wr = W) (fun _ i _ => 3 - (intOf i).toNat)
    case atStart => exact ⟨0, rfl, by omega, rfl, rfl⟩
    case round =>
      obtain ⟨k, rfl, hk, rfl, rfl⟩ := hrel
      have hk : k = 0 ∨ k = 1 ∨ k = 2 ∨ k = 3 := by omega
      rcases hk with rfl | rfl | rfl | rfl
      · have e : flagsK true false false 0 = 0 := by rfl
        rw [e]
        clear e
        go_wp2
        go_roundw
        case rel => exact ⟨1, rfl, by omega, rfl, by first | trivial | rfl⟩
        case measure => (simp [intOf] <;> omega)
      · have e : flagsK true false false 1 = 1 := by rfl
        rw [e]
        clear e
        go_wp2
        go_roundw
        case rel => exact ⟨2, rfl, by omega, rfl, by first | trivial | rfl⟩
        case measure => (simp [intOf] <;> omega)
      · have e : flagsK true false false 2 = 1 := by rfl
        rw [e]
        clear e
        go_wp2
        go_roundw
        case rel => exact ⟨3, rfl, by omega, rfl, by first | trivial | rfl⟩
        case measure => (simp [intOf] <;> omega)
      · have e : flagsK true false false 3 = 1 := by rfl
        rw [e]
        clear e
        go_wp2
        go_ret
        exact ⟨by rfl, HB.out⟩
  · skip
    go_enter Tryd.func65, Tryd.ntmps65
    go_upto_region 2 with (fail)
    obtain ⟨W, hW⟩ : ∃ X, w.alloc (.cells #[.int .u8 1, .int .u8 2, .int .u8 16] 126) = X := ⟨_, rfl⟩
    rw [hW] at R HB ⊢
    obtain ⟨gr, hr⟩ : ∃ X, w.heap.size = X := ⟨_, rfl⟩
    rw [hr] at R ⊢
    clear hW hr
    obtain ⟨c0, c1, c2⟩ := Blk.cells3 (HG.out.bel HB.out)
    obtain ⟨r0, r1, r2⟩ := Blk.cells3 R
    clear R
    go_wp2
    go_loopw [4, 10] (fun fv i wr => ∃ k : Nat, i = .int .i64 k ∧ k ≤ 3 ∧ fv = .int .u8 (flagsK true false true k) ∧ wr = W) (fun _ i _ => 3 - (intOf i).toNat)
    case atStart => exact ⟨0, rfl, by omega, rfl, rfl⟩
    case round =>
      obtain ⟨k, rfl, hk, rfl, rfl⟩ := hrel
      have hk : k = 0 ∨ k = 1 ∨ k = 2 ∨ k = 3 := by omega
      rcases hk with rfl | rfl | rfl | rfl
      · have e : flagsK true false true 0 = 0 := by rfl
        rw [e]
        clear e
        go_wp2
        go_roundw
        case rel => exact ⟨1, rfl, by omega, rfl, by first | trivial | rfl⟩
        case measure => (simp [intOf] <;> omega)
      · have e : flagsK true false true 1 = 1 := by rfl
        rw [e]
        clear e
        go_wp2
        go_roundw
        case rel => exact ⟨2, rfl, by omega, rfl, by first | trivial | rfl⟩
        case measure => (simp [intOf] <;> omega)
      · have e : flagsK true false true 2 = 1 := by rfl
        rw [e]
        clear e
        go_wp2
        go_roundw
        case rel => exact ⟨3, rfl, by omega, rfl, by first | trivial | rfl⟩
        case measure => (simp [intOf] <;> omega)
      · have e : flagsK true false true 3 = 17 := by rfl
        rw [e]
        clear e
        go_wp2
        go_ret
        exact ⟨by rfl, HB.out⟩
  · skip
    go_enter Tryd.func65, Tryd.ntmps65
    go_upto_region 2 with (fail)
    obtain ⟨W, hW⟩ : ∃ X, w.alloc (.cells #[.int .u8 1, .int .u8 2, .int .u8 16] 126) = X := ⟨_, rfl⟩
    rw [hW] at R HB ⊢
    obtain ⟨gr, hr⟩ : ∃ X, w.heap.size = X := ⟨_, rfl⟩
    rw [hr] at R ⊢
    clear hW hr
    obtain ⟨c0, c1, c2⟩ := Blk.cells3 (HG.out.bel HB.out)
    obtain ⟨r0, r1, r2⟩ := Blk.cells3 R
    clear R
    go_wp2
    go_loopw [4, 10] (fun fv i wr => ∃ k : Nat, i = .int .i64 k ∧ k ≤ 3 ∧ fv = .int .u8 (flagsK true true false k) ∧ wr = W) (fun _ i _ => 3 - (intOf i).toNat)
    case atStart => exact ⟨0, rfl, by omega, rfl, rfl⟩
    case round =>
      obtain ⟨k, rfl, hk, rfl, rfl⟩ := hrel
      have hk : k = 0 ∨ k = 1 ∨ k = 2 ∨ k = 3 := by omega
      rcases hk with rfl | rfl | rfl | rfl
      · have e : flagsK true true false 0 = 0 := by rfl
        rw [e]
        clear e
        go_wp2
        go_roundw
        case rel => exact ⟨1, rfl, by omega, rfl, by first | trivial | rfl⟩
        case measure => (simp [intOf] <;> omega)
      · have e : flagsK true true false 1 = 1 := by rfl
        rw [e]
        clear e
        go_wp2
        go_roundw
        case rel => exact ⟨2, rfl, by omega, rfl, by first | trivial | rfl⟩
        case measure => (simp [intOf] <;> omega)
      · have e : flagsK true true false 2 = 3 := by rfl
        rw [e]
        clear e
        go_wp2
        go_roundw
        case rel => exact ⟨3, rfl, by omega, rfl, by first | trivial | rfl⟩
        case measure => (simp [intOf] <;> omega)
      · have e : flagsK true true false 3 = 3 := by rfl
        rw [e]
        clear e
        go_wp2
        go_ret
        exact ⟨by rfl, HB.out⟩
  · skip
    go_enter Tryd.func65, Tryd.ntmps65
    go_upto_region 2 with (fail)
    obtain ⟨W, hW⟩ : ∃ X, w.alloc (.cells #[.int .u8 1, .int .u8 2, .int .u8 16] 126) = X := ⟨_, rfl⟩
    rw [hW] at R HB ⊢
    obtain ⟨gr, hr⟩ : ∃ X, w.heap.size = X := ⟨_, rfl⟩
    rw [hr] at R ⊢
    clear hW hr
    obtain ⟨c0, c1, c2⟩ := Blk.cells3 (HG.out.bel HB.out)
    obtain ⟨r0, r1, r2⟩ := Blk.cells3 R
    clear R
    go_wp2
    go_loopw [4, 10] (fun fv i wr => ∃ k : Nat, i = .int .i64 k ∧ k ≤ 3 ∧ fv = .int .u8 (flagsK true true true k) ∧ wr = W) (fun _ i _ => 3 - (intOf i).toNat)
    case atStart => exact ⟨0, rfl, by omega, rfl, rfl⟩
    case round =>
      obtain ⟨k, rfl, hk, rfl, rfl⟩ := hrel
      have hk : k = 0 ∨ k = 1 ∨ k = 2 ∨ k = 3 := by omega
      rcases hk with rfl | rfl | rfl | rfl
      · have e : flagsK true true true 0 = 0 := by rfl
        rw [e]
        clear e
        go_wp2
        go_roundw
        case rel => exact ⟨1, rfl, by omega, rfl, by first | trivial | rfl⟩
        case measure => (simp [intOf] <;> omega)
      · have e : flagsK true true true 1 = 1 := by rfl
        rw [e]
        clear e
        go_wp2
        go_roundw
        case rel => exact ⟨2, rfl, by omega, rfl, by first | trivial | rfl⟩
        case measure => (simp [intOf] <;> omega)
      · have e : flagsK true true true 2 = 3 := by rfl
        rw [e]
        clear e
        go_wp2
        go_roundw
        case rel => exact ⟨3, rfl, by omega, rfl, by first | trivial | rfl⟩
        case measure => (simp [intOf] <;> omega)
      · have e : flagsK true true true 3 = 19 := by rfl
        rw [e]
        clear e
        go_wp2
        go_ret
        exact ⟨by rfl, HB.out⟩
def corn (o : Bool) (b : Bx) : List Int := MWkb.nm b.lx 8 o ++ (MWkb.nm b.hx 8 o ++ (MWkb.nm b.ly 8 o ++ MWkb.nm b.hy 8 o))
theorem corn_len (o : Bool) (b : Bx) : (corn o b).length = 32 := by unfold corn; simp only [List.length_append, MWkb.nm8]

end Go.Proofs.YtfknhpgelleenaaDoor.K
