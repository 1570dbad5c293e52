/- Helpers of the statements on spans: no set, works, within, filled; the walk of SpansNil. -/
import Derived.Test.YtpkbckkminmdmaaOpnA
import Derived.Test.YtpkbckkminmdmaaSpW7
import Derived.Laws.StructEq
namespace Go.Proofs.Ytpkbckkminmdmaa
open Go.RowKit Go.Proofs.YtpkbckkminmdmaaW.PrintWords
attribute [local go_sem] alloc_drewN setCell_drewN isMap_alloc isMap_drew isMap_drewN isMap_setCell cell_setMap frozen_setMap setMap_drew setMap_drewN size_setMap

/-! ### no set -/
def SameV (v : Value) (w : World) (e : Ending) (w' : World) : Prop := e = .returned v ∧ Fr (fun _ => False) w w'
theorem sbase_nil (w : World) : Calls Try.prog 55 #[.pointer none] w fun e w' => e = .returned (.int .u32 0) ∧ w = w' := by
  go_enter Try.func55, Try.ntmps55
  go_wp2_with fail
  go_ret
  exact ⟨rfl, rfl⟩
theorem shas_nil (x : Int) (w : World) : Calls Try.prog 51 #[.pointer none, .int .u32 x] w fun e w' => e = .returned (.bool false) ∧ w = w' := by
  go_enter Try.func51, Try.ntmps51
  go_wp2_with (go_at_call 115; refine (smay_nil x _).mono ?_; rintro e w' ⟨rfl, rfl⟩)
  go_ret
  exact ⟨rfl, rfl⟩
theorem sadd_nil (x : Int) (w : World) : Calls Try.prog 67 #[.pointer none, .int .u32 x] w fun e w' => e = .returned (.bool false) ∧ w = w' := by
  go_enter Try.func67, Try.ntmps67
  go_wp2_with (go_at_call 115; refine (smay_nil x _).mono ?_; rintro e w' ⟨rfl, rfl⟩)
  go_ret
  exact ⟨rfl, rfl⟩
theorem scount_nil (w : World) : Calls Try.prog 53 #[.pointer none] w fun e w' => e = .returned (.int .i64 0) ∧ w = w' := by
  go_enter Try.func53, Try.ntmps53
  go_wp2_with fail
  go_ret
  exact ⟨rfl, rfl⟩
theorem slast_nil (w : World) : Calls Try.prog 52 #[.pointer none] w fun e w' => e = .returned (.int .u32 0) ∧ w = w' := by
  go_enter Try.func52, Try.ntmps52
  go_wp2_with (go_at_call 55; refine (sbase_nil _).mono ?_; rintro e w' ⟨rfl, rfl⟩)
  go_ret
  exact ⟨rfl, rfl⟩
theorem ssettle_nil (w : World) : Calls Try.prog 54 #[.pointer none] w fun e w' => e = .returned (.int .i64 0) ∧ w = w' := by
  go_enter Try.func54, Try.ntmps54
  go_wp2_with fail
  go_loopg [2] 0 (fun k v wr => v = .int .i64 0 ∧ wr = w)
  case atStart => exact ⟨rfl, rfl⟩
  case round =>
    obtain ⟨rfl, rfl⟩ := hrel
    go_wp2_with (first
      | (go_at_call 55; refine (sbase_nil _).mono ?_; rintro e w' ⟨rfl, rfl⟩)
      | (go_at_call 51; refine (shas_nil _ _).mono ?_; rintro e w' ⟨rfl, rfl⟩))
    go_ret
    exact ⟨rfl, rfl⟩
theorem smove_nil (x : Int) (w : World) : Calls Try.prog 71 #[.pointer none, .int .u32 x] w fun e w' => e = .returned (.int .i64 0) ∧ w = w' := by
  go_enter Try.func71, Try.ntmps71
  go_wp2_with (go_at_call 115; refine (smay_nil x _).mono ?_; rintro e w' ⟨rfl, rfl⟩)
  go_ret
  exact ⟨rfl, rfl⟩

/-! ### the anchor -/
theorem sgaps_all {w : World} {g mb : Nat} {s : Sp.St} (h : SpAt w g mb s) (most : Int) : Calls Try.prog 49 #[.pointer (some ⟨g, 0, none⟩), .int .i64 most] w (SGapsP (Sp.gaps s most) w) := by
  by_cases hm : most < 1
  · have e : Sp.gaps s most = [] := by unfold Sp.gaps; rw [show most.toNat = 0 by omega, List.take_zero]
    rw [e]
    exact sgaps_few _ _ hm w
  · exact sgaps_any h most (by omega)
def T1 : Sp.St := (Sp.add ⟨4294967295, []⟩ 1).1
def T2 : Sp.St := (Sp.add T1 0).1
def T3 : Sp.St := (Sp.settle T2).1
theorem t1 : Sp.add ⟨4294967295, []⟩ 1 = (T1, true) := by kernel_rfl
theorem t2 : Sp.add T1 1 = (T1, false) := by kernel_rfl
theorem t3 : Sp.add T1 0 = (T2, true) := by kernel_rfl
theorem t4 : T2.ds.length = 2 := by kernel_rfl
theorem t5 : Sp.settle T2 = (T3, 2) := by kernel_rfl
theorem t6 : T3 = ⟨1, []⟩ := by kernel_rfl
set_option maxRecDepth 100000 in
set_option maxHeartbeats 1000000 in
theorem works4_any (w : World) : Calls Try.prog 47 #[] w (SameV (.bool true) w) := by
  go_enter Try.func47, Try.ntmps47
  go_wp2_with fail
  go_at_call 66
  refine (snew_any 4294967295 _ (by decide)).mono ?_
  rintro e w1 ⟨g, mb, rfl, h1, hf1, hg, hmb⟩
  have A1 := sadd_any h1 1 (by decide)
  rw [t1] at A1
  have HA := Lib.hid A1
  have HG := Lib.hid (show w.heap.size ≤ g ∧ w.heap.size ≤ mb from ⟨hg, hmb⟩)
  have HF1 := Lib.hid hf1
  clear A1 h1 hf1 hg hmb
  go_wp2_with fail
  go_at_call 67
  refine HA.out.mono ?_
  rintro e w2 ⟨rfl, h2, hf2⟩
  have A2 := sadd_any h2 1 (by decide)
  rw [t2] at A2
  have HA2 := Lib.hid A2
  clear A2 h2
  dsimp only
  go_wp2_with fail
  go_at_call 67
  refine HA2.out.mono ?_
  rintro e w3 ⟨rfl, h3, hf3⟩
  have A3 := sadd_any h3 0 (by decide)
  rw [t3] at A3
  have HA3 := Lib.hid A3
  clear A3 h3
  dsimp only
  go_wp2_with fail
  go_at_call 67
  refine HA3.out.mono ?_
  rintro e w4 ⟨rfl, h4, hf4⟩
  have A4 := scount_any h4
  rw [t4] at A4
  have A5 := ssettle_any h4
  rw [t5] at A5
  have HA4 := Lib.hid A4
  have HA5 := Lib.hid A5
  clear A4 A5 h4
  dsimp only
  go_wp2_with fail
  go_at_call 53
  refine HA4.out.mono ?_
  rintro e w' ⟨rfl, rfl⟩
  go_wp2_with fail
  go_at_call 54
  refine HA5.out.mono ?_
  rintro e w5 ⟨rfl, h5, hf5⟩
  rw [t6] at h5
  have A6 := sbase_any h5
  have A7 := scount_any h5
  have A8 := slast_any h5
  rw [show Sp.last ⟨1, []⟩ = 1 by kernel_rfl] at A8
  have HA6 := Lib.hid A6
  have HA7 := Lib.hid A7
  have HA8 := Lib.hid A8
  have H5 := Lib.hid h5
  clear A6 A7 A8 h5
  dsimp only
  go_wp2_with (first
    | (go_at_call 55; refine HA6.out.mono ?_; rintro e w' ⟨rfl, rfl⟩)
    | (go_at_call 53; refine HA7.out.mono ?_; rintro e w' ⟨rfl, rfl⟩)
    | (go_at_call 52; refine HA8.out.mono ?_; rintro e w6 ⟨rfl, hf6⟩)
    | (go_at_call 49; refine (sgaps_all (H5.out.fr0 hf6) 9).mono ?_; rintro e w7 ⟨A, c, rfl, hG, hf7⟩; rw [show Sp.gaps ⟨1, []⟩ 9 = [] by kernel_rfl]))
  go_ret
  have hno : ∀ k, FootS g mb k → False ∨ w.heap.size ≤ k := fun k hk => by
    rcases hk with rfl | rfl
    · exact .inr HG.out.1
    · exact .inr HG.out.2
  exact ⟨rfl, ((((((HF1.out.then hf2 hno).then hf3 hno).then hf4 hno).then hf5 hno).trans hf6).trans hf7)⟩
end Go.Proofs.Ytpkbckkminmdmaa
