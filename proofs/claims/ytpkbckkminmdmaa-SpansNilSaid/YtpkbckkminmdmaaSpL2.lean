/- The walk of SpansNil. -/
import Derived.Test.YtpkbckkminmdmaaSpL1
namespace Go.Proofs.Ytpkbckkminmdmaa
open Go.RowKit
set_option maxRecDepth 100000 in
set_option maxHeartbeats 1000000 in
theorem spansNil_walk (x n : Int) (w : World) (_hx : (Lit.int .u32 x).wf = true) (_hn : (Lit.int .i64 n).wf = true) : Calls Try.prog 16 #[.int .u32 x, .int .i64 n] w (SameV (.bool true) w) := by
  go_enter Try.func16, Try.ntmps16
  go_wp2_with (first
    | (go_at_call 55; refine (sbase_nil _).mono ?_; rintro e w' ⟨rfl, rfl⟩)
    | (go_at_call 67; refine (sadd_nil _ _).mono ?_; rintro e w' ⟨rfl, rfl⟩)
    | (go_at_call 51; refine (shas_nil _ _).mono ?_; rintro e w' ⟨rfl, rfl⟩)
    | (go_at_call 53; refine (scount_nil _).mono ?_; rintro e w' ⟨rfl, rfl⟩)
    | (go_at_call 52; refine (slast_nil _).mono ?_; rintro e w' ⟨rfl, rfl⟩)
    | (go_at_call 54; refine (ssettle_nil _).mono ?_; rintro e w' ⟨rfl, rfl⟩)
    | (go_at_call 71; refine (smove_nil _ _).mono ?_; rintro e w' ⟨rfl, rfl⟩)
    | (go_at_call 49; refine (sgaps_nil _ _).mono ?_; rintro e w1 ⟨A, c, rfl, _, hf1⟩)
    | (go_at_call 47; refine (works4_any _).mono ?_; rintro e w2 ⟨rfl, hf2⟩))
  go_ret
  exact ⟨rfl, hf1.trans hf2⟩
end Go.Proofs.Ytpkbckkminmdmaa
