import Derived.Test.YtheiickihjcdlaaWorks
namespace Go.Proofs.Ytheiickihjcdlaa
open Go.RowKit

set_option maxHeartbeats 1000000 in
theorem walk_ccwDirects (w : World) (op : Int) (_hw : (Lit.int .i64 op).wf = true) :
    Calls Try.prog 3 #[.int .i64 op] w fun e w' => e = .returned (.bool true) ∧ Below w.heap.size w w' := by
  go_enter Try.func3, Try.ntmps3
  go_wp2_with fail
  refine (dir_any op _).mono ?_
  rintro e w1 ⟨rfl, rfl⟩
  go_wp2_with fail
  refine (rdir_any op _).mono ?_
  rintro e w1 ⟨rfl, rfl⟩
  go_wp2_with fail
  refine (works_any _).mono ?_
  rintro e w1 ⟨rfl, b1⟩
  go_wp2
  go_ret
  exact ⟨rfl, b1⟩

end Go.Proofs.Ytheiickihjcdlaa
