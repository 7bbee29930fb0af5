/- UnitNone: the walk. -/
import Derived.Test.YtlbbmfmkhmmikaaGreatNil
import Derived.Test.YtlbbmfmkhmmikaaGreatWk
import Derived.Test.YtlbbmfmkhmmikaaGreatURdA
namespace Go.Proofs.YtlbbmfmkhmmikaaGreat
open Go.RowKit
set_option maxRecDepth 100000 in
set_option maxHeartbeats 16000000 in
theorem walk_unitNone (w : World) (k ad op : Int) (dt : U.CardV) (n m : Int) (_wk : (Lit.int .u8 k).wf = true) (_wa : (Lit.int .i64 ad).wf = true) (_wo : (Lit.int .i64 op).wf = true) (_wn : (Lit.int .i64 n).wf = true) (_wm : (Lit.int .i64 m).wf = true) (_g : U.CardV.good w w.heap.size dt) :
    Calls Tryz.prog 6 #[.agg #[.int .u8 k, .int .i64 ad, .int .i64 op, U.cardV dt, .int .i64 n, .int .i64 m]] w fun e w' => e = .returned (.bool true) ∧ Below w.heap.size w w' := by
  unfold U.cardV
  clear _wk _wa _wo _wn _wm _g
  have HS := Lib.hid ((SL.start w).allocC #[.int .u8 k, .int .i64 ad, .int .i64 op, .slice dt.1 dt.2.1.length dt.2.2, .int .i64 n, .int .i64 m] 62)
  obtain ⟨L, K, z⟩ := HS.out.look
  go_enter Tryz.func6, Tryz.ntmps6
  go_wp2_with fail
  refine (do_nil _ _ _).mono ?_
  rintro e w1 ⟨rfl, b1⟩
  have H1 := Lib.hid (HS.out.grow b1)
  clear b1 HS L K z
  have H2 := Lib.hid (H1.out.allocC #[.slice none 0 0, .int .i64 14, .int .i64 64] 30)
  go_wp2_with fail
  refine (reply_any none none [] 0 0 14 64 _ At.nil_ At.nil_ (by decide)).mono ?_
  rintro e w2 ⟨rfl, b2⟩
  have H3 := Lib.hid (H2.out.grow b2).drop
  obtain ⟨L, K, z⟩ := H3.out.look
  clear b2 H2 H1
  go_wp2_with (first
    | ((with_reducible refine (fail_nil _ _ _).mono ?_); rintro e wx ⟨rfl, rfl⟩)
    | ((with_reducible refine (cut_nil _).mono ?_); rintro e wx ⟨rfl, rfl⟩)
    | ((with_reducible refine up_nil.mono ?_); rintro e wx ⟨rfl, rfl⟩)
    | ((with_reducible refine down_nil.mono ?_); rintro e wx ⟨rfl, rfl⟩)
    | ((with_reducible refine (kind_nil _).mono ?_); rintro e wx ⟨rfl, rfl⟩)
    | ((with_reducible refine addrs_nil.mono ?_); rintro e wx ⟨rfl, rfl⟩)
    | ((with_reducible refine (nilReader _).mono ?_); rintro e wx ⟨rfl, rfl⟩)
    | ((with_reducible refine (nilPunch _).mono ?_); rintro e wx ⟨rfl, rfl⟩)
    | ((with_reducible refine (nilPrinter _).mono ?_); rintro e wx ⟨rfl, rfl⟩)
    | ((with_reducible refine (nilTape _).mono ?_); rintro e wx ⟨rfl, rfl⟩)
    | ((with_reducible refine (nilDisk _).mono ?_); rintro e wx ⟨rfl, rfl⟩))
  refine (works_any H3.out).mono ?_
  rintro e wf ⟨rfl, SF⟩
  have HF := Lib.hid SF
  clear SF H3 L K z
  go_wp2
  go_ret
  exact ⟨rfl, HF.out.below⟩
end Go.Proofs.YtlbbmfmkhmmikaaGreat
