/- perform, when a tape is loaded. -/
import Derived.Test.YtbbokikjpabfkaaMoveB
namespace Go.Proofs.Ytbbokikjpabfkaa
open Go.RowKit

section
variable {W w w' : World} {F : List SA} {tb : Nat} {name : ByteArray} {s : TP}
set_option maxHeartbeats 8000000 in
theorem perf_move (op : Int) (A : Option Addr) (n c : Nat) (hop : op = 2 ∨ op = 55 ∨ op = 12 ∨ op = 39 ∨ op = 63 ∨ op = 47) (hl : s.loaded = true) (S : SL W (tapeS tb name s :: F) w) (hp : s.pos ≤ s.bs.length) (hf : Fit s.bs) :
    Calls Try.prog 32 #[.pointer (some ⟨tb, 0, none⟩), .int .i64 op, .slice A n c] w fun e w' => RetS W (tapeS tb name (tpMove s op).1 :: F) (tpMove s op).2 e w' := by
  obtain ⟨v, lp, S1⟩ := tapeS_open S
  rw [hl] at S1
  obtain ⟨L, K, z⟩ := S1.look
  have H1 := Lib.hid (S.allocC #[.slice none 0 0, .int .i64 0, .int .i64 0] 31)
  have HM := Lib.hid (move_any (name := name) (F := cel w.heap.size #[.slice none 0 0, .int .i64 0, .int .i64 0] 31 :: F) op hop H1.out.s1 hp hf)
  clear S S1
  generalize hr : tpMove s op = r at HM ⊢
  obtain ⟨s2, rd, st, sn⟩ := r
  dsimp only at *
  clear hr
  rcases hop with rfl | rfl | rfl | rfl | rfl | rfl
  all_goals
    go_enter Try.func32, Try.ntmps32
    go_wp2_with (refine HM.out.mono ?_; rintro e w4 ⟨A4, c4, rfl, S4⟩; have H4 := Lib.hid S4.s2; clear S4; obtain ⟨g3, g4, g5⟩ := H4.out.look)
    refine bodyPost_ret (v := .agg #[.slice A4 rd.length c4, .int .i64 (st : Int), .int .i64 (sn : Int)]) (by simp [results, Try.results32, go_sem, g3]) rfl ?_
    exact ⟨A4, c4, rfl, H4.out.set3.drop⟩
end
end Go.Proofs.Ytbbokikjpabfkaa
