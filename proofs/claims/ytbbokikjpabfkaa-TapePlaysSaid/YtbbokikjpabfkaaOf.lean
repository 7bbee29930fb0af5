/- Do, by what perform does. -/
import Derived.Test.YtbbokikjpabfkaaWorks
namespace Go.Proofs.Ytbbokikjpabfkaa
open Go.RowKit

theorem do_of {s s2 : TP} {op : Int} {l : List UInt8} {r : Rep} (h : tpPerform { s with last := none } op l = (s2, r)) (hs : r.2.1 ≠ 14) : tpDo s op l = (s2, r) := by
  unfold tpDo
  rw [h]
  dsimp only
  rw [if_neg hs]
theorem do_of14 {s s2 : TP} {op : Int} {l : List UInt8} {r : Rep} (h : tpPerform { s with last := none } op l = (s2, r)) (hs : r.2.1 = 14) : tpDo s op l = ({ s2 with sense := r.2.2 }, r) := by
  unfold tpDo
  rw [h]
  dsimp only
  rw [if_pos hs]
end Go.Proofs.Ytbbokikjpabfkaa
