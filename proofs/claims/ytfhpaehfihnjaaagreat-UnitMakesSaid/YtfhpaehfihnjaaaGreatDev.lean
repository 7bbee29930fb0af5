/- The devices' methods behind their interface. -/
import Derived.Test.YtfhpaehfihnjaaaGreatSetX
import Derived.Test.YtfhpaehfihnjaaaGreatDDo
import Derived.Test.YtfhpaehfihnjaaaGreatDNu
import Derived.Test.YtfhpaehfihnjaaaGreatTD
import Derived.Test.YtfhpaehfihnjaaaGreatUPa
import Derived.Test.YtfhpaehfihnjaaaGreatURa
set_option maxRecDepth 100000
namespace Go.Proofs.YtfhpaehfihnjaaaGreat
open Go.RowKit
def RetE (W : World) (F : List SA) (r : Rep) (e : Ending) (w' : World) : Prop :=
  ∃ A c, e = .returned (.agg #[.slice A r.1.length c, .int .i64 r.2.1, .int .i64 r.2.2]) ∧ SL W (rowS 5 1 (.slice A r.1.length c) r.1.length (Lib.byteCells r.1) :: F) w'
theorem RetE.of {W w' : World} {F : List SA} {st sn : Int} (S : SL W F w') : RetE W F ([], st, sn) (.returned (.agg #[.slice none 0 0, .int .i64 st, .int .i64 sn])) w' := ⟨none, 0, rfl, S.nil _ _⟩
theorem RetE.conv {W w' : World} {F : List SA} {r r' : Rep} {e : Ending} (h : r = r') (R : RetE W F r e w') : RetE W F r' e w' := h ▸ R
def doF : Dev → Nat
  | .reader .. => 189
  | .punch .. => 196
  | .printer .. => 199
  | .tape .. => 174
  | .disk .. => 213
def upF : Dev → Nat
  | .reader .. => 190
  | .punch .. => 197
  | .printer .. => 200
  | .tape .. => 175
  | .disk .. => 214
theorem en_do (d : Dev) (args : Array Value) (w : World) : (callFunc (doF d) args).run Tryz.prog w = .ok (.enter (doF d) args) w := by cases d <;> rfl
theorem en_up (d : Dev) (args : Array Value) (w : World) : (callFunc (upF d) args).run Tryz.prog w = .ok (.enter (upF d) args) w := by cases d <;> rfl
section
variable {W w : World} {F : List SA} {db : Nat} {d : Dev} {k : Nat}
theorem dev_do (op : Int) (A : Option Addr) (l : List UInt8) (c : Nat) (hd : D.CardB W F A l c) (hz : l.length ≤ 1073741824) (ok : d.ok k) (hk : k ≤ 10000000) (S : SL W (devS db d :: F) w) :
    Calls Tryz.prog (doF d) #[.pointer (some ⟨db, 0, none⟩), .int .i64 op, .slice A l.length c] w (RetE W (devS db (d.act op l).1 :: F) (d.act op l).2) := by
  have hm : l.length ≤ maxLen := by unfold maxLen; omega
  have hr : Rd W F A (Lib.byteCells l) := fun w2 S2 => (hd w2 S2).1
  have hlc : l.length ≤ c := (hd w S.drop).2.1
  cases d with
  | reader se tk st cs => exact U.rddo_any db se tk st cs op A l c S hr.cons hm ok
  | punch se cs => exact U.pundo_any db se cs op A l c S hr.cons hlc hm ok.2.1 ok.1
  | printer s => exact U.prdo_any op A l c hr hlc hm ⟨ok.1, ok.2.1, by have := ok.2.2; omega⟩ S
  | tape n s => exact T.do_any op A l c ok.1 ok.2.1 S hr hz
  | disk s => exact D.do_any op A l c hd ok S
theorem dev_up (ok : d.ok k) (S : SL W (devS db d :: F) w) :
    Calls Tryz.prog (upF d) #[.pointer (some ⟨db, 0, none⟩)] w fun e w' => e = .returned (.tuple #[]) ∧ SL W (devS db d.power :: F) w' := by
  cases d with
  | reader se tk st cs => exact U.rpower_any db se tk st cs S
  | punch se cs => exact U.punpower_any db se cs S
  | printer s => exact U.prpower_any S
  | tape n s => exact T.power_any ok.1 S
  | disk s => exact D.power_any ok S
end
end Go.Proofs.YtfhpaehfihnjaaaGreat
