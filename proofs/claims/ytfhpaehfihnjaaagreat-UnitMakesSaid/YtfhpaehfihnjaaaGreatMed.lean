/- media: every kind. -/
import Derived.Test.YtfhpaehfihnjaaaGreatMedR
import Derived.Test.YtfhpaehfihnjaaaGreatMedP
import Derived.Test.YtfhpaehfihnjaaaGreatMedW
import Derived.Test.YtfhpaehfihnjaaaGreatMedT
import Derived.Test.YtfhpaehfihnjaaaGreatMedD
namespace Go.Proofs.YtfhpaehfihnjaaaGreat
open Go.RowKit
section
variable {W w : World} {F : List SA} {x y : Nat} {v v2 : Value} {bs bq : List (Nat × Nat)} {s : ST} {i k : Nat}
theorem media_any {u : UN} {qb qdb : Nat} (ok : s.ok k) (hk : k ≤ 10000000) (hu : s.us[i]? = some u) (hq : bq[i]? = some (qb, qdb)) (S : SL W (qsetO y v2 bq s :: setO x v bs s :: F) w) :
    Calls Tryz.prog 13 #[.pointer (some ⟨x, 0, none⟩), .pointer (some ⟨qb, 0, none⟩)] w fun e w' => e = .returned (.bool true) ∧ SL W (qsetO y v2 bq s :: setO x v bs s :: F) w' := by
  cases hd : u.dev with
  | reader se tk st cs => exact media_reader ok hk hu hd hq S
  | punch se cs => exact media_punch ok hk hu hd hq S
  | printer p => exact media_printer ok hk hu hd hq S
  | tape n p => exact media_tape ok hk hu hd hq S
  | disk d => exact media_disk ok hk hu hd hq S
end
end Go.Proofs.YtfhpaehfihnjaaaGreat
