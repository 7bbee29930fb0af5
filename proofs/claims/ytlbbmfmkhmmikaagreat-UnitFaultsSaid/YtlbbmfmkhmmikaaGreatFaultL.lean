/- UnitFaults: the plant while cards are punched. -/
import Derived.Test.YtlbbmfmkhmmikaaGreatWk
import Derived.BigRegion
namespace Go.Proofs.YtlbbmfmkhmmikaaGreat
open Go.RowKit
/-- The plant while cards are punched. -/
def fG (cs : List (List UInt8)) (a t : Nat) (e : Bool) (la : Option Nat) : ST :=
  ⟨[mkU cReader (.reader 0 0 0 []), ⟨cPunch, .punch 0 cs, a, t, e⟩, mkU cPrinter (.printer ⟨0, [], 0⟩), mkU cTape (.tape nmA (T.freshTP [])), mkU cDisk (.disk (D.freshDK nmB 1 1))], la, false⟩
def fcard (b : UInt8) : List UInt8 := [b] ++ List.replicate 79 0x40
theorem fG_find (cs : List (List UInt8)) (a t : Nat) (e : Bool) (la : Option Nat) : (fG cs a t e la).find 13 = some 1 := rfl
theorem fG_find15 (cs : List (List UInt8)) (a t : Nat) (e : Bool) (la : Option Nat) : (fG cs a t e la).find 15 = none := rfl
theorem fG_settle {cs : List (List UInt8)} {a t : Nat} {e : Bool} {la : Option Nat} (h : la = none ∨ la = some 1) : (fG cs a t e la).settle 1 = (fG cs a t e la).us := by rcases h with rfl | rfl <;> rfl
theorem fG_act {cs : List (List UInt8)} {a t : Nat} {e : Bool} {la : Option Nat} (h : la = none ∨ la = some 1) (op : Int) (l : List UInt8) (ho : ¬ (op = 4 ∧ e = true)) (cs2 : List (List UInt8)) (a2 t2 : Nat) (e2 : Bool) (r : Rep)
    (hc : UN.cmd ⟨cPunch, .punch 0 cs, a, t, e⟩ op l = (⟨cPunch, .punch 0 cs2, a2, t2, e2⟩, r)) : (fG cs a t e la).act 13 op l = (fG cs2 a2 t2 e2 (some 1), r) := by
  unfold ST.act
  rw [fG_find]
  dsimp only
  have hu : (fG cs a t e la).us[1]? = some ⟨cPunch, .punch 0 cs, a, t, e⟩ := rfl
  rw [if_neg (by show ¬ false = true; decide), hu]
  dsimp only
  rw [if_neg ho, fG_settle h, hc]
  rfl
theorem pun_card {cs : List (List UInt8)} (hl : cs.length < 4096) (b : UInt8) : (Dev.punch 0 cs).act 1 [b] = (.punch 0 (cs ++ [fcard b]), [], 12, 0) := by
  have ho : U.punOwn cs 1 [b] = (cs ++ [fcard b], 12, 0) := by
    unfold U.punOwn
    rw [if_neg (by simp), if_neg (by omega)]
    rfl
  have h : U.punDo 0 cs 1 [b] = (0, cs ++ [fcard b], [], 12, 0) := by
    unfold U.punDo
    rw [if_neg (by decide), if_neg (by decide), ho]
    rfl
  unfold Dev.act
  dsimp only
  rw [h]
theorem pun_noop (cs : List (List UInt8)) : (Dev.punch 0 cs).act 3 [] = (.punch 0 cs, [], 12, 0) := rfl
theorem pun_sense (cs : List (List UInt8)) : (Dev.punch 0 cs).act 4 [] = (.punch 0 cs, [0], 12, 0) := rfl
section
variable {cs : List (List UInt8)} {a t : Nat} {e : Bool} {la : Option Nat}
theorem fG_noop (h : la = none ∨ la = some 1) : (fG cs a t e la).act 13 3 [] = (fG cs a t e (some 1), [], 12, 0) :=
  fG_act h 3 [] (fun h => absurd h.1 (by decide)) cs a t e _ (by unfold UN.cmd UN.run; rw [if_pos (Or.inr rfl)]; dsimp only; rw [pun_noop])
theorem fG_sense0 (h : la = none ∨ la = some 1) : (fG cs a t false la).act 13 4 [] = (fG cs a t false (some 1), [0], 12, 0) :=
  fG_act h 4 [] (fun h => absurd h.2 (by decide)) cs a t false _ (by unfold UN.cmd UN.run; rw [if_pos (Or.inl rfl)]; dsimp only; rw [pun_sense])
theorem fG_sense1 : (fG cs a t true la).act 13 4 [] = (fG cs a t true la, [16], 12, 0) := by
  unfold ST.act
  rw [fG_find]
  rfl
theorem fG_card1 (h : la = none ∨ la = some 1) (hl : cs.length < 4096) (ha : 0 < a) (b : UInt8) : (fG cs a t e la).act 13 1 [b] = (fG (cs ++ [fcard b]) (a - 1) t false (some 1), [], 12, 0) :=
  fG_act h 1 [b] (fun h => absurd h.1 (by decide)) _ _ _ _ _ (by unfold UN.cmd UN.run; rw [if_neg (by decide), if_pos (by exact ha)]; dsimp only; rw [pun_card hl])
theorem fG_card2 (h : la = none ∨ la = some 1) (ht : 0 < t) (b : UInt8) : (fG cs 0 t e la).act 13 1 [b] = (fG cs 0 (t - 1) true (some 1), [], 14, 16) :=
  fG_act h 1 [b] (fun h => absurd h.1 (by decide)) _ _ _ _ _ (by unfold UN.cmd; rw [if_neg (by decide), if_neg (Nat.lt_irrefl 0), if_pos (by exact ht)]; rfl)
theorem fG_card3 (h : la = none ∨ la = some 1) (hl : cs.length < 4096) (b : UInt8) : (fG cs 0 0 e la).act 13 1 [b] = (fG (cs ++ [fcard b]) 0 0 false (some 1), [], 12, 0) :=
  fG_act h 1 [b] (fun h => absurd h.1 (by decide)) _ _ _ _ _ (by unfold UN.cmd UN.run; rw [if_neg (by decide), if_neg (Nat.lt_irrefl 0), if_neg (Nat.lt_irrefl 0)]; dsimp only; rw [pun_card hl])
theorem fG_fail1 : (fG cs a t e la).fail 13 (-1) 0 = (fG cs a t e la, 6) := by
  unfold ST.fail
  rw [fG_find]
  dsimp only
  rw [if_pos (by decide)]
theorem fG_fail2 : (fG cs a t e la).fail 15 0 0 = (fG cs a t e la, 170) := by
  unfold ST.fail
  rw [fG_find15]
theorem fG_fail (n m : Nat) : plantST.fail 13 (n : Int) (m : Int) = (fG [] n m false none, 0) := by
  unfold ST.fail
  rw [show plantST.find 13 = some 1 from rfl]
  dsimp only
  rw [if_neg (by omega)]
  rfl
end
end Go.Proofs.YtlbbmfmkhmmikaaGreat
