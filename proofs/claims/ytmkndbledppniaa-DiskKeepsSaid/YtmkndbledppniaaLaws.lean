/- What a command changes, and what Undo gives back: plain laws. -/
import Derived.Test.YtmkndbledppniaaDisk
namespace Go.Proofs.Ytmkndbledppniaa
open Go.RowKit
/-- What a command may have done to the volume. -/
def Eff (s r : DK) : Prop := (r.tracks = s.tracks ∧ r.last = s.last) ∨ ∃ t n, r.tracks = s.tracks.set s.here t ∧ r.here = s.here ∧ r.last = some (s.here, s.recs, n)
theorem check_eff {s : DK} {n : Nat} : Eff s (dkCheck s n).1 := .inl ⟨rfl, rfl⟩
theorem cmd_eff (s : DK) (was : Bool) (op : Int) (b : List UInt8) : Eff s (dkCmd s was op b).1 := by
  have hread : ∀ c k, Eff s (dkRead s c k).1 := fun c k => by
    unfold dkRead
    split
    · exact check_eff
    · split <;> exact .inl ⟨rfl, rfl⟩
  have hrw : ∀ x, Eff s (dkRewrite s x).1 := fun x => .inr ⟨_, _, rfl, rfl, rfl⟩
  have hkey : ∀ hi, Eff s (dkKey s b hi).1 := fun hi => by
    unfold dkKey
    split
    · exact check_eff
    · split <;> exact .inl ⟨rfl, rfl⟩
  have hid : ∀ m, Eff s (dkID s b m).1 := fun m => by
    unfold dkID
    split
    · exact check_eff
    · split
      · split <;> exact .inl ⟨rfl, rfl⟩
      · exact check_eff
  refine cmd_cases (P := fun r => Eff s r.1) s was op b ?_ (.inl ⟨rfl, rfl⟩) (.inr ⟨_, _, rfl, rfl, rfl⟩) (hid _) (hid _) (hkey _) (hkey _) ?_ (hread _ _) (hread _ _) (hread _ _) ?_ ?_ ?_ ?_ check_eff
  · unfold dkSeek
    split <;> exact .inl ⟨rfl, rfl⟩
  · unfold dkCount
    split <;> exact .inl ⟨rfl, rfl⟩
  · unfold dkTrack
    split <;> exact .inl ⟨rfl, rfl⟩
  · unfold dkWriteData
    split
    · exact check_eff
    · split
      · exact check_eff
      · exact hrw _
  · unfold dkWriteKey
    split
    · exact check_eff
    · split
      · exact check_eff
      · exact hrw _
  · unfold dkFormat
    split
    · exact check_eff
    · split
      · exact check_eff
      · dsimp only
        split
        · exact check_eff
        · exact .inr ⟨_, _, rfl, rfl, rfl⟩
theorem do_eff (s : DK) (op : Int) (b : List UInt8) : ((dkDo s op b).1.tracks = s.tracks ∧ (dkDo s op b).1.last = none) ∨ ∃ t n, (dkDo s op b).1.tracks = s.tracks.set s.here t ∧ (dkDo s op b).1.here = s.here ∧ (dkDo s op b).1.last = some (s.here, s.recs, n) := by
  unfold dkDo
  split
  · exact .inl ⟨rfl, rfl⟩
  split
  · exact .inl ⟨rfl, rfl⟩
  · exact cmd_eff { s with last := none, found := false } s.found op b
/-- A command leaves the other tracks alone. -/
theorem do_keeps (s : DK) (op : Int) (b : List UInt8) (n : Nat) (hn : n ≠ (dkDo s op b).1.here) : (dkDo s op b).1.tracks[n]? = s.tracks[n]? := by
  rcases do_eff s op b with ⟨h, _⟩ | ⟨t, m, h, hh, _⟩
  · rw [h]
  · rw [h, List.getElem?_set_ne (by rw [hh] at hn; omega)]
theorem undo_none {r : DK} {how : Int} (h : r.last = none) : dkUndo r how = (r, false) := by
  unfold dkUndo
  rw [h]
  split <;> rfl
/-- Undo(1) gives the volume back. -/
theorem do_undoes (s : DK) (h : s.ok) (op : Int) (b : List UInt8) : (dkUndo (dkDo s op b).1 1).1.tracks = s.tracks ∧ (dkUndo (dkUndo (dkDo s op b).1 1).1 1).2 = false := by
  have hu : ∀ r : DK, (dkUndo (dkUndo r 1).1 1).2 = false := fun r => by
    have hl : (dkUndo r 1).1.last = none := by
      unfold dkUndo
      rw [if_neg (by omega)]
      split
      · rename_i e; exact e
      · rfl
    rw [undo_none hl]
  refine ⟨?_, hu _⟩
  rcases do_eff s op b with ⟨h1, h2⟩ | ⟨t, m, h1, _, h2⟩
  · unfold dkUndo
    rw [if_neg (by omega), h2]
    exact h1
  · unfold dkUndo
    rw [if_neg (by omega), h2]
    dsimp only
    rw [if_pos rfl, h1, List.set_set]
    apply List.ext_getElem?
    intro j
    rw [List.getElem?_set]
    split
    · rename_i e
      subst e
      rw [if_pos h.here_lt, h.at_]
    · rfl
end Go.Proofs.Ytmkndbledppniaa
