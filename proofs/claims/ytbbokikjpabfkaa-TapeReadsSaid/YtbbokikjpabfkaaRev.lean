/- reversed; writing and reading back. -/
import Derived.Test.YtbbokikjpabfkaaLaw
import Derived.Test.YtbbokikjpabfkaaOf
namespace Go.Proofs.Ytbbokikjpabfkaa
open Go.RowKit

section
variable {W w : World} {F : List SA}
set_option maxHeartbeats 4000000 in
theorem reversed_any (A : Option Addr) (l : List UInt8) (c : Nat) (S : SL W F w) (hr : Rd W F A (Lib.byteCells l)) (hz : l.length ≤ 1073741824) :
    Calls Try.prog 16 #[.slice A l.length c] w fun e w' => ∃ A' c', e = .returned (.slice A' l.length c') ∧ SL W (rowS 5 1 (.slice A' l.length c') l.length (Lib.byteCells l.reverse) :: F) w' := by
  have HS := Lib.hid S
  have HR := Lib.hid hr
  clear S hr
  go_enter Try.func16, Try.ntmps16
  go_wp2
  go_loopw [3, 4] (fun o i wr => ∃ (k : Nat) (A3 : Option Addr) (c3 : Nat), k ≤ l.length ∧ i = .int .i64 ((l.length : Int) - 1 - k) ∧ o = .slice A3 k c3 ∧ SL W (rowS 5 1 (.slice A3 k c3) k (Lib.byteCells (l.reverse.take k)) :: F) wr) (fun _ i _ => (intOf i + 1).toNat)
  case atStart => exact ⟨0, none, 0, Nat.zero_le _, by go_num, rfl, HS.out.nil _ _⟩
  case round =>
    obtain ⟨k, A3, c3, hk, rfl, rfl, S1⟩ := hrel
    have H1 := Lib.hid S1
    clear S1 HS
    by_cases hlt : k < l.length
    · obtain ⟨m, hm⟩ : ∃ m, l.length - 1 - k = m := ⟨_, rfl⟩
      have e0 : (l.length : Int) - 1 - (k : Int) = (m : Int) := by omega
      have hm2 : m < l.length := by omega
      rw [e0]
      have hg : (Lib.byteCells l)[m]? = some (.int .u8 ((l[m]'hm2).toNat : Int)) := byteCells_get l m hm2
      obtain ⟨b, off, hA, hb, hc⟩ := HR.out wr H1.out.drop (by intro h; rw [h] at hg; simp at hg)
      subst hA
      have q1 := hc m _ hg
      have hx : l.reverse.take (k + 1) = l.reverse.take k ++ [l[m]'hm2] := by
        rw [List.take_add_one, List.getElem?_reverse hlt, hm, List.getElem?_eq_getElem hm2]; rfl
      generalize l[m]'hm2 = x at q1 hx
      have HX := Lib.hid hx
      clear hc hg hx
      have hge : decide ((m : Int) ≥ 0) = true := by simp
      go_wp2_with (at_builtin; refine wpList_pushS rfl _ _ _ rfl bElem wr [.int .u8 (x.toNat : Int)] 1 rfl rfl (by simp [Value.oneCell']) _ k _ rfl rfl H1.out (by unfold maxLen; omega) (by omega) ?_
                   intro A6 c6 w6 S6
                   have H6 := Lib.hid S6
                   clear S6 H1)
      go_roundw
      case rel =>
        refine ⟨k + 1, A6, c6, by omega, by go_num, rfl, ?_⟩
        rw [HX.out]
        have h := H6.out
        have e : Lib.byteCells (l.reverse.take k) ++ [.int .u8 (x.toNat : Int)] = Lib.byteCells (l.reverse.take k ++ [x]) := by simp [Lib.byteCells]
        rw [e] at h
        exact h
      case measure => first | (simp [intOf]; done) | (simp [intOf]; omega)
    · obtain rfl : k = l.length := by omega
      have e0 : (l.length : Int) - 1 - (l.length : Int) = -1 := by omega
      rw [e0]
      go_wp2
      go_ret
      refine ⟨_, _, rfl, ?_⟩
      have h := H1.out
      rw [List.take_of_length_le (by simp)] at h
      exact h
end
/-- The tape behind k blocks written. -/
def wbs (l : List (List UInt8)) : List Blk := l.map fun d => ⟨d, false, false⟩
def bs2 : List Blk := [⟨[], true, false⟩, ⟨[9], false, false⟩]
theorem rd_write (s : TP) (d : List UInt8) (h1 : 1 ≤ d.length) (h2 : d.length ≤ 1024) (hl : s.loaded = true) (hp : s.pos ≠ 4096) : ∃ la, tpDo s 1 d = (⟨s.bs.take s.pos ++ [⟨d, false, false⟩], s.pos + 1, true, s.sense, la⟩, [], 12, 0) := by
  refine ⟨some (s.pos, s.bs.drop s.pos, true), do_of ?_ (by decide)⟩
  unfold tpPerform
  rw [if_neg (by decide), if_neg (by decide), if_neg (by decide), if_neg (by simp [hl]), if_pos rfl, if_neg (by omega)]
  unfold tpWrite
  rw [if_neg hp]
  simp [tpCut, hl]
theorem rd_rewind (s : TP) (hl : s.loaded = true) (hs : s.sense = 0) : tpDo s 7 [] = (⟨s.bs, 0, true, 0, none⟩, [], 12, 0) := by
  refine do_of ?_ (by decide)
  unfold tpPerform
  rw [if_neg (by decide), if_neg (by decide), if_neg (by decide), if_neg (by simp [hl]), if_neg (by decide), if_neg (by decide), if_neg (by decide), if_pos rfl]
  simp [hl, hs]
theorem rd_power (s : TP) : tpPower s = ⟨s.bs, 0, true, 0, none⟩ := rfl
theorem rd_read (l : List (List UInt8)) (k : Nat) (d : List UInt8) (hd : l[k]? = some d) : tpDo ⟨wbs l, k, true, 0, none⟩ 2 [] = (⟨wbs l, k + 1, true, 0, none⟩, d, 12, 0) := by
  refine do_of ?_ (by simp)
  show tpMove ⟨wbs l, k, true, 0, none⟩ 2 = _
  unfold tpMove
  rw [if_pos (Or.inl rfl)]
  have e : (wbs l)[k]? = some ⟨d, false, false⟩ := by simp [wbs, hd]
  simp only [e]
  rfl
theorem rd_end (l : List (List UInt8)) : tpDo ⟨wbs l, l.length, true, 0, none⟩ 2 [] = (⟨wbs l, l.length, true, 2, none⟩, [], 14, 2) := by
  refine do_of14 (s2 := ⟨wbs l, l.length, true, 0, none⟩) (r := ([], 14, 2)) ?_ rfl
  show tpMove ⟨wbs l, l.length, true, 0, none⟩ 2 = _
  unfold tpMove
  rw [if_pos (Or.inl rfl)]
  have e : (wbs l)[l.length]? = none := List.getElem?_eq_none (by simp [wbs])
  simp only [e]
theorem rd_back (l : List (List UInt8)) (k : Nat) (d : List UInt8) (hd : l[k]? = some d) : tpDo ⟨wbs l, k + 1, true, 2, none⟩ 12 [] = (⟨wbs l, k, true, 2, none⟩, d.reverse, 12, 0) := by
  refine do_of ?_ (by simp)
  show tpMove ⟨wbs l, k + 1, true, 2, none⟩ 12 = _
  unfold tpMove
  rw [if_neg (by decide), if_pos (Or.inl rfl), if_neg (by simp)]
  have e : (wbs l)[k]? = some ⟨d, false, false⟩ := by simp [wbs, hd]
  simp only [Nat.add_sub_cancel, e]
  rfl
theorem rd_start (l : List (List UInt8)) : tpDo ⟨wbs l, 0, true, 2, none⟩ 12 [] = (⟨wbs l, 0, true, 2, none⟩, [], 14, 2) := do_of14 (s2 := ⟨wbs l, 0, true, 2, none⟩) (r := ([], 14, 2)) rfl rfl
theorem wbs_ok {l : List (List UInt8)} {k se : Nat} (hl : l.length ≤ 60) (hd : ∀ d ∈ l, d.length ≤ 200) (hk : k ≤ l.length) (hs : se < 256) : (⟨wbs l, k, true, se, none⟩ : TP).ok := by
  refine ⟨by simpa [wbs] using hk, by simp [wbs]; omega, fun b hb => ?_, hs, fun a o b e => by cases e⟩
  simp only [wbs, List.mem_map] at hb
  obtain ⟨d, h, rfl⟩ := hb
  have := hd d h
  dsimp only
  omega
end Go.Proofs.Ytbbokikjpabfkaa
