/- light, and what the law's arguments are: configurations and acts. -/
import Derived.Test.YtfhpaehfihnjaaaGreatNew
import Derived.Test.YtfhpaehfihnjaaaGreatURa
namespace Go.Proofs.YtfhpaehfihnjaaaGreat
open Go.RowKit
structure ActA where
  kind : Int
  addr : Int
  op : Int
  data : U.CardV
  n : Int
  m : Int
def actCells (a : ActA) : List Value := [.int .u8 a.kind, .int .i64 a.addr, .int .i64 a.op, U.cardV a.data, .int .i64 a.n, .int .i64 a.m]
theorem act_get : ∀ (l : List ActA) (k j : Nat) (c : ActA), l[k]? = some c → j < 6 → (l.flatMap actCells)[k * 6 + j]? = (actCells c)[j]?
  | [], k, j, c, h, _ => by simp at h
  | a :: l, 0, j, c, h, hj => by
    simp at h; subst h
    rw [List.flatMap_cons, List.getElem?_append_left (by simp [actCells]; omega)]
    simp
  | a :: l, k + 1, j, c, h, hj => by
    have := act_get l k j c (by simpa using h) hj
    rw [List.flatMap_cons, List.getElem?_append_right (by simp [actCells]; omega)]
    rw [← this]
    congr 1
    simp [actCells]
    omega
def LightOk (l : List Conf) (acts : List ActA) : Prop := l.length ≤ 20 ∧ acts.length ≤ 80 ∧ ∀ a ∈ acts, a.data.2.1.length ≤ 2100
set_option maxRecDepth 100000 in
set_option maxHeartbeats 8000000 in
theorem light_any (l : List Conf) (acts : List ActA) (A B : Option Addr) (c d : Nat) (w : World) (hl : l.length ≤ maxLen) (ha : acts.length ≤ maxLen) (h1 : At w w.heap.size A (l.flatMap confL)) (h2 : At w w.heap.size B (acts.flatMap actCells)) :
    Calls Tryz.prog 6 #[.slice A l.length c, .slice B acts.length d] w fun e w' => (e = .returned (.bool true) ∧ LightOk l acts ∨ e = .returned (.bool false)) ∧ w' = w := by
  have H1 := Lib.hid h1
  have H2 := Lib.hid h2
  have hl2 : l.length ≤ 9223372036854775807 := by unfold maxLen at hl; omega
  have ha2 : acts.length ≤ 9223372036854775807 := by unfold maxLen at ha; omega
  clear h1 h2 hl ha
  go_enter Tryz.func6, Tryz.ntmps6
  go_wp2_with fail
  go_loopw [5] (fun i wr => ∃ k : Nat, k ≤ l.length ∧ i = .int .i64 k ∧ wr = w) (fun i _ => l.length - (intOf i).toNat)
  case atStart => exact ⟨0, Nat.zero_le _, rfl, rfl⟩
  case round =>
    obtain ⟨k, hk, rfl, hwr⟩ := hrel
    have hwr := hwr.symm
    subst hwr
    by_cases hlt : k < l.length
    · have hc : l[k]? = some l[k] := by simp [hlt]
      generalize l[k] = c at hc
      obtain ⟨b, off, rfl, hb, k0, k1, k2, k3, k4⟩ := conf_cells H1.out hc
      clear hc
      by_cases h5 : c.kind = 5
      · have t5 : (c.kind == 5) = true := by simpa using h5
        rw [h5] at k1
        clear h5 t5
        by_cases h8 : 8 < c.cyls
        · go_wp2
          go_ret
          exact ⟨Or.inr rfl, rfl⟩
        · go_wp2
          go_roundw
          case rel => exact ⟨k + 1, by omega, by go_num, by first | trivial | rfl⟩
          case measure => simp [intOf]; omega
      · have t5 : (c.kind == 5) = false := by simpa using h5
        clear h5
        go_wp2
        go_roundw
        case rel => exact ⟨k + 1, by omega, by go_num, by first | trivial | rfl⟩
        case measure => simp [intOf]; omega
    · obtain rfl : k = l.length := by omega
      go_wp2_with fail
      go_loopw [6] (fun i wr => ∃ k : Nat, k ≤ acts.length ∧ i = .int .i64 k ∧ (∀ j a, j < k → acts[j]? = some a → a.data.2.1.length ≤ 2100) ∧ wr = w) (fun i _ => acts.length - (intOf i).toNat)
      case atStart => exact ⟨0, Nat.zero_le _, rfl, fun j a h => absurd h (by omega), rfl⟩
      case round =>
        obtain ⟨m, hm, rfl, hok, hwr⟩ := hrel
        have hwr := hwr.symm
        subst hwr
        have HOK := Lib.hid hok
        clear hok
        by_cases hlt2 : m < acts.length
        · have hc : acts[m]? = some acts[m] := by simp [hlt2]
          generalize acts[m] = a at hc
          obtain ⟨b, off, rfl, hb, q3⟩ := H2.out.cell (k := m * 6 + 3) (u := U.cardV a.data) ((act_get acts m 3 a hc (by omega)).trans rfl)
          have HX := Lib.hid hc
          clear hc
          unfold U.cardV at q3
          rw [← Nat.add_assoc] at q3
          by_cases h21 : 2100 < a.data.2.1.length
          · go_wp2
            go_ret
            exact ⟨Or.inr rfl, rfl⟩
          · have HL := Lib.hid h21
            go_wp2
            go_roundw
            case rel => exact ⟨m + 1, by omega, by go_num, fun j y hj hy => (by
              rcases Nat.lt_succ_iff_lt_or_eq.1 hj with h | rfl
              · exact HOK.out j y h hy
              · have hx := HX.out
                rw [hy] at hx; injection hx with hx; subst hx
                have := HL.out
                omega), by first | trivial | rfl⟩
            case measure => simp [intOf]; omega
        · obtain rfl : m = acts.length := by omega
          have HA := Lib.hid (show ∀ a ∈ acts, a.data.2.1.length ≤ 2100 from fun a ha => by
            obtain ⟨j, hj⟩ := List.mem_iff_getElem?.1 ha
            exact HOK.out j a (List.getElem?_eq_some_iff.1 hj).1 hj)
          by_cases h20 : l.length ≤ 20
          · by_cases h80 : acts.length ≤ 80
            · have t80 : decide ((acts.length : Int) ≤ 80) = true := decide_eq_true (by omega)
              go_wp2
              go_ret
              exact ⟨Or.inl ⟨rfl, h20, h80, HA.out⟩, rfl⟩
            · have t80 : decide ((acts.length : Int) ≤ 80) = false := decide_eq_false (by omega)
              go_wp2
              go_ret
              exact ⟨Or.inr rfl, rfl⟩
          · go_wp2
            go_ret
            exact ⟨Or.inr rfl, rfl⟩
end Go.Proofs.YtfhpaehfihnjaaaGreat
