/- cut and Few of the law. -/
import Derived.Test.YtelfihgkbbaifaaRFits
namespace Go.Proofs.Ytelfihgkbbaifaa
open Go.RowKit

def cutR (nk nd : Nat) (x : Rec) : Rec := { x with key := x.key.take nk, data := x.data.take nd }
def fewL (l : List Rec) : List Rec := (l.take 40).map (cutR 300 2100)
theorem byteCells_take (l : List UInt8) (n : Nat) : Lib.byteCells (l.take n) = (Lib.byteCells l).take n := by simp [Lib.byteCells]
theorem CardAt.take {w : World} {a : Option Addr} {l : List UInt8} {c : Nat} (h : CardAt w a l c) (n : Nat) : CardAt w a (l.take n) c := by
  refine ⟨fun hne => ?_, by have := h.2.1; rw [List.length_take]; omega, h.2.2⟩
  rw [byteCells_take] at hne ⊢
  have h0 : Lib.byteCells l ≠ [] := fun e => hne (by rw [e]; simp)
  obtain ⟨b, off, e, hb, hc⟩ := h.1 h0
  refine ⟨b, off, e, hb, fun j u hu => hc j u ?_⟩
  rw [List.getElem?_take] at hu
  split at hu
  · exact hu
  · cases hu
/-- Records that lie at an address in every world of F, their keys and data in the base world. -/
def RecsB (W : World) (F : List SA) (A : Option Addr) (rs : List Rec) : Prop := ∀ w, SL W F w → ∀ i x, rs[i]? = some x → ∃ g off Ak ck Ad cd, A = some ⟨g, off, none⟩ ∧
  w.cell? ⟨g, off + i * 4, none⟩ = some (.int .i64 x.r) ∧ w.cell? ⟨g, off + i * 4 + 1, none⟩ = some (.slice Ak x.key.length ck) ∧ w.cell? ⟨g, off + i * 4 + 2, none⟩ = some (.slice Ad x.data.length cd) ∧ w.cell? ⟨g, off + i * 4 + 3, none⟩ = some (.bool x.bad) ∧
  CardAt W Ak x.key ck ∧ CardAt W Ad x.data cd
theorem RecsB.base {W : World} {A : Option Addr} {rs : List Rec} (h : RecsAt W A rs) (F : List SA) : RecsB W F A rs := fun w S i x hx => by
  obtain ⟨g, off, Ak, ck, Ad, cd, hA, k0, k1, k2, k3, a1, a2⟩ := h i x hx
  have z := World.block_lt_of_cell? W _ k0
  exact ⟨g, off, Ak, ck, Ad, cd, hA, (S.1.cell (p := ⟨g, off + i * 4, none⟩) z).trans k0, (S.1.cell (p := ⟨g, off + i * 4 + 1, none⟩) z).trans k1, (S.1.cell (p := ⟨g, off + i * 4 + 2, none⟩) z).trans k2, (S.1.cell (p := ⟨g, off + i * 4 + 3, none⟩) z).trans k3, a1, a2⟩
section
variable {W w : World} {F : List SA}
theorem cut_any (A : Option Addr) (nk c n : Nat) (k : Int) (hk : k = (n : Int)) (w : World) (h : nk ≤ c) (hc : c ≤ maxLen) :
    Calls Try.prog 15 #[.slice A nk c, .int .i64 k] w fun e w' => e = .returned (.slice A (min nk n) c) ∧ w = w' := by
  subst hk
  unfold maxLen at hc
  go_enter Try.func15, Try.ntmps15
  by_cases hlt : n < nk
  · rw [Nat.min_eq_right (by omega)]
    have h1 : (n : Int) < (nk : Int) := by omega
    have h2 : n ≤ c := by omega
    go_wp2
    go_ret
    exact ⟨rfl, rfl⟩
  · rw [Nat.min_eq_left (by omega)]
    have h1 : ¬ ((n : Int) < (nk : Int)) := by omega
    go_wp2
    go_ret
    exact ⟨rfl, rfl⟩
theorem fewL_snoc {l : List Rec} {k : Nat} {x : Rec} (h : l[k]? = some x) : (l.take (k + 1)).map (cutR 300 2100) = (l.take k).map (cutR 300 2100) ++ [cutR 300 2100 x] := by
  rw [List.take_add_one, h]; simp
set_option maxRecDepth 100000 in
set_option maxHeartbeats 8000000 in
theorem few_any (A : Option Addr) (l : List Rec) (c : Nat) (S : SL W F w) (hr : RecsB W F A l) (hl : l.length ≤ maxLen) :
    Calls Try.prog 12 #[.slice A l.length c] w fun e w' => ∃ (A' : Option Addr) (c' : Nat), e = .returned (.slice A' (fewL l).length c') ∧ ∃ ps : List RV, ps.map Prod.snd = fewL l ∧ SL W (rowS 25 4 (.slice A' (fewL l).length c') (fewL l).length (ps.flatMap recCells) :: F) w' ∧ ∀ p ∈ ps, RecV W p := by
  have HR := Lib.hid hr
  have HS := Lib.hid S
  have hfl : l.length ≤ 9223372036854775807 := by unfold maxLen at hl; omega
  clear S hr hl
  go_enter Try.func12, Try.ntmps12
  go_wp2
  go_loopw [3, 4] (fun o i wr => ∃ (k : Nat) (A3 : Option Addr) (c3 : Nat) (ps : List RV), k ≤ l.length ∧ k ≤ 40 ∧ i = .int .i64 k ∧ o = .slice A3 k c3 ∧ ps.length = k ∧ ps.map Prod.snd = (l.take k).map (cutR 300 2100) ∧ (∀ p ∈ ps, RecV W p) ∧
    SL W (rowS 25 4 (.slice A3 k c3) k (ps.flatMap recCells) :: F) wr) (fun _ i _ => l.length - (intOf i).toNat)
  case atStart => exact ⟨0, none, 0, [], Nat.zero_le _, by omega, rfl, rfl, rfl, rfl, by simp, HS.out.nil _ _⟩
  case round =>
    obtain ⟨k, A3, c3, ps, hk, hk40, rfl, rfl, hp1, hp2, hp3, S1⟩ := hrel
    have H1 := Lib.hid S1
    have HP := Lib.hid (And.intro hp1 (And.intro hp2 hp3))
    clear S1 HS hp1 hp2 hp3
    by_cases hlt : k < l.length ∧ k < 40
    · obtain ⟨hlt, hlt4⟩ := hlt
      have hb : l[k]? = some l[k] := by simp [hlt]
      generalize l[k] = x at hb
      obtain ⟨g, off, Ak, ck, Ad, cd, hA, k0, k1, k2, k3, a1, a2⟩ := HR.out wr H1.out.drop k x hb
      subst hA
      have HB := Lib.hid (fewL_snoc hb)
      have HA := Lib.hid (And.intro a1 a2)
      have HC1 := Lib.hid (fun wx => cut_any Ak x.key.length ck 300 300 rfl wx a1.2.1 a1.2.2)
      have HC2 := Lib.hid (fun wx => cut_any Ad x.data.length cd 2100 2100 rfl wx a2.2.1 a2.2.2)
      clear hb a1 a2
      go_upto_region 6 with fail
      refine name_world (P := Code.wp _ _ _ _) ?_
      intro wd hwd
      have H2 := Lib.hid (SL.cast hwd (H1.out.allocC #[.int .i64 x.r, .slice Ak x.key.length ck, .slice Ad x.data.length cd, .bool x.bad] 25))
      clear hwd H1 k0 k1 k2 k3
      generalize wr.heap.size = xb at *
      obtain ⟨L, K, z⟩ := H2.out.look
      refine wp_region_order (fun wx => wx = wd.drew) [] [] [0, 1, 2, 3, 4, 5, 6] [] [7, 8, 9] (by kernel_rfl) (by kernel_rfl) rfl (by intro c a d v w h; cases d <;> exact h) ?_
      simp only [pick, List.filterMap_cons, List.filterMap_nil, List.getElem?_cons_zero, List.getElem?_cons_succ]
      refine wpPure_nil ?_
      refine wpLoads_nil ?_
      (repeat (with_reducible refine wpQuiet_step ?_; intro K hK; go_simp; first | (with_reducible refine hK _ ?_; clear hK K) | (rw [if_neg (by decide)]; with_reducible refine hK _ ?_; clear hK K) | (refine ⟨_, fun wx hx => (by subst hx; go_simp; with_reducible rfl), hK _ ?_⟩; clear hK K) | (first | (refine ⟨_, (by with_reducible refine (HC1.out _).mono ?_; rintro e w' ⟨rfl, rfl⟩; exact ⟨rfl, rfl⟩), hK _ ?_⟩; clear hK K) | (refine ⟨_, (by with_reducible refine (HC2.out _).mono ?_; rintro e w' ⟨rfl, rfl⟩; exact ⟨rfl, rfl⟩), hK _ ?_⟩; clear hK K)) | (refine ⟨_, fun _ _ => rfl, hK _ ?_⟩; clear hK K))); with_reducible refine wpQuiet_nil ?_
      intro w3 hw3
      have H3 := Lib.hid (hw3 ▸ H2.out.drew : SL W _ w3)
      clear hw3 H2 L K z
      refine wpKeep_nil ?_
      obtain ⟨L, K, z⟩ := H3.out.look
      have HW := Lib.hid ((H3.out.set (off := 1) (v := .slice Ak (min x.key.length 300) ck) (cs' := #[.int .i64 x.r, .slice Ak (min x.key.length 300) ck, .slice Ad x.data.length cd, .bool x.bad]) rfl).set (off := 2) (v := .slice Ad (min x.data.length 2100) cd) (cs' := #[.int .i64 x.r, .slice Ak (min x.key.length 300) ck, .slice Ad (min x.data.length 2100) cd, .bool x.bad]) rfl).s1
      go_wp2_with (at_builtin; refine wpList_pushS rfl _ _ _ rfl recElem ((w3.setCell ⟨xb, 1, none⟩ (.slice Ak (min x.key.length 300) ck)).setCell ⟨xb, 2, none⟩ (.slice Ad (min x.data.length 2100) cd)) [.int .i64 x.r, .slice Ak (min x.key.length 300) ck, .slice Ad (min x.data.length 2100) cd, .bool x.bad] 1 rfl rfl (by simp [Value.oneCell']) _ k _ rfl (by simp only [World.size_setCell]; rfl) HW.out (by unfold maxLen; omega) (by omega) ?_
                   intro A6 c6 w6 S6
                   have H6 := Lib.hid S6
                   clear S6 H3 L K z HW)
      go_roundw
      case rel =>
        obtain ⟨hp1, hp2, hp3⟩ := HP.out
        refine ⟨k + 1, A6, c6, ps ++ [((.slice Ak (min x.key.length 300) ck, .slice Ad (min x.data.length 2100) cd), cutR 300 2100 x)], by omega, by omega, by go_num, rfl, by simp [hp1], by rw [HB.out, ← hp2]; simp, ?_, ?_⟩
        · intro p hp
          rcases List.mem_append.1 hp with h | h
          · exact hp3 p h
          · obtain rfl := List.mem_singleton.1 h
            exact ⟨Ak, ck, Ad, cd, by simp [cutR, Nat.min_comm], HA.out.1.take 300, HA.out.2.take 2100⟩
        · rw [flat_snoc]
          exact H6.out.s1.drop
      case measure => simp [intOf]; omega
    · have hlen : (fewL l).length = k := by unfold fewL; rw [List.length_map, List.length_take]; omega
      have htk : (l.take k).map (cutR 300 2100) = fewL l := by
        unfold fewL
        by_cases h : k = 40
        · rw [h]
        · rw [List.take_of_length_le (by omega), List.take_of_length_le (by omega)]
      have HLEN := Lib.hid hlen
      have HTK := Lib.hid htk
      clear hlen htk
      by_cases h1 : (k : Int) < (l.length : Int)
      · have h2 : ¬ ((k : Int) < 40) := by omega
        go_wp2
        go_ret
        obtain ⟨hp1, hp2, hp3⟩ := HP.out
        rw [HLEN.out]
        exact ⟨_, _, rfl, ps, by rw [hp2, HTK.out], H1.out, fun a b d h => hp3 _ h⟩
      · go_wp2
        go_ret
        obtain ⟨hp1, hp2, hp3⟩ := HP.out
        rw [HLEN.out]
        exact ⟨_, _, rfl, ps, by rw [hp2, HTK.out], H1.out, fun a b d h => hp3 _ h⟩
end
end Go.Proofs.Ytelfihgkbbaifaa
