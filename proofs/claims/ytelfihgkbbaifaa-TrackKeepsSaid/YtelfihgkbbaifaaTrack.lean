/- Track of the law. -/
import Derived.Test.YtelfihgkbbaifaaFew
namespace Go.Proofs.Ytelfihgkbbaifaa
open Go.RowKit

def trackR (last : Int) (x : Rec) : Rec := ⟨last + 1 + x.r % 8, x.key.take 255, x.data.take 2016, x.bad⟩
def trackStep (s : List Rec × Int) (x : Rec) : List Rec × Int := if validB (s.1 ++ [trackR s.2 x]) then (s.1 ++ [trackR s.2 x], (trackR s.2 x).r) else s
def trackS (l : List Rec) : List Rec × Int := l.foldl trackStep ([], 0)
def trackL (l : List Rec) : List Rec := (trackS (l.take 40)).1
theorem trackS_snoc {l : List Rec} {k : Nat} {x : Rec} (h : l[k]? = some x) : trackS (l.take (k + 1)) = trackStep (trackS (l.take k)) x := by
  rw [List.take_add_one, h]; simp [trackS]
/-- What holds of the track along the way. -/
structure TrackOk (s : List Rec × Int) (k : Nat) : Prop where
  len : s.1.length ≤ k
  low : 0 ≤ s.2
  high : s.2 ≤ 8 * k
  valid : validB s.1 = true
  size : ∀ x ∈ s.1, x.key.length ≤ 255 ∧ x.data.length ≤ 2016
theorem trackOk_step {s : List Rec × Int} {k : Nat} (h : TrackOk s k) (x : Rec) : TrackOk (trackStep s x) (k + 1) := by
  unfold trackStep
  split
  · rename_i hv
    refine ⟨by have := h.len; simp; omega, ?_, ?_, hv, fun y hy => ?_⟩
    · have := h.low; simp only [trackR]; omega
    · have := h.high; simp only [trackR]; push_cast; omega
    · rcases List.mem_append.1 hy with h1 | h1
      · exact h.size y h1
      · obtain rfl := List.mem_singleton.1 h1
        simp only [trackR, List.length_take]
        omega
  · exact ⟨by have := h.len; omega, h.low, by have := h.high; push_cast; omega, h.valid, h.size⟩
theorem trackOk (l : List Rec) : ∀ k, k ≤ l.length → TrackOk (trackS (l.take k)) k
  | 0, _ => ⟨by simp [trackS], by simp [trackS], by simp [trackS], by rfl, by simp [trackS]⟩
  | k + 1, h => by
    rw [trackS_snoc (x := l[k]) (by simp)]
    exact trackOk_step (trackOk l k (by omega)) _
theorem numR (z last : Int) (h0 : 0 ≤ last) (h1 : last ≤ 1000) : wrap64 (last + 1 + wrap64 ((IntKind.u64.wrap z).tmod 8)) = last + 1 + z % 8 := by
  have h2 : (IntKind.u64.wrap z).tmod 8 = z % 8 := by
    have h3 : IntKind.u64.wrap z = z % 18446744073709551616 := by unfold IntKind.wrap; simp [IntKind.signed, IntKind.bits]
    rw [h3, Int.tmod_eq_emod_of_nonneg (by omega)]
    omega
  rw [h2]
  unfold wrap64
  omega
section
variable {W w : World} {F : List SA}
set_option maxRecDepth 100000 in
set_option maxHeartbeats 8000000 in
theorem track_any (A : Option Addr) (l : List Rec) (c : Nat) (S : SL W F w) (hr : RecsB W F A l) (hl : l.length ≤ maxLen) :
    Calls Try.prog 11 #[.slice A l.length c] w fun e w' => ∃ (A' : Option Addr) (c' : Nat), e = .returned (.slice A' (trackL l).length c') ∧ SL W (recsS (.slice A' (trackL l).length c') (trackL l) :: F) w' := by
  have HR := Lib.hid hr
  have HS := Lib.hid S
  have hfl : l.length ≤ 9223372036854775807 := by unfold maxLen at hl; omega
  clear S hr hl
  go_enter Try.func11, Try.ntmps11
  go_wp2
  go_loopw [3, 4, 5] (fun o la i wr => ∃ (k : Nat) (A3 : Option Addr) (c3 : Nat) (s : List Rec × Int), k ≤ l.length ∧ k ≤ 40 ∧ i = .int .i64 k ∧ s = trackS (l.take k) ∧ o = .slice A3 s.1.length c3 ∧ la = .int .i64 s.2 ∧ SL W (recsS (.slice A3 s.1.length c3) s.1 :: F) wr) (fun _ _ i _ => l.length - (intOf i).toNat)
  case atStart => exact ⟨0, none, 0, ([], 0), Nat.zero_le _, by omega, rfl, rfl, rfl, rfl, recsS_close (ps := []) (HS.out.empty.nil _ _)⟩
  case round =>
    obtain ⟨k, A3, c3, s, hk, hk40, rfl, hs, rfl, rfl, S1⟩ := hrel
    have H1 := Lib.hid S1
    have HOK := Lib.hid (show TrackOk s k from hs ▸ trackOk l k hk)
    have HST := Lib.hid hs
    clear S1 HS hs
    have hlow := HOK.out.low
    have hhigh := HOK.out.high
    obtain ⟨out, last⟩ := s
    dsimp only at *
    by_cases hlt : k < l.length ∧ k < 40
    · obtain ⟨hlt, hlt4⟩ := hlt
      have hb : l[k]? = some l[k] := by simp [hlt]
      generalize l[k] = x at hb
      obtain ⟨g, off, Ak, ck, Ad, cd, hA, k0, k1, k2, k3, a1, a2⟩ := HR.out wr H1.out.drop k x hb
      subst hA
      have HB := Lib.hid (trackS_snoc hb)
      have hm : 0 ≤ x.r % 8 ∧ x.r % 8 < 8 := by omega
      clear hb
      go_upto_region 8 with fail
      rw [numR x.r last hlow (by omega)]
      obtain ⟨y, hy⟩ : ∃ y, y = trackR last x := ⟨_, rfl⟩
      have hyr : last + 1 + x.r % 8 = y.r := by rw [hy]; rfl
      have hyb : x.bad = y.bad := by rw [hy]; rfl
      have hyk : min x.key.length 255 = y.key.length := by rw [hy]; simp [trackR, Nat.min_comm]
      have hyd : min x.data.length 2016 = y.data.length := by rw [hy]; simp [trackR, Nat.min_comm]
      have HA1 := Lib.hid (show CardAt W Ak y.key ck by rw [hy]; exact a1.take 255)
      have HA2 := Lib.hid (show CardAt W Ad y.data cd by rw [hy]; exact a2.take 2016)
      have HC1 := Lib.hid (fun wx => cut_any Ak x.key.length ck 255 255 rfl wx a1.2.1 a1.2.2)
      have HC2 := Lib.hid (fun wx => cut_any Ad x.data.length cd 2016 2016 rfl wx a2.2.1 a2.2.2)
      rw [hyk] at HC1
      rw [hyd] at HC2
      rw [hyr, hyb]
      have HY := Lib.hid hy
      clear a1 a2 hy hyr hyb hyk hyd
      refine name_world (P := Code.wp _ _ _ _) ?_
      intro wd hwd
      have H2 := Lib.hid (SL.cast hwd (H1.out.allocC #[.int .i64 y.r, .slice Ak x.key.length ck, .slice Ad x.data.length cd, .bool y.bad] 25))
      clear hwd H1 k0 k1 k2 k3
      generalize wr.heap.size = xb at *
      obtain ⟨L, K, z⟩ := H2.out.look
      refine wp_region_order (fun wx => wx = wd.drew) [] [] [0, 1, 2, 3, 4, 5, 6] [] [7, 8, 9] (by kernel_rfl) (by kernel_rfl) rfl (by intro c a d v w h; cases d <;> exact h) ?_
      simp only [pick, List.filterMap_cons, List.filterMap_nil, List.getElem?_cons_zero, List.getElem?_cons_succ]
      refine wpPure_nil ?_
      refine wpLoads_nil ?_
      (repeat (with_reducible refine wpQuiet_step ?_; intro K hK; go_simp; first | (with_reducible refine hK _ ?_; clear hK K) | (rw [if_neg (by decide)]; with_reducible refine hK _ ?_; clear hK K) | (refine ⟨_, fun wx hx => (by subst hx; go_simp; with_reducible rfl), hK _ ?_⟩; clear hK K) | (first | (refine ⟨_, (by with_reducible refine (HC1.out _).mono ?_; rintro e w' ⟨rfl, rfl⟩; exact ⟨rfl, rfl⟩), hK _ ?_⟩; clear hK K) | (refine ⟨_, (by with_reducible refine (HC2.out _).mono ?_; rintro e w' ⟨rfl, rfl⟩; exact ⟨rfl, rfl⟩), hK _ ?_⟩; clear hK K)) | (refine ⟨_, fun _ _ => rfl, hK _ ?_⟩; clear hK K))); with_reducible refine wpQuiet_nil ?_
      intro w3 hw3
      have H3 := Lib.hid (hw3 ▸ H2.out.drew : SL W _ w3)
      clear hw3 H2 L K z HC1 HC2
      refine wpKeep_nil ?_
      obtain ⟨L, K, z⟩ := H3.out.look
      go_upto_region 9 with fail
      refine name_world (P := Code.wp _ _ _ _) ?_
      intro w4 hw4
      have H4 := Lib.hid (SL.cast hw4 ((H3.out.set (off := 1) (v := .slice Ak y.key.length ck) (cs' := #[.int .i64 y.r, .slice Ak y.key.length ck, .slice Ad x.data.length cd, .bool y.bad]) rfl).set (off := 2) (v := .slice Ad y.data.length cd) (cs' := #[.int .i64 y.r, .slice Ak y.key.length ck, .slice Ad y.data.length cd, .bool y.bad]) rfl))
      clear hw4 H3 L K z
      obtain ⟨L, K, z⟩ := H4.out.look
      have hol : out.length ≤ 40 := by have h : out.length ≤ k := HOK.out.len; omega
      have hfo : Fit (out ++ [y]) := ⟨by simp; omega, fun z hz => by
        rcases List.mem_append.1 hz with h | h
        · have := HOK.out.size z h; omega
        · obtain rfl := List.mem_singleton.1 h
          rw [HY.out]; simp only [trackR, List.length_take]; omega⟩
      have HFO := Lib.hid hfo
      clear hfo
      go_wp2_with fail
      refine (rfits_any A3 out c3 y Ak Ad ck cd w4 (recsS_at H4.out.s1) HFO.out (HA1.out.grow H4.out.1) (HA2.out.grow H4.out.1)).mono ?_
      rintro e w5 ⟨rfl, b5⟩
      have H5 := Lib.hid (H4.out.grow b5)
      clear b5 H4 L K z
      cases hv : validB (out ++ [y])
      · have HV := Lib.hid (show trackS (l.take (k + 1)) = (out, last) by rw [HB.out, ← HST.out]; unfold trackStep; dsimp only; rw [← HY.out, hv]; rfl)
        clear hv
        go_wp2
        go_roundw
        case rel => exact ⟨k + 1, A3, c3, (out, last), by omega, by omega, by go_num, HV.out.symm, rfl, rfl, H5.out.drop⟩
        case measure => simp [intOf]; omega
      · have HV := Lib.hid (show trackS (l.take (k + 1)) = (out ++ [y], y.r) by rw [HB.out, ← HST.out]; unfold trackStep; dsimp only; rw [← HY.out, hv]; rfl)
        clear hv
        obtain ⟨L, K, z⟩ := H5.out.look
        go_wp2_with fail
        refine (one_any y Ak Ad ck cd H5.out (HA1.out.grow H5.out.1) (HA2.out.grow H5.out.1) (HFO.out.2 y (by simp))).mono ?_
        rintro e w6 ⟨vk, vd, rfl, S6⟩
        obtain ⟨ps, hps, S7⟩ := recsS_open S6.s3
        have hpl : ps.length = out.length := by rw [← hps, List.length_map]
        rw [hpl] at S7
        have H7 := Lib.hid S7
        have HP := Lib.hid (And.intro hpl hps)
        clear S6 S7 hps hpl H5 L K z
        go_wp2_with (at_builtin; refine wpList_pushS rfl _ _ _ rfl recElem w6 [.int .i64 y.r, vk, vd, .bool y.bad] 1 rfl rfl (by
                       obtain ⟨_, _, e1, _, _⟩ := own_slice H7.out.s2.own
                       obtain ⟨_, _, e2, _, _⟩ := own_slice H7.out.s3.own
                       rw [e1, e2]
                       simp [Value.oneCell']) _ out.length _ rfl rfl H7.out (by unfold maxLen; omega) (by omega) ?_
                     intro A8 c8 w8 S8
                     have H8 := Lib.hid S8
                     clear S8 H7
                     obtain ⟨L, K, z⟩ := H8.out.s4.look)
        go_roundw
        case rel =>
          refine ⟨k + 1, A8, c8, (out ++ [y], y.r), by omega, by omega, by go_num, HV.out.symm, by simp, rfl, ?_⟩
          have h := recO_snoc (v := .slice A8 (out.length + 1) c8) (n := out.length + 1) (xs := ps.flatMap recCells ++ [.int .i64 y.r, vk, vd, .bool y.bad]) (x := y) (H8.out.s4.drop.s1.b3)
          have h2 := recsS_close' (n := out.length + 1) (rs := out ++ [y]) (ps := ps ++ [((vk, vd), y)]) (by simp [HP.out.1]) (by simp [HP.out.2]) (by rw [flat_snoc]; exact h)
          rw [List.length_append, List.length_singleton]
          exact h2
        case measure => simp [intOf]; omega
    · have htk : trackL l = out := by
        unfold trackL
        have h : l.take 40 = l.take k := by
          by_cases h : k = 40
          · rw [h]
          · rw [List.take_of_length_le (by omega), List.take_of_length_le (by omega)]
        rw [h, ← HST.out]
      have HTK := Lib.hid htk
      clear htk
      by_cases h1 : (k : Int) < (l.length : Int)
      · have h2 : ¬ ((k : Int) < 40) := by omega
        go_wp2
        go_ret
        rw [HTK.out]
        exact ⟨_, _, rfl, H1.out⟩
      · go_wp2
        go_ret
        rw [HTK.out]
        exact ⟨_, _, rfl, H1.out⟩
end
end Go.Proofs.Ytelfihgkbbaifaa
