/- clone: a copy of a track. -/
import Derived.Test.YtmkndbledppniaaGreatSel
namespace Go.Proofs.YtmkndbledppniaaGreat
open Go.RowKit
def zRec : Rec := ⟨0, [], [], false⟩
theorem padL_self (b : List UInt8) : padL b b.length = b := by unfold padL; simp
theorem made_zero (n : Nat) : (madeCells (Value.agg #[.int .i64 0, .slice none 0 0, .slice none 0 0, .bool false]).cells (n * 4)).toList = (List.replicate n ((.slice none 0 0, .slice none 0 0), zRec) : List RV).flatMap recCells := by
  have hlen : ∀ l : List RV, (l.flatMap recCells).length = l.length * 4 := fun l => by
    induction l with
    | nil => rfl
    | cons a l ih => simp only [List.flatMap_cons, List.length_append, ih, List.length_cons, recCells]; simp; omega
  apply List.ext_getElem?
  intro j
  by_cases hj : j < n * 4
  · obtain ⟨i, k, hk, rfl⟩ : ∃ i k, k < 4 ∧ j = i * 4 + k := ⟨j / 4, j % 4, Nat.mod_lt _ (by omega), by omega⟩
    rw [recCells_get _ i k ((.slice none 0 0, .slice none 0 0), zRec) (by rw [List.getElem?_replicate, if_pos (by omega)]) hk]
    rw [Array.getElem?_toList, madeCells, Array.getElem?_map, Array.getElem?_range, if_pos hj]
    show some ((#[Value.int .i64 0, .slice none 0 0, .slice none 0 0, .bool false])[(i * 4 + k) % 4]!) = _
    rw [show (i * 4 + k) % 4 = k by omega]
    match k, hk with
    | 0, _ => rfl
    | 1, _ => rfl
    | 2, _ => rfl
    | 3, _ => rfl
  · rw [List.getElem?_eq_none (by rw [Array.length_toList, size_madeCells]; omega), List.getElem?_eq_none (by rw [hlen, List.length_replicate]; omega)]
section
variable {W w : World} {F : List SA}
theorem star_zero (S : SL W F w) : ∀ n : Nat, SL W (star ((List.replicate n (((.slice none 0 0, .slice none 0 0), zRec) : RV)).map recO) :: F) w
  | 0 => by simpa using S.empty
  | n + 1 => by
    have h1 := ((star_zero S n).nil 5 1).nil 5 1
    have h := SL.snoc (P := recO ((.slice none 0 0, .slice none 0 0), zRec)) (SL.app (L := [_, _]) h1)
    rw [List.replicate_succ', List.map_append]
    exact h
theorem recs_zero {v : Value} {n : Nat} (S : SL W (rowS 62 4 v n (madeCells (Value.agg #[.int .i64 0, .slice none 0 0, .slice none 0 0, .bool false]).cells (n * 4)).toList :: F) w) : SL W (recsS v (List.replicate n zRec) :: F) w := by
  rw [made_zero] at S
  exact recsS_close' (ps := List.replicate n ((.slice none 0 0, .slice none 0 0), zRec)) (by simp) (by simp) (star_zero S n).s1
set_option maxRecDepth 100000 in
set_option maxHeartbeats 16000000 in
theorem dclone_any (A : Option Addr) (rs : List Rec) (c : Nat) (S : SL W F w) (hr : RecsRd W F A rs) (hf : Fit rs) (hv : rs.length ≤ 4096) (hs : ∀ x ∈ rs, x.key.length ≤ 100000 ∧ x.data.length ≤ 100000) :
    Calls Tryz.prog 24 #[.slice A rs.length c] w fun e w' => ∃ A' c', e = .returned (.slice A' rs.length c') ∧ SL W (recsS (.slice A' rs.length c') rs :: F) w' := by
  have HR := Lib.hid hr
  have HS := Lib.hid S
  have HL := Lib.hid hs
  clear S hr hf hs
  go_enter Tryz.func24, Tryz.ntmps24
  go_wp2_with (at_make; refine wpList_makeS rfl _ _ _ rfl recElem .i64 .i64 _ _ rs.length rfl rfl rfl rfl (by omega) (by unfold maxLen; omega) HS.out ?_
               intro g w1 S1
               have H1 := Lib.hid (recs_zero S1)
               clear S1)
  go_loopw [11] (fun i wr => ∃ k : Nat, k ≤ rs.length ∧ i = .int .i64 k ∧ SL W (recsS (.slice (some ⟨g, 0, none⟩) rs.length rs.length) (rs.take k ++ List.replicate (rs.length - k) zRec) :: F) wr) (fun i _ => rs.length - (intOf i).toNat)
  case atStart => exact ⟨0, Nat.zero_le _, rfl, by simpa using H1.out⟩
  case round =>
    obtain ⟨k, hk, rfl, S2⟩ := hrel
    have H2 := Lib.hid S2
    clear S2 H1
    by_cases hlt : k < rs.length
    · have hb : rs[k]? = some rs[k] := by simp [hlt]
      have hbl := HL.out rs[k] (List.getElem_mem hlt)
      generalize rs[k] = x at hb hbl
      obtain ⟨g0, off, Ak, ck, Ad, cd, hA, k0, k1, k2, k3, a1, a2⟩ := HR.out wr H2.out.drop k x hb
      subst hA
      have HLT := Lib.hid hlt
      have HB := Lib.hid hb
      clear hb
      go_upto_region 5 with fail
      refine name_world (P := Code.wp _ _ _ _) ?_
      intro wd hwd
      have H3 := Lib.hid (SL.cast hwd (H2.out.allocC #[.int .i64 x.r, .slice Ak x.key.length ck, .slice Ad x.data.length cd, .bool x.bad] 62))
      have hbd : Below wr.heap.size wr wd := by rw [hwd]; exact (((Below.refl _ _).alloc (Nat.le_refl _) _))
      have HC := Lib.hid (And.intro (a1.grow hbd) (a2.grow hbd))
      clear hwd hbd H2 a1 a2 k0 k1 k2 k3
      generalize wr.heap.size = bx at *
      obtain ⟨L, K, z⟩ := H3.out.look
      have HX := Lib.hid (fun (wx : World) (hx : Below wd.heap.size wd wx) => (⟨(hx.cell (p := ⟨bx, 1, none⟩) z).trans (L 1), (hx.cell (p := ⟨bx, 2, none⟩) z).trans (L 2)⟩ : wx.cell? ⟨bx, 1, none⟩ = some (.slice Ak x.key.length ck) ∧ wx.cell? ⟨bx, 2, none⟩ = some (.slice Ad x.data.length cd)))
      clear L K z
      refine wp_region_stages (fun wx => Below wd.heap.size wd wx) [0, 2, 6, 8] [([1, 3, 4, 7, 9, 10], [5]), ([12], [11])] [13, 14, 15] (by kernel_rfl) (by kernel_rfl) (Below.refl _ _).drew (by intro c a d v w h; cases d <;> exact h) ?_
      simp only [pick, List.filterMap_cons, List.filterMap_nil, List.getElem?_cons_zero, List.getElem?_cons_succ]
      (repeat (with_reducible refine wpPure_step ?_; intro K hK; go_simp; with_reducible refine hK _ ?_; clear hK K))
      refine wpPure_nil ?_
      (with_reducible refine wpStages_step ((Below.refl _ _).drew) ?_); simp only [pick, List.filterMap_cons, List.filterMap_nil, List.getElem?_cons_zero, List.getElem?_cons_succ]
      (repeat (with_reducible refine wpLoads_step ?_; intro K hK; go_simp; first | (with_reducible refine hK _ ?_; clear hK K) | (rw [if_neg (by decide)]; with_reducible refine hK _ ?_; clear hK K) | (refine ⟨_, fun wx hx => (by obtain ⟨f0, f1⟩ := HX.out wx hx; go_simp; with_reducible rfl), hK _ ?_⟩; clear hK K) | (refine ⟨_, fun _ _ => rfl, hK _ ?_⟩; clear hK K))); with_reducible refine wpLoads_nil ?_
      (with_reducible refine wpKeep_step ?_; intro K hK; go_simp)
      refine (padded_any Ak x.key x.key.length ck x.key.length rfl (HC.out.1.grow (Below.refl _ _).drew) (by omega) (SL.start wd.drew)).mono ?_
      rintro e wk ⟨g1, rfl, S1, b1⟩
      rw [padL_self] at S1
      have HK1 := Lib.hid S1
      have B1 := Lib.hid (show Below wd.heap.size wd wk from (Below.refl _ _).drew.trans (b1.mono (Nat.le_refl _)))
      refine hK _ _ B1.out ?_
      clear hK K S1 HX b1
      refine wpKeep_nil ?_
      (with_reducible refine wpStages_step (B1.out) ?_); simp only [pick, List.filterMap_cons, List.filterMap_nil, List.getElem?_cons_zero, List.getElem?_cons_succ]
      (repeat (with_reducible refine wpLoads_step ?_; intro K hK; go_simp; first | (with_reducible refine hK _ ?_; clear hK K) | (rw [if_neg (by decide)]; with_reducible refine hK _ ?_; clear hK K) | (refine ⟨_, fun wx hx => (by skip; go_simp; with_reducible rfl), hK _ ?_⟩; clear hK K) | (refine ⟨_, fun _ _ => rfl, hK _ ?_⟩; clear hK K))); with_reducible refine wpLoads_nil ?_
      (with_reducible refine wpKeep_step ?_; intro K hK; go_simp)
      refine (padded_any Ad x.data x.data.length cd x.data.length rfl (HC.out.2.grow B1.out) (by omega) HK1.out).mono ?_
      rintro e wl ⟨g2, rfl, S4, b2⟩
      rw [padL_self] at S4
      have H4 := Lib.hid (H3.out.drew.join S4)
      refine hK _ _ (B1.out.trans (b2.mono B1.out.size)) ?_
      clear hK K S4 b2 HK1 B1 HC H3
      refine wpKeep_nil ?_
      (with_reducible refine wpStages_nil ?_); simp only [pick, List.filterMap_cons, List.filterMap_nil, List.getElem?_cons_zero, List.getElem?_cons_succ]
      -- data, key, box, list
      obtain ⟨L, K, z⟩ := H4.out.s2.look
      go_upto_region 6 with fail
      refine name_world (P := Code.wp _ _ _ _) ?_
      intro wm hwm
      have h5 := SL.cast hwm ((H4.out.s2.set (off := 1) (v := .slice (some ⟨g1, 0, none⟩) x.key.length x.key.length) (cs' := #[.int .i64 x.r, .slice (some ⟨g1, 0, none⟩) x.key.length x.key.length, .slice Ad x.data.length cd, .bool x.bad]) rfl).set (off := 2) (v := .slice (some ⟨g2, 0, none⟩) x.data.length x.data.length) (cs' := #[.int .i64 x.r, .slice (some ⟨g1, 0, none⟩) x.key.length x.key.length, .slice (some ⟨g2, 0, none⟩) x.data.length x.data.length, .bool x.bad]) rfl)
      -- box, data, key, list
      obtain ⟨ps, hps, h6⟩ := recsS_open h5.s3
      have hpl : ps.length = rs.length := by
        have e := congrArg List.length hps
        rw [List.length_map, List.length_append, List.length_take, List.length_replicate] at e; omega
      rw [hpl] at h6
      -- list, heads, box, data, key
      have H6 := Lib.hid h6
      have HPS := Lib.hid (And.intro hps hpl)
      clear hwm h5 h6 hps hpl H4 L K z
      obtain ⟨y3, cap3, cur3, hv3, hc1, _, hc2, _, S7⟩ := H6.out.rowCel (by omega)
      injection hv3 with hA3 _ hc3
      injection hA3 with hA3; injection hA3 with hA3
      subst hA3; subst hc3
      obtain ⟨L, K, z⟩ := S7.look
      obtain ⟨L2, K2, z2⟩ := H6.out.s2.look
      obtain ⟨q0, e0⟩ : ∃ v, cur3[k * 4]? = some v := ⟨_, Array.getElem?_eq_getElem (by omega)⟩
      obtain ⟨q1, e1⟩ : ∃ v, cur3[k * 4 + 1]? = some v := ⟨_, Array.getElem?_eq_getElem (by omega)⟩
      obtain ⟨q2, e2⟩ : ∃ v, cur3[k * 4 + 2]? = some v := ⟨_, Array.getElem?_eq_getElem (by omega)⟩
      obtain ⟨q3, e3⟩ : ∃ v, cur3[k * 4 + 3]? = some v := ⟨_, Array.getElem?_eq_getElem (by omega)⟩
      have H8 := Lib.hid (recs_put (i := k) (vk := .slice (some ⟨g1, 0, none⟩) x.key.length x.key.length) (vd := .slice (some ⟨g2, 0, none⟩) x.data.length x.data.length) (x := x) HLT.out HPS.out.2 (F := cel bx #[.int .i64 x.r, .slice (some ⟨g1, 0, none⟩) x.key.length x.key.length, .slice (some ⟨g2, 0, none⟩) x.data.length x.data.length, .bool x.bad] 62 :: F) H6.out.s3.s4.s2)
      clear S7 hc1 hc2
      go_wp2
      go_roundw
      case rel =>
        refine ⟨k + 1, HLT.out, by go_num, ?_⟩
        have h := H8.out.s1.drop
        rw [HPS.out.1] at h
        have hset : (rs.take k ++ List.replicate (rs.length - k) zRec).set k x = rs.take (k + 1) ++ List.replicate (rs.length - (k + 1)) zRec := by
          have hl : (rs.take k).length = k := by rw [List.length_take]; have := HLT.out; omega
          rw [List.set_append_right _ _ (by omega), hl, Nat.sub_self, List.take_add_one, HB.out, show rs.length - k = (rs.length - (k + 1)) + 1 by have := HLT.out; omega, List.replicate_succ]
          simp
        rw [hset] at h
        exact h
      case measure => have := HLT.out; simp [intOf]; omega
    · obtain rfl : k = rs.length := by omega
      rw [List.take_of_length_le (Nat.le_refl _), Nat.sub_self, List.replicate_zero, List.append_nil] at H2
      go_wp2
      go_ret
      exact ⟨_, _, rfl, H2.out⟩
end
end Go.Proofs.YtmkndbledppniaaGreat
