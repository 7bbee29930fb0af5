/- Decode of the reference. -/
import Derived.Test.YtelfihgkbbaifaaDecP
namespace Go.Proofs.Ytelfihgkbbaifaa
open Go.RowKit
theorem getD_drop {l : List UInt8} {k i : Nat} : (l.drop k).getD i 0 = l.getD (k + i) 0 := by
  rw [List.getD_eq_getElem?_getD, List.getD_eq_getElem?_getD, List.getElem?_drop]
theorem hN_drop {l : List UInt8} {k i : Nat} : hN (l.drop k) i = hN l (k + i) := by
  unfold hN; rw [getD_drop, getD_drop, Nat.add_assoc]
theorem ret_val {a b : Int} (h : a = b) : Value.int .i64 a = .int .i64 b := by rw [h]
section
variable {W w : World} {F : List SA}
set_option maxRecDepth 100000 in
set_option maxHeartbeats 16000000 in
theorem rdecode_any (A : Option Addr) (b : List UInt8) (c : Nat) (S : SL W F w) (hr : CardAt w A b c) (hb : b.length ≤ 1000000) :
    Calls Try.prog 48 #[.slice A b.length c] w (RetD W F (decQ b)) := by
  have HS := Lib.hid S
  have HR := Lib.hid hr
  have hcl := hr.2.1
  have hcm : c ≤ 9223372036854775807 := by have := hr.2.2; unfold maxLen at this; omega
  clear S hr
  go_enter Try.func48, Try.ntmps48
  go_wp2
  go_loopw [6, 7, 8, 9] (fun vc vh vt va wr => ∃ (t : List Rec) (cy hd at_ : Nat) (A3 : Option Addr) (c3 : Nat) (ps : List RV), vt = .slice A3 t.length c3 ∧ vc = .int .i64 cy ∧ vh = .int .i64 hd ∧ va = .int .i64 at_ ∧
    at_ ≤ b.length ∧ t.length * 8 ≤ at_ ∧ (at_ = 0 ↔ t.length = 0) ∧ cy ≤ 65535 ∧ hd ≤ 65535 ∧ goQ [] 0 0 b = goQ t cy hd (b.drop at_) ∧ (∀ x ∈ t, x.key.length ≤ 255 ∧ x.data.length ≤ 65535) ∧
    ps.map Prod.snd = t ∧ SL w (rowS 25 4 (.slice A3 t.length c3) t.length (ps.flatMap recCells) :: star (ps.map recO) :: []) wr) (fun _ _ _ va _ => b.length - (intOf va).toNat)
  case atStart => exact ⟨[], 0, 0, 0, none, 0, [], rfl, rfl, rfl, rfl, Nat.zero_le _, by simp, by simp, by omega, by omega, rfl, by simp, rfl, (SL.start w).empty.nil _ _⟩
  case round =>
    obtain ⟨t, cy, hd, at_, A3, c3, ps, rfl, rfl, rfl, rfl, hab, htl, hiff, hcy, hhd, hgo, hsz, hps, S1⟩ := hrel
    have H1 := Lib.hid S1
    have HSZ := Lib.hid (And.intro hsz hps)
    have HIF := Lib.hid hiff
    clear S1 hsz hps hiff
    have hdl : (b.drop at_).length = b.length - at_ := List.length_drop
    by_cases h8 : at_ + 8 < b.length
    · have hstep := goQ.eq_1 t cy hd (b.drop at_)
      rw [dif_pos (by omega), hdl, hN_drop, hN_drop] at hstep
      obtain ⟨bb, off, hA, c4⟩ := byte_cell HR.out.1 (i := at_ + 4) (by omega)
      subst hA
      obtain ⟨b2, off2, hA, c5⟩ := byte_cell HR.out.1 (i := at_ + 5) (by omega)
      injection hA with hA; injection hA with hA1 hA2
      subst hA1; subst hA2
      have HC := Lib.hid (fun (wx : World) (hx : Below w.heap.size w wx) => (And.intro ((hx.cell (p := ⟨bb, off + (at_ + 4), none⟩) (World.block_lt_of_cell? w _ c4)).trans c4) ((hx.cell (p := ⟨bb, off + (at_ + 5), none⟩) (World.block_lt_of_cell? w _ c5)).trans c5)))
      have HATX := Lib.hid (fun (i : Nat) (hi : i + 1 < b.length) (wx : World) (hx : Below w.heap.size w wx) => rhalf2_any (some ⟨bb, off, none⟩) b c i wx ((HR.out.grow hx).1) hi (by omega))
      have hl0 := hN_lt b (at_ + 0)
      have hl2 := hN_lt b (at_ + 2)
      have hl6 : dl (b.drop at_) ≤ 65535 := hN_lt _ 6
      have hd6 : hN b (at_ + 6) = dl (b.drop at_) := hN_drop.symm
      have hk5 : (b.getD (at_ + 5) 0).toNat = kl (b.drop at_) := by unfold kl; rw [getD_drop]
      have hlk : kl (b.drop at_) ≤ 255 := by have := ((b.drop at_).getD 5 0).toNat_lt; unfold kl; omega
      have HPE := Lib.hid (show pend (b.drop at_) = 8 + kl (b.drop at_) + dl (b.drop at_) from rfl)
      have HRL := Lib.hid (fun h : pend (b.drop at_) ≤ b.length - at_ => recOf_len (r := b.drop at_) (by rw [hdl]; exact h))
      obtain ⟨x, hx⟩ : ∃ x, x = recOf (b.drop at_) := ⟨_, rfl⟩
      have hx0 : 0 ≤ x.r ∧ x.r ≤ 255 := by have := ((b.drop at_).getD 4 0).toNat_lt; rw [hx]; simp only [recOf]; omega
      have hx4 : ((b.getD (at_ + 4) 0).toNat : Int) = x.r := by rw [hx]; simp only [recOf]; rw [getD_drop]
      rw [hx4, hk5] at HC
      rw [← hx] at hstep HRL
      have HXK := Lib.hid (show x.key = ((b.drop at_).drop 8).take (kl (b.drop at_)) ∧ x.data = ((b.drop at_).drop (8 + kl (b.drop at_))).take (dl (b.drop at_)) by rw [hx]; exact ⟨rfl, rfl⟩)
      have HXB := Lib.hid (show x.bad = false by rw [hx]; rfl)
      have HGO := Lib.hid hgo
      have HST := Lib.hid hstep
      have HAT6 := Lib.hid (by have h := HATX.out (at_ + 6) (by omega); rw [hd6, show ((at_ + 6 : Nat) : Int) = (at_ : Int) + 6 from by omega] at h; exact h)
      have HATA := Lib.hid (show ∀ (wx : World) (hx : Below w.heap.size w wx), Calls Try.prog 66 #[.slice (some ⟨bb, off, none⟩) b.length c, .int .i64 0] wx fun e w' => e = .returned (.int .i64 (hN b 0 : Int)) ∧ Still wx w' from fun wx hx => HATX.out 0 (by omega) wx hx)
      have HATB := Lib.hid (show ∀ (wx : World) (hx : Below w.heap.size w wx), Calls Try.prog 66 #[.slice (some ⟨bb, off, none⟩) b.length c, .int .i64 2] wx fun e w' => e = .returned (.int .i64 (hN b 2 : Int)) ∧ Still wx w' from fun wx hx => HATX.out 2 (by omega) wx hx)
      clear hx hx4 hstep hk5 hd6 c4 c5 hgo hdl
      generalize pend (b.drop at_) = pe at *
      generalize dl (b.drop at_) = nd at *
      generalize kl (b.drop at_) = nk at *
      have hs4 : IntKind.i64.wrap ((at_ : Int) + 4) = (at_ : Int) + 4 := IntWalk.i64_in _ (by omega)
      have hs5 : IntKind.i64.wrap ((at_ : Int) + 5) = (at_ : Int) + 5 := IntWalk.i64_in _ (by omega)
      have hs6 : IntKind.i64.wrap ((at_ : Int) + 6) = (at_ : Int) + 6 := IntWalk.i64_in _ (by omega)
      have hs8 : IntKind.i64.wrap ((at_ : Int) + 8) = (at_ : Int) + 8 := IntWalk.i64_in _ (by omega)
      have g40 : ((0 : Int) ≤ (at_ : Int) + 4) = True := eq_true (by omega)
      have g41 : ((at_ : Int) + 4 < (b.length : Int)) = True := eq_true (by omega)
      have n4 : ((at_ : Int) + 4).toNat = at_ + 4 := by omega
      have g50 : ((0 : Int) ≤ (at_ : Int) + 5) = True := eq_true (by omega)
      have g51 : ((at_ : Int) + 5 < (b.length : Int)) = True := eq_true (by omega)
      have n5 : ((at_ : Int) + 5).toNat = at_ + 5 := by omega
      have hnk : IntKind.i64.wrap (nk : Int) = (nk : Int) := IntWalk.i64_in _ (by omega)
      have hx5 : IntKind.i64.wrap x.r = x.r := IntWalk.i64_in _ (by omega)
      go_upto_region 5 with fail
      refine wp_region_quiet (C := SL w _) (by kernel_rfl) (by kernel_rfl) H1.out.drew ?_
      (repeat (with_reducible refine wpQuiet_step ?_; intro K hK; go_simp; first | (with_reducible refine hK _ ?_; clear hK K) | (rw [if_neg (by decide)]; with_reducible refine hK _ ?_; clear hK K) | (refine ⟨_, fun wx hx => (by obtain ⟨f4, f5⟩ := HC.out wx hx.below; go_simp; with_reducible rfl), hK _ ?_⟩; clear hK K) | (refine ⟨_, fun wx hx => (by with_reducible refine (HAT6.out wx hx.below).mono ?_; rintro e w' ⟨rfl, s⟩; exact ⟨rfl, hx.still s⟩), hK _ ?_⟩; clear hK K) | (refine ⟨_, fun _ _ => rfl, hK _ ?_⟩; clear hK K)))
      refine wpQuiet_nil ?_
      intro wq hwq
      have H2 := Lib.hid hwq
      clear hwq H1
      by_cases e3 : b.length - at_ < pe
      case pos =>
        have hpe := HPE.out
        have t3 : decide ((b.length : Int) - (at_ : Int) < 8 + (nk : Int) + (nd : Int)) = true := by simp; omega
        have HN := Lib.hid (show decQ b = none by unfold decQ; rw [HGO.out, HST.out, if_pos e3])
        clear e3 hpe
        go_wp2
        refine bodyPost_ret (v := .tuple #[.int .i64 0, .int .i64 0, .slice none 0 0, .int .i64 5]) (by simp [results, Try.results48, go_sem]) rfl ?_
        rw [HN.out]
        exact RetD.bad (HS.out.join H2.out.drop.drop)
      have t3 : decide ((b.length : Int) - (at_ : Int) < 8 + (nk : Int) + (nd : Int)) = false := by have hpe := HPE.out; simp; omega
      have hpl : pe ≤ b.length - at_ := by omega
      by_cases h0 : at_ = 0
      · have ht0 : t.length = 0 := HIF.out.1 h0
        have HC1 := Lib.hid (show (if t.length = 0 then hN b (at_ + 0) else cy) = hN b 0 ∧ (if t.length = 0 then hN b (at_ + 2) else hd) = hN b 2 by rw [if_pos ht0, if_pos ht0, h0]; exact ⟨rfl, rfl⟩)
        have hca := hN_lt b 0
        have hha := hN_lt b 2
        have t0 : ((at_ : Int) == 0) = true := by rw [beq_iff_eq]; omega
        clear h0 ht0
        generalize hN b 0 = ca at *
        generalize hN b 2 = ha at *
        go_wp2_with fail
        (with_reducible refine (HATA.out _ H2.out.below).mono ?_); rintro e wxH3 ⟨rfl, sx⟩; have H3 := Lib.hid (H2.out.still sx); clear sx H2
        go_wp2_with fail
        (with_reducible refine (HATB.out _ H3.out.below).mono ?_); rintro e wxH4 ⟨rfl, sx⟩; have H4 := Lib.hid (H3.out.still sx); clear sx H3
        have HGN := Lib.hid (show goQ [] 0 0 b = goQ (t ++ [x]) ca ha (b.drop (at_ + pe)) by rw [HGO.out, HST.out, if_neg (by omega), HC1.out.1, HC1.out.2, List.drop_drop])
        go_upto_region 10 with fail
        have hkp : 8 + nk + nd = pe := HPE.out.symm
        have hs9 : IntKind.i64.wrap ((at_ : Int) + 8 + (nk : Int)) = (at_ : Int) + 8 + (nk : Int) := IntWalk.i64_in _ (by omega)
        have hs10 : IntKind.i64.wrap ((at_ : Int) + 8 + (nk : Int) + (nd : Int)) = (at_ : Int) + 8 + (nk : Int) + (nd : Int) := IntWalk.i64_in _ (by omega)
        have q0 : ((0 : Int) ≤ (at_ : Int) + 8) = True := eq_true (by omega)
        have q00 : ((0 : Int) ≤ (at_ : Int) + 8 + (nk : Int)) = True := eq_true (by omega)
        have q01 : ((0 : Int) ≤ (at_ : Int) + 8 + (nk : Int) + (nd : Int)) = True := eq_true (by omega)
        have q1 : ((at_ : Int) + 8 ≤ (at_ : Int) + 8 + (nk : Int)) = True := eq_true (by omega)
        have q2 : ((at_ : Int) + 8 + (nk : Int) ≤ (c : Int)) = True := eq_true (by omega)
        have q3 : ((at_ : Int) + 8 + (nk : Int) ≤ (at_ : Int) + 8 + (nk : Int) + (nd : Int)) = True := eq_true (by omega)
        have q4 : ((at_ : Int) + 8 + (nk : Int) + (nd : Int) ≤ (c : Int)) = True := eq_true (by omega)
        have n8 : ((at_ : Int) + 8).toNat = at_ + 8 := by omega
        have n9 : ((at_ : Int) + 8 + (nk : Int)).toNat = at_ + 8 + nk := by omega
        have n10 : ((at_ : Int) + 8 + (nk : Int) + (nd : Int)).toNat = at_ + 8 + nk + nd := by omega
        have e8 : (c = at_ + 8) = False := eq_false (by omega)
        obtain ⟨Ad, hAd⟩ : ∃ Ad, (if c = at_ + 8 + nk then some (⟨bb, off, none⟩ : Addr) else some ⟨bb, off + (at_ + 8 + nk), none⟩) = Ad := ⟨_, rfl⟩
        have HLN := Lib.hid (HRL.out hpl)
        have HCK := Lib.hid (show CardAt w (some ⟨bb, off + (at_ + 8), none⟩) x.key (c - (at_ + 8)) by
          have h := (HR.out.drop (at_ + 8) (by omega) (some ⟨bb, off + (at_ + 8), none⟩) (fun _ => rfl)).take nk
          rw [← List.drop_drop, ← HXK.out.1] at h; exact h)
        have HCD := Lib.hid (show CardAt w Ad x.data (c - (at_ + 8 + nk)) by
          have h := (HR.out.drop (at_ + 8 + nk) (by omega) Ad (fun h => by rw [← hAd, if_neg (by omega)])).take nd
          rw [Nat.add_assoc at_, ← List.drop_drop, ← HXK.out.2, ← Nat.add_assoc] at h; exact h)
        have HCL := Lib.hid (show ∀ wx, SL w (rowS 25 4 (.slice A3 t.length c3) t.length (ps.flatMap recCells) :: star (ps.map recO) :: []) wx → Calls Try.prog 19 #[.agg #[.int .i64 x.r, .slice (some ⟨bb, off + (at_ + 8), none⟩) nk (c - (at_ + 8)), .slice Ad nd (c - (at_ + 8 + nk)), .bool false]] wx (RetO w (rowS 25 4 (.slice A3 t.length c3) t.length (ps.flatMap recCells) :: star (ps.map recO) :: []) x) from fun wx hS => by
          have h := one_any x (some ⟨bb, off + (at_ + 8), none⟩) Ad (c - (at_ + 8)) (c - (at_ + 8 + nk)) hS (HCK.out.grow hS.below) (HCD.out.grow hS.below) (by have := HLN.out; omega)
          rw [HLN.out.1, HLN.out.2, HXB.out] at h
          exact h)
        clear hkp
        refine wp_region_order2 (fun wx => wx = wxH4.drew) (Below w.heap.size w) (fun wx e => by rw [e]; exact H4.out.below.drew) [0, 1, 2, 3, 6, 7, 8, 9, 10, 11, 12, 13, 14, 15, 16, 17, 18, 19, 20, 21, 22, 23, 24, 25] [4, 5, 26] [] [27] [28] (by kernel_rfl) (by kernel_rfl) rfl (by intro c a d v w h; cases d <;> exact h) ?_
        simp only [pick, List.filterMap_cons, List.filterMap_nil, List.getElem?_cons_zero, List.getElem?_cons_succ]
        (repeat (with_reducible refine wpPure_step ?_; intro K hK; go_simp; with_reducible refine hK _ ?_; clear hK K))
        refine wpPure_nil ?_
        (repeat (with_reducible refine wpLoads_step ?_; intro K hK; go_simp; first | (with_reducible refine hK _ ?_; clear hK K) | (rw [if_neg (by decide)]; with_reducible refine hK _ ?_; clear hK K) | (refine ⟨_, fun wx hx => (by obtain ⟨f4, f5⟩ := HC.out _ hx; go_simp; with_reducible rfl), hK _ ?_⟩; clear hK K) | (refine ⟨_, fun _ _ => rfl, hK _ ?_⟩; clear hK K))); with_reducible refine wpLoads_nil ?_
        refine wpQuiet_nil ?_
        intro wz hwz
        subst hwz
        (with_reducible refine wpKeep_step ?_; intro K hK; go_simp)
        refine hK _ _ (H4.out.allocC _ _).below.drew ?_
        clear hK K
        have H5 := Lib.hid (H4.out.allocC #[.int .i64 0, .slice none 0 0, .slice none 0 0, .bool false] 25).drew
        obtain ⟨L, K, z⟩ := H5.out.look
        refine wpKeep_nil ?_
        go_wp2_with fail
        refine (HCL.out _ (H4.out.allocC _ _).drew.drop).mono ?_
        rintro e w8 ⟨vk, vd, rfl, S8⟩
        have H8 := Lib.hid S8.s2
        clear S8 H5 L K z HCL H4
        have hp8 : 8 ≤ pe := by have := HPE.out; omega
        clear q0 q00 q01 q1 q2 q3 q4 n8 n9 n10 e8 g40 g41 n4 g50 g51 n5 hAd hs4 hs5 hs6 hnk hx5
        go_wp2_with (at_builtin; refine wpList_pushS rfl _ _ _ rfl recElem w8 [.int .i64 x.r, vk, vd, .bool x.bad] 1 rfl rfl (by
                       obtain ⟨_, _, e1, _, _⟩ := own_slice H8.out.s1.own
                       obtain ⟨_, _, e2, _, _⟩ := own_slice H8.out.s2.own
                       rw [e1, e2]
                       simp [Value.oneCell']) _ t.length _ rfl rfl H8.out (by unfold maxLen; omega) (by omega) ?_
                     intro A6 c6 w6 S6
                     have H9 := Lib.hid S6
                     clear S6 H8)
        go_roundw
        case rel =>
          refine ⟨t ++ [x], ca, ha, at_ + pe, A6, c6, ps ++ [((vk, vd), x)], by simp, rfl, rfl, ret_val (by have := HPE.out; omega), by omega, by rw [List.length_append, List.length_singleton]; omega, ⟨fun h => by omega, fun h => by simp at h⟩, by omega, by omega, HGN.out, ?_, ?_, ?_⟩
          · intro y hy
            rcases List.mem_append.1 hy with h | h
            · exact HSZ.out.1 y h
            · obtain rfl := List.mem_singleton.1 h
              have := HLN.out
              omega
          · rw [List.map_append, HSZ.out.2]; rfl
          · rw [flat_snoc, List.length_append, List.length_singleton]
            exact recO_snoc H9.out
        case measure => simp [intOf]; omega
      · have ht0 : ¬ t.length = 0 := fun h => h0 (HIF.out.2 h)
        have HC1 := Lib.hid (show (if t.length = 0 then hN b (at_ + 0) else cy) = cy ∧ (if t.length = 0 then hN b (at_ + 2) else hd) = hd from ⟨if_neg ht0, if_neg ht0⟩)
        have t0 : ((at_ : Int) == 0) = false := by rw [beq_eq_false_iff_ne]; omega
        have H4 := Lib.hid H2.out
        clear h0 ht0 H2
        have HGN := Lib.hid (show goQ [] 0 0 b = goQ (t ++ [x]) cy hd (b.drop (at_ + pe)) by rw [HGO.out, HST.out, if_neg (by omega), HC1.out.1, HC1.out.2, List.drop_drop])
        go_upto_region 10 with fail
        have hkp : 8 + nk + nd = pe := HPE.out.symm
        have hs9 : IntKind.i64.wrap ((at_ : Int) + 8 + (nk : Int)) = (at_ : Int) + 8 + (nk : Int) := IntWalk.i64_in _ (by omega)
        have hs10 : IntKind.i64.wrap ((at_ : Int) + 8 + (nk : Int) + (nd : Int)) = (at_ : Int) + 8 + (nk : Int) + (nd : Int) := IntWalk.i64_in _ (by omega)
        have q0 : ((0 : Int) ≤ (at_ : Int) + 8) = True := eq_true (by omega)
        have q00 : ((0 : Int) ≤ (at_ : Int) + 8 + (nk : Int)) = True := eq_true (by omega)
        have q01 : ((0 : Int) ≤ (at_ : Int) + 8 + (nk : Int) + (nd : Int)) = True := eq_true (by omega)
        have q1 : ((at_ : Int) + 8 ≤ (at_ : Int) + 8 + (nk : Int)) = True := eq_true (by omega)
        have q2 : ((at_ : Int) + 8 + (nk : Int) ≤ (c : Int)) = True := eq_true (by omega)
        have q3 : ((at_ : Int) + 8 + (nk : Int) ≤ (at_ : Int) + 8 + (nk : Int) + (nd : Int)) = True := eq_true (by omega)
        have q4 : ((at_ : Int) + 8 + (nk : Int) + (nd : Int) ≤ (c : Int)) = True := eq_true (by omega)
        have n8 : ((at_ : Int) + 8).toNat = at_ + 8 := by omega
        have n9 : ((at_ : Int) + 8 + (nk : Int)).toNat = at_ + 8 + nk := by omega
        have n10 : ((at_ : Int) + 8 + (nk : Int) + (nd : Int)).toNat = at_ + 8 + nk + nd := by omega
        have e8 : (c = at_ + 8) = False := eq_false (by omega)
        obtain ⟨Ad, hAd⟩ : ∃ Ad, (if c = at_ + 8 + nk then some (⟨bb, off, none⟩ : Addr) else some ⟨bb, off + (at_ + 8 + nk), none⟩) = Ad := ⟨_, rfl⟩
        have HLN := Lib.hid (HRL.out hpl)
        have HCK := Lib.hid (show CardAt w (some ⟨bb, off + (at_ + 8), none⟩) x.key (c - (at_ + 8)) by
          have h := (HR.out.drop (at_ + 8) (by omega) (some ⟨bb, off + (at_ + 8), none⟩) (fun _ => rfl)).take nk
          rw [← List.drop_drop, ← HXK.out.1] at h; exact h)
        have HCD := Lib.hid (show CardAt w Ad x.data (c - (at_ + 8 + nk)) by
          have h := (HR.out.drop (at_ + 8 + nk) (by omega) Ad (fun h => by rw [← hAd, if_neg (by omega)])).take nd
          rw [Nat.add_assoc at_, ← List.drop_drop, ← HXK.out.2, ← Nat.add_assoc] at h; exact h)
        have HCL := Lib.hid (show ∀ wx, SL w (rowS 25 4 (.slice A3 t.length c3) t.length (ps.flatMap recCells) :: star (ps.map recO) :: []) wx → Calls Try.prog 19 #[.agg #[.int .i64 x.r, .slice (some ⟨bb, off + (at_ + 8), none⟩) nk (c - (at_ + 8)), .slice Ad nd (c - (at_ + 8 + nk)), .bool false]] wx (RetO w (rowS 25 4 (.slice A3 t.length c3) t.length (ps.flatMap recCells) :: star (ps.map recO) :: []) x) from fun wx hS => by
          have h := one_any x (some ⟨bb, off + (at_ + 8), none⟩) Ad (c - (at_ + 8)) (c - (at_ + 8 + nk)) hS (HCK.out.grow hS.below) (HCD.out.grow hS.below) (by have := HLN.out; omega)
          rw [HLN.out.1, HLN.out.2, HXB.out] at h
          exact h)
        clear hkp
        refine wp_region_order2 (fun wx => wx = wq.drew) (Below w.heap.size w) (fun wx e => by rw [e]; exact H4.out.below.drew) [0, 1, 2, 3, 6, 7, 8, 9, 10, 11, 12, 13, 14, 15, 16, 17, 18, 19, 20, 21, 22, 23, 24, 25] [4, 5, 26] [] [27] [28] (by kernel_rfl) (by kernel_rfl) rfl (by intro c a d v w h; cases d <;> exact h) ?_
        simp only [pick, List.filterMap_cons, List.filterMap_nil, List.getElem?_cons_zero, List.getElem?_cons_succ]
        (repeat (with_reducible refine wpPure_step ?_; intro K hK; go_simp; with_reducible refine hK _ ?_; clear hK K))
        refine wpPure_nil ?_
        (repeat (with_reducible refine wpLoads_step ?_; intro K hK; go_simp; first | (with_reducible refine hK _ ?_; clear hK K) | (rw [if_neg (by decide)]; with_reducible refine hK _ ?_; clear hK K) | (refine ⟨_, fun wx hx => (by obtain ⟨f4, f5⟩ := HC.out _ hx; go_simp; with_reducible rfl), hK _ ?_⟩; clear hK K) | (refine ⟨_, fun _ _ => rfl, hK _ ?_⟩; clear hK K))); with_reducible refine wpLoads_nil ?_
        refine wpQuiet_nil ?_
        intro wz hwz
        subst hwz
        (with_reducible refine wpKeep_step ?_; intro K hK; go_simp)
        refine hK _ _ (H4.out.allocC _ _).below.drew ?_
        clear hK K
        have H5 := Lib.hid (H4.out.allocC #[.int .i64 0, .slice none 0 0, .slice none 0 0, .bool false] 25).drew
        obtain ⟨L, K, z⟩ := H5.out.look
        refine wpKeep_nil ?_
        go_wp2_with fail
        refine (HCL.out _ (H4.out.allocC _ _).drew.drop).mono ?_
        rintro e w8 ⟨vk, vd, rfl, S8⟩
        have H8 := Lib.hid S8.s2
        clear S8 H5 L K z HCL H4
        have hp8 : 8 ≤ pe := by have := HPE.out; omega
        clear q0 q00 q01 q1 q2 q3 q4 n8 n9 n10 e8 g40 g41 n4 g50 g51 n5 hAd hs4 hs5 hs6 hnk hx5
        go_wp2_with (at_builtin; refine wpList_pushS rfl _ _ _ rfl recElem w8 [.int .i64 x.r, vk, vd, .bool x.bad] 1 rfl rfl (by
                       obtain ⟨_, _, e1, _, _⟩ := own_slice H8.out.s1.own
                       obtain ⟨_, _, e2, _, _⟩ := own_slice H8.out.s2.own
                       rw [e1, e2]
                       simp [Value.oneCell']) _ t.length _ rfl rfl H8.out (by unfold maxLen; omega) (by omega) ?_
                     intro A6 c6 w6 S6
                     have H9 := Lib.hid S6
                     clear S6 H8)
        go_roundw
        case rel =>
          refine ⟨t ++ [x], cy, hd, at_ + pe, A6, c6, ps ++ [((vk, vd), x)], by simp, rfl, rfl, ret_val (by have := HPE.out; omega), by omega, by rw [List.length_append, List.length_singleton]; omega, ⟨fun h => by omega, fun h => by simp at h⟩, by omega, by omega, HGN.out, ?_, ?_, ?_⟩
          · intro y hy
            rcases List.mem_append.1 hy with h | h
            · exact HSZ.out.1 y h
            · obtain rfl := List.mem_singleton.1 h
              have := HLN.out
              omega
          · rw [List.map_append, HSZ.out.2]; rfl
          · rw [flat_snoc, List.length_append, List.length_singleton]
            exact recO_snoc H9.out
        case measure => simp [intOf]; omega
    · have hstep := goQ.eq_1 t cy hd (b.drop at_)
      rw [dif_neg (by omega)] at hstep
      have HD := Lib.hid (show decQ b = if encE cy hd t = 0 ∧ encB cy hd t = b then some (cy, hd, t) else none by unfold decQ; rw [hgo, hstep])
      have hft : Fit t := ⟨by omega, fun x hx => by have := HSZ.out.1 x hx; omega⟩
      have HFT := Lib.hid hft
      clear hgo hstep hft hdl
      have hrec : RecsAt wr A3 t := by have h := recs_at H1.out; rw [HSZ.out.2] at h; exact h
      have HV := Lib.hid (rencode_any A3 t c3 (cy : Int) (hd : Int) H1.out hrec HFT.out)
      clear hrec
      go_wp2_with fail
      refine HV.out.mono ?_
      rintro e w2 ⟨A4, c4, rfl, S2⟩
      have H2 := Lib.hid S2
      have HAT := Lib.hid S2.at_
      clear S2 H1 HV
      by_cases he : encE cy hd t = 0
      case neg =>
        have HN := Lib.hid (show decQ b = none by rw [HD.out, if_neg (fun h => he h.1)])
        have t9 : ((encE cy hd t : Int) != 0) = true := by simp; omega
        clear he
        generalize encE cy hd t = ee at *
        generalize encB cy hd t = eb at *
        go_wp2
        refine bodyPost_ret (v := .tuple #[.int .i64 0, .int .i64 0, .slice none 0 0, .int .i64 5]) (by simp [results, Try.results48, go_sem]) rfl ?_
        rw [HN.out]
        exact RetD.bad (HS.out.join H2.out.drop.drop.drop)
      have t9 : ((encE cy hd t : Int) != 0) = false := by simp; omega
      have HE := Lib.hid he
      clear he
      generalize encE cy hd t = ee at *
      generalize encB cy hd t = eb at *
      have HC1 := run_string_of_at (P := Try.prog) (w := w2) 23 9 5 Try.underlying23 Try.underlying5 Try.underlying9 eb c4 HAT.out
      have HC2 := run_string_of_at (P := Try.prog) (w := w2) 23 9 5 Try.underlying23 Try.underlying5 Try.underlying9 b c (HR.out.grow H2.out.below).1
      have e1 := bytes_beq eb b
      by_cases hq : eb = b
      · have HN := Lib.hid (show decQ b = some (cy, hd, t) by rw [HD.out, if_pos ⟨HE.out, hq⟩])
        rw [decide_eq_true hq] at e1
        clear hq
        generalize (⟨eb.toArray⟩ : ByteArray) = sk at *
        generalize (⟨b.toArray⟩ : ByteArray) = sl at *
        go_wp2
        refine bodyPost_ret (v := .tuple #[.int .i64 cy, .int .i64 hd, .slice A3 t.length c3, .int .i64 0]) (by simp [results, Try.results48, go_sem]) rfl ?_
        rw [HN.out]
        exact ⟨A3, c3, rfl, HS.out.join (recsS_close' (by rw [← HSZ.out.2, List.length_map]) HSZ.out.2 H2.out.drop)⟩
      · have HN := Lib.hid (show decQ b = none by rw [HD.out, if_neg (fun h => hq h.2)])
        rw [decide_eq_false hq] at e1
        clear hq
        generalize (⟨eb.toArray⟩ : ByteArray) = sk at *
        generalize (⟨b.toArray⟩ : ByteArray) = sl at *
        go_wp2
        refine bodyPost_ret (v := .tuple #[.int .i64 0, .int .i64 0, .slice none 0 0, .int .i64 5]) (by simp [results, Try.results48, go_sem]) rfl ?_
        rw [HN.out]
        exact RetD.bad (HS.out.join H2.out.drop.drop.drop)
end
end Go.Proofs.Ytelfihgkbbaifaa
