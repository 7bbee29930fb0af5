/- TrackSearches: the walk. -/
import Derived.Test.YtelfihgkbbaifaaCodes
namespace Go.Proofs.Ytelfihgkbbaifaa
open Go.RowKit
theorem idx3 (cs : Array Value) (v : Value) (i : Nat) (z : Int) (hz : z = (i : Int)) (hi : i < 3) (hv : cs[i]? = some v) (w : World) : (Instr.index 32 (.agg cs) (.int .i64 z)).run Try.prog w = .ok v w := by
  subst hz
  have h1 : (Try.prog.info? 3).map (·.size) = some 1 := by kernel_rfl
  obtain ⟨inf, hinf, hs⟩ := Option.map_eq_some_iff.1 h1
  have h3 : (0 : Int) ≤ (i : Int) ∧ (i : Int) < 3 := by omega
  simp [Instr.index, asIntOf, run_underlying Try.underlying32, part, isAgg, run_underlying Try.underlying3, sizeOf, typeInfo, hinf, hs, h3, hv]
  intro h; omega
theorem idx2 (cs : Array Value) (v : Value) (i : Nat) (z : Int) (hz : z = (i : Int)) (hi : i < 2) (hv : cs[i]? = some v) (w : World) : (Instr.index 33 (.agg cs) (.int .i64 z)).run Try.prog w = .ok v w := by
  subst hz
  have h1 : (Try.prog.info? 22).map (·.size) = some 1 := by kernel_rfl
  obtain ⟨inf, hinf, hs⟩ := Option.map_eq_some_iff.1 h1
  have h3 : (0 : Int) ≤ (i : Int) ∧ (i : Int) < 2 := by omega
  simp [Instr.index, asIntOf, run_underlying Try.underlying33, part, isAgg, run_underlying Try.underlying22, sizeOf, typeInfo, hinf, hs, h3, hv]
  intro h; omega
theorem searchN_lt {rs : List Rec} {fr : Int} {key : List UInt8} {high : Bool} {i : Nat} (h : searchN rs fr key high = some i) : i < rs.length := by
  unfold searchN at h
  split at h
  · cases h
  · cases hf : (rs.drop fr.toNat).findIdx? (if high then matchH key else matchE key) with
    | none => rw [hf] at h; cases h
    | some j =>
      rw [hf] at h
      have h : fr.toNat + j = i := by simpa using h
      rw [List.findIdx?_eq_some_iff_getElem] at hf
      have := hf.1
      rw [List.length_drop] at this
      omega
theorem kElem : Elem Try.prog 31 23 (.slice none 0 0) 1 24 := ⟨Try.underlying31, by kernel_rfl, rfl, by omega⟩
/-- A list of keys lies at an address. -/
def KeysAt (w : World) (A : Option Addr) (ks : List (List UInt8)) : Prop := ∃ vs : List Value, vs.length = ks.length ∧ At w w.heap.size A vs ∧ ∀ (i : Nat) (k : List UInt8), ks[i]? = some k → ∃ Ak ck, vs[i]? = some (.slice Ak k.length ck) ∧ CardAt w Ak k ck
theorem KeysAt.grow {w w' : World} {A : Option Addr} {ks : List (List UInt8)} (h : KeysAt w A ks) (hb : Below w.heap.size w w') : KeysAt w' A ks := by
  obtain ⟨vs, h0, h1, h2⟩ := h
  refine ⟨vs, h0, (h1.below hb).mono hb.size, fun i k hk => ?_⟩
  obtain ⟨Ak, ck, e, hc⟩ := h2 i k hk
  exact ⟨Ak, ck, e, hc.grow hb⟩
theorem KeysAt.get {w : World} {A : Option Addr} {ks : List (List UInt8)} (h : KeysAt w A ks) {i : Nat} {k : List UInt8} (hk : ks[i]? = some k) : ∃ g off Ak ck, A = some ⟨g, off, none⟩ ∧ w.cell? ⟨g, off + i, none⟩ = some (.slice Ak k.length ck) ∧ CardAt w Ak k ck := by
  obtain ⟨vs, h0, h1, h2⟩ := h
  obtain ⟨Ak, ck, e, hc⟩ := h2 i k hk
  obtain ⟨g, off, hA, _, h3⟩ := h1.cell e
  exact ⟨g, off, Ak, ck, hA, h3, hc⟩
def KeysV (w : World) (vs : List Value) (ks : List (List UInt8)) : Prop := vs.length = ks.length ∧ ∀ (i : Nat) (k : List UInt8), ks[i]? = some k → ∃ Ak ck, vs[i]? = some (.slice Ak k.length ck) ∧ CardAt w Ak k ck
theorem KeysV.nil {w : World} : KeysV w [] [] := ⟨rfl, fun i k h => by simp at h⟩
theorem KeysV.cons {w : World} {vs : List Value} {ks : List (List UInt8)} {Ak : Option Addr} {k : List UInt8} {n ck : Nat} (hn : k.length = n) (h : CardAt w Ak k ck) (hv : KeysV w vs ks) : KeysV w (.slice Ak n ck :: vs) (k :: ks) := by
  subst hn
  refine ⟨by simp [hv.1], fun i k' hk => ?_⟩
  match i, hk with
  | 0, hk => injection hk with hk; subst hk; exact ⟨Ak, ck, rfl, h⟩
  | i + 1, hk => exact hv.2 i k' hk
theorem KeysV.keys {w : World} {A : Option Addr} {vs : List Value} {ks : List (List UInt8)} (h : KeysV w vs ks) (ha : At w w.heap.size A vs) : KeysAt w A ks := ⟨vs, h.1, ha, h.2⟩
theorem card_nil {w : World} : CardAt w none [] 0 := ⟨At.nil_, Nat.le_refl _, Nat.zero_le _⟩
set_option maxRecDepth 100000 in
set_option maxHeartbeats 32000000 in
theorem walk_trackSearches (W : World) (A : Option Addr) (l : List Rec) (c : Nat) (hl : l.length ≤ c) (hcm : c ≤ maxLen) (hat : RecsAt W A l) (fr : Int) (wf : (Lit.int .i64 fr).wf = true) (A2 : Option Addr) (key : List UInt8) (c2 : Nat) (hl2 : key.length ≤ c2) (hcm2 : c2 ≤ maxLen) (hat2 : At W W.heap.size A2 (Lib.byteCells key)) (high : Bool) (n : UInt8) (by_ : UInt8) :
    Calls Try.prog 4 #[.slice A l.length c, .int .i64 fr, .slice A2 key.length c2, .bool high, .int .u8 (n.toNat : Int), .int .u8 (by_.toNat : Int)] W fun e W' => e = .returned (.bool true) ∧ Below W.heap.size W W' := by
  have HR := Lib.hid hat
  have HM := Lib.hid (Nat.le_trans hl hcm)
  have HK := Lib.hid (show CardAt W A2 key c2 from ⟨hat2, hl2, hcm2⟩)
  clear hat hl hcm hat2
  have hn := n.toNat_lt
  have hby := by_.toNat_lt
  go_enter Try.func4, Try.ntmps4
  go_wp2_with fail
  refine (track_any A l c (SL.start W) (RecsB.base HR.out _) HM.out).mono ?_
  rintro e w1 ⟨A1, c1, rfl, S1⟩
  have H1 := Lib.hid S1
  clear S1
  obtain ⟨t, ht⟩ : ∃ t, t = trackL l := ⟨_, rfl⟩
  have HTF := Lib.hid (show t.length ≤ 40 ∧ ∀ x ∈ t, x.key.length ≤ 255 ∧ x.data.length ≤ 2016 by rw [ht]; exact ⟨trackL_len l, trackL_size l⟩)
  have htl : t.length ≤ 40 := HTF.out.1
  rw [← ht] at H1 ⊢
  clear ht
  go_wp2_with fail
  refine (cut_any A2 key.length c2 300 300 rfl _ hl2 hcm2).mono ?_
  rintro e w2 ⟨rfl, rfl⟩
  have HKW := Lib.hid (HK.out.take 300)
  have hkl : (key.take 300).length = min key.length 300 := by rw [List.length_take, Nat.min_comm]
  have HKL := Lib.hid hkl
  rw [← HKL.out]
  have hk3 : (key.take 300).length ≤ 300 := by rw [List.length_take]; omega
  clear hkl hl2 hcm2
  generalize key.take 300 = k1 at *
  go_upto_if 32 with fail
  refine name_world (P := Code.wp _ _ _ _) ?_
  intro wA hwA
  have H2 := Lib.hid (SL.cast hwA (H1.out.lit #[.slice A2 k1.length c2, .slice none 0 0] 23 1 2 rfl (by decide)))
  clear hwA H1
  generalize w1.heap.size = kb at *
  go_cut [14] (fun v wx => ∃ A3 c3 ks, v = .slice A3 (ks : List (List UInt8)).length c3 ∧ ks.length ≤ 4 ∧ (∀ k ∈ ks, k.length ≤ 300) ∧ KeysAt wx A3 ks ∧ SL W [recsS (.slice A1 t.length c1) t] wx)
  case first =>
    by_cases ht0 : t.length = 0
    · have t0 : decide (0 < t.length) = false := decide_eq_false (by omega)
      have ht1 : t.length ≤ 0 := by omega
      clear ht0
      go_wp2_with fail
      go_meet
      case rel =>
        refine ⟨some ⟨kb, 0, none⟩, 2, [k1, []], rfl, by simp, fun k hk => ?_, (KeysV.cons rfl (HKW.out.grow H2.out.below) (KeysV.cons rfl card_nil KeysV.nil)).keys H2.out.at_, H2.out.drop⟩
        simp only [List.mem_cons, List.not_mem_nil, or_false] at hk
        rcases hk with rfl | rfl
        · exact hk3
        · simp
    · have t0 : decide (0 < t.length) = true := decide_eq_true (by omega)
      obtain ⟨j, hj⟩ : ∃ j, j = n.toNat % t.length := ⟨_, rfl⟩
      have hjl : j < t.length := by rw [hj]; exact Nat.mod_lt _ (by omega)
      have hjm : ((n.toNat : Int)).tmod (t.length : Int) = (j : Int) := by rw [hj]; rfl
      have hy : t[j]? = some t[j] := by simp [hjl]
      have HYL := Lib.hid (HTF.out.2 t[j] (List.getElem_mem hjl))
      have hyk : t[j].key.length ≤ 255 := HYL.out.1
      generalize t[j] = y at *
      have H2' := Lib.hid (H2.out.lit #[] 5 1 0 rfl (by decide))
      obtain ⟨gt, ot, Ck, ek, Cd, ed, hA, m0, m1, m2, m3, b1, b2⟩ := recsS_at H2.out.s1 j y hy
      subst hA
      have HCK := Lib.hid (b1.grow ((Below.refl _ _).alloc (Nat.le_refl _) (.cells #[] 5)))
      have zt := World.block_lt_of_cell? _ _ m0
      clear b1 b2 hy hj ht0
      go_upto_region 6 with (first
        | (at_builtin; refine wpList_appS rfl _ _ _ rfl bElem _ 0 [] rfl H2'.out _ Ck y.key.length ek (Lib.byteCells y.key) rfl HCK.out.1 (by rw [byteCells_len, Nat.mul_one]) (byteCells_one _) (by unfold maxLen; omega) (by omega) ?_
           intro A4 c4 w4 S4
           rw [Nat.zero_add, List.nil_append] at S4
           rw [Nat.zero_add]
           have H4 := Lib.hid S4
           have H4' := Lib.hid (S4.lit #[] 5 1 0 rfl (by decide))
           clear S4 H2' HCK m0 m1 m2 m3 zt)
        | (at_builtin; refine wpList_appS rfl _ _ _ rfl bElem _ 0 [] rfl H4'.out _ A4 y.key.length c4 (Lib.byteCells y.key) rfl H4'.out.s1.at_ (by rw [byteCells_len, Nat.mul_one]) (byteCells_one _) (by unfold maxLen; omega) (by omega) ?_
           intro A5 c5 w5 S5
           rw [Nat.zero_add, List.nil_append] at S5
           rw [Nat.zero_add]
           have H5 := Lib.hid S5.s2
           clear S5 H4' H4)
        | (at_builtin; refine wpList_pushS rfl _ _ _ rfl kElem w5 [.slice A5 y.key.length c5] 1 rfl rfl (by simp [Value.oneCell']) _ 2 _ rfl rfl H5.out (by unfold maxLen; omega) (by omega) ?_
           intro A6 c6 w6 S6
           have H6 := Lib.hid S6
           clear S6 H5))
      have H7 := Lib.hid H6.out.s2
      clear H6
      by_cases hy0 : y.key.length = 0
      · have y0 : decide (0 < y.key.length) = false := decide_eq_false (by omega)
        have hyk0 : y.key.length ≤ 0 := by omega
        clear hy0
        go_wp2_with (at_builtin; refine wpList_pushS rfl _ _ _ rfl kElem w6 [.slice A4 y.key.length c4] 1 rfl rfl (by simp [Value.oneCell']) _ 3 _ rfl rfl H7.out.s1 (by unfold maxLen; omega) (by omega) ?_
                     intro A8 c8 w8 S8
                     have H8 := Lib.hid S8
                     clear S8 H7)
        go_meet
        case rel =>
          refine ⟨A8, c8, [k1, [], y.key, y.key], rfl, by simp, fun k hk => ?_, (KeysV.cons rfl (HKW.out.grow H8.out.below) (KeysV.cons rfl card_nil (KeysV.cons rfl (rowS_card H8.out.s2) (KeysV.cons rfl (rowS_card H8.out.s1) KeysV.nil)))).keys H8.out.at_, H8.out.drop.drop.drop⟩
          simp only [List.mem_cons, List.not_mem_nil, or_false] at hk
          rcases hk with rfl | rfl | rfl | rfl
          · exact hk3
          · simp
          · omega
          · omega
      · have y0 : decide (0 < y.key.length) = true := decide_eq_true (by omega)
        obtain ⟨m, hm⟩ : ∃ m, m = y.key.length - 1 := ⟨_, rfl⟩
        have hml : m < y.key.length := by omega
        have hm1 : ((y.key.length : Int) - 1) = (m : Int) := by omega
        obtain ⟨go, u, hA4, hu, mc, mf, zo, SET⟩ := row_set hml H7.out
        subst hA4
        have hu2 : u = .int .u8 ((y.key[m]'hml).toNat : Int) := by
          rw [Lib.byteCells, List.getElem?_map, List.getElem?_eq_getElem hml] at hu
          simpa using hu.symm
        subst hu2
        have HZ := Lib.hid (show (((y.key[m]'hml) + by_).toNat : Int) = (((y.key[m]'hml).toNat : Int) + (by_.toNat : Int)) % 256 by rw [UInt8.toNat_add]; omega)
        have H8 := Lib.hid (SET (.int .u8 (((y.key[m]'hml) + by_).toNat : Int)))
        rw [byteCells_set, HZ.out] at H8
        obtain ⟨k4, hk4⟩ : ∃ k4, k4 = y.key.set m ((y.key[m]'hml) + by_) := ⟨_, rfl⟩
        have hk4l : k4.length = y.key.length := by rw [hk4, List.length_set]
        have HK4 := Lib.hid hk4l
        rw [← hk4] at H8
        clear SET hu hk4 hk4l hy0 hm
        generalize ((y.key[m]'hml).toNat : Int) = z at *
        go_wp2_with (at_builtin; refine wpList_pushS rfl _ _ _ rfl kElem (w6.setCell ⟨go, m, none⟩ (.int .u8 ((z + (by_.toNat : Int)) % 256))) [.slice (some ⟨go, 0, none⟩) y.key.length c4] 1 rfl rfl (by simp [Value.oneCell']) _ 3 _ rfl (by simp only [World.size_setCell]; rfl) H8.out.s1 (by unfold maxLen; omega) (by omega) ?_
                     intro A8 c8 w8 S8
                     have H9 := Lib.hid S8
                     clear S8 H8 H7 mc mf zo)
        go_meet
        case rel =>
          refine ⟨A8, c8, [k1, [], y.key, k4], rfl, by simp, fun k hk => ?_, (KeysV.cons rfl (HKW.out.grow H9.out.below) (KeysV.cons rfl card_nil (KeysV.cons rfl (rowS_card H9.out.s2) (KeysV.cons HK4.out (by have h := H9.out.s1; rw [← HK4.out] at h; exact rowS_card h) KeysV.nil)))).keys H9.out.at_, H9.out.drop.drop.drop⟩
          simp only [List.mem_cons, List.not_mem_nil, or_false] at hk
          rcases hk with rfl | rfl | rfl | rfl
          · exact hk3
          · simp
          · omega
          · rw [HK4.out]; omega
  case rest =>
    obtain ⟨A3, c3, ks, rfl, hks, hkl, hka, SC⟩ := hcut
    have HKS := Lib.hid hka
    have HKL2 := Lib.hid hkl
    have HS := Lib.hid SC
    clear hka hkl SC H2
    obtain ⟨_, _, hv1, hc1, hcm1⟩ := recsS_len HS.out
    have hcc1 : t.length ≤ c1 ∧ c1 ≤ maxLen := by injection hv1 with _ _ h; rw [h]; exact ⟨hc1, hcm1⟩
    clear hv1 hc1 hcm1
    have HRT := Lib.hid (fun (wx : World) (hx : Below wc.heap.size wc wx) => (recsS_at HS.out).grow hx)
    have HRL := Lib.hid (fun (wx : World) (hx : Below wc.heap.size wc wx) => HR.out.grow (HS.out.below.trans (hx.mono HS.out.size)))
    go_wp2
    go_loopw [72] (fun i wr => ∃ k : Nat, k ≤ ks.length ∧ i = .int .i64 k ∧ Below wc.heap.size wc wr) (fun i _ => ks.length - (intOf i).toNat)
    case atStart => exact ⟨0, Nat.zero_le _, rfl, Below.refl _ _⟩
    case round =>
      obtain ⟨wk, hnm⟩ : ∃ x : World, x = wr := ⟨_, rfl⟩
      subst hnm
      obtain ⟨k, hk, rfl, b1⟩ := hrel
      have B1 := Lib.hid b1
      clear b1
      by_cases hlt : k < ks.length
      · have HLT := Lib.hid hlt
        have hx : ks[k]? = some ks[k] := List.getElem?_eq_getElem hlt
        have hkk := HKL2.out ks[k] (List.getElem_mem hlt)
        generalize ks[k] = kk at hx hkk
        obtain ⟨gk, ok, Ak, ek, hA, k0, hcard⟩ := (HKS.out.grow B1.out).get hx
        subst hA
        have HCK := Lib.hid hcard
        clear hx hcard
        go_wp2
        clear k0
        go_loopw [81] (fun i wx => ∃ m : Nat, m ≤ 3 ∧ i = .int .i64 m ∧ Below wk.heap.size wk wx) (fun i _ => 3 - (intOf i).toNat)
        case atStart => exact ⟨0, Nat.zero_le _, rfl, Below.refl _ _⟩
        case round =>
          obtain ⟨wx, hnm⟩ : ∃ x : World, x = wr := ⟨_, rfl⟩
          subst hnm
          obtain ⟨m, hm, rfl, b2⟩ := hrel
          have B2 := Lib.hid b2
          clear b2
          by_cases hm3 : m < 3
          · obtain rfl | rfl | rfl : m = 0 ∨ m = 1 ∨ m = 2 := by omega
            all_goals clear hm3 hm
            · -- 0
              have ix3 := idx3 #[.int .i64 fr, .int .i64 ((n.toNat : Int) % 8), .int .i64 0] _ 0 0 rfl (by omega) rfl
              go_wp2_with fail
              refine (few_any A l c (SL.start wx) (RecsB.base (HRL.out _ (B1.out.trans (B2.out.mono B1.out.size))) _) HM.out).mono ?_
              rintro e wF ⟨A7, c7, rfl, ps, hps, S7, hv7⟩
              have hcc7 := own_cap S7.own
              have HR7 := Lib.hid (show RecsAt wF A7 (fewL l) by rw [← hps]; exact recs_at' S7 (fun p hp => (hv7 p hp).grow S7.below))
              have BF := Lib.hid (show Below wx.heap.size wx wF from S7.below)
              clear S7 hps hv7
              have HRF := Lib.hid (fun (wy : World) (hy : Below wF.heap.size wF wy) => HR7.out.grow hy)
              have HRT2 := Lib.hid (fun (wy : World) (hy : Below wF.heap.size wF wy) => HRT.out wy (B1.out.trans ((B2.out.trans ((BF.out.trans (hy.mono BF.out.size)).mono B2.out.size)).mono B1.out.size)))
              have HCK3 := Lib.hid (fun (wy : World) (hy : Below wF.heap.size wF wy) => (B2.out.trans ((BF.out.trans (hy.mono BF.out.size)).mono B2.out.size) : Below wk.heap.size wk wy))
              go_wp2
              go_loopw [88] (fun i wy => ∃ q : Nat, q ≤ 2 ∧ i = .int .i64 q ∧ Below wF.heap.size wF wy) (fun i _ => 2 - (intOf i).toNat)
              case atStart => exact ⟨0, Nat.zero_le _, rfl, Below.refl _ _⟩
              case round =>
                obtain ⟨wy, hnm⟩ : ∃ x : World, x = wr := ⟨_, rfl⟩
                subst hnm
                obtain ⟨q, hq, rfl, bY⟩ := hrel
                have BY := Lib.hid bY
                have BY3 := Lib.hid (HCK3.out _ bY)
                clear bY
                by_cases hq2 : q < 2
                · obtain rfl | rfl : q = 0 ∨ q = 1 := by omega
                  · clear hq2 hq
                    have ix2 := idx2 #[.slice A1 t.length c1, .slice A7 (fewL l).length c7] _ 0 0 rfl (by omega) rfl
                    have HA1 := Lib.hid (search_any A1 t c1 (fr) Ak kk ek high wy (HRT2.out wy BY.out) hcc1.1 hcc1.2 (HCK.out.grow BY3.out))
                    have HA2 := Lib.hid (fun wq (hq : Below wy.heap.size wy wq) => rsearch_any A1 t c1 (fr) Ak kk ek high wq ((HRT2.out wy BY.out).grow hq) (Nat.le_trans hcc1.1 hcc1.2) ((HCK.out.grow BY3.out).grow hq))
                    have HB := Lib.hid (fun i (h : searchN t (fr) kk high = some i) => searchN_lt h)
                    generalize searchN t (fr) kk high = sv at *
                    go_wp2_with fail
                    refine HA1.out.mono ?_
                    rintro e wz ⟨rfl, bz⟩
                    have BZ := Lib.hid bz
                    clear bz HA1
                    go_wp2_with fail
                    refine (HA2.out wz BZ.out).mono ?_
                    rintro e wu ⟨rfl, bu⟩
                    have BU := Lib.hid (BY.out.trans ((BZ.out.trans (bu.mono BZ.out.size)).mono BY.out.size))
                    clear bu BZ HA2
                    cases sv with
                    | none =>
                      simp only [idxV, Option.getD_none, Option.isSome_none]
                      go_wp2
                      go_roundw
                      case rel => exact ⟨0 + 1, by omega, by go_num, BU.out⟩
                      case measure => simp [intOf]
                    | some iv =>
                      have hiv := HB.out iv rfl
                      have h0 : (0 : Int) ≤ (iv : Int) := by omega
                      have hne : ((iv : Int) != (iv : Int)) = false := by simp
                      simp only [idxV, Option.getD_some, Option.isSome_some]
                      go_wp2
                      go_roundw
                      case rel => exact ⟨0 + 1, by omega, by go_num, BU.out⟩
                      case measure => simp [intOf]
                  · clear hq2 hq
                    have ix2 := idx2 #[.slice A1 t.length c1, .slice A7 (fewL l).length c7] _ 1 1 rfl (by omega) rfl
                    have HA1 := Lib.hid (search_any A7 (fewL l) c7 (fr) Ak kk ek high wy (HRF.out wy BY.out) hcc7.1 hcc7.2 (HCK.out.grow BY3.out))
                    have HA2 := Lib.hid (fun wq (hq : Below wy.heap.size wy wq) => rsearch_any A7 (fewL l) c7 (fr) Ak kk ek high wq ((HRF.out wy BY.out).grow hq) (Nat.le_trans hcc7.1 hcc7.2) ((HCK.out.grow BY3.out).grow hq))
                    have HB := Lib.hid (fun i (h : searchN (fewL l) (fr) kk high = some i) => searchN_lt h)
                    generalize searchN (fewL l) (fr) kk high = sv at *
                    go_wp2_with fail
                    refine HA1.out.mono ?_
                    rintro e wz ⟨rfl, bz⟩
                    have BZ := Lib.hid bz
                    clear bz HA1
                    go_wp2_with fail
                    refine (HA2.out wz BZ.out).mono ?_
                    rintro e wu ⟨rfl, bu⟩
                    have BU := Lib.hid (BY.out.trans ((BZ.out.trans (bu.mono BZ.out.size)).mono BY.out.size))
                    clear bu BZ HA2
                    cases sv with
                    | none =>
                      simp only [idxV, Option.getD_none, Option.isSome_none]
                      go_wp2
                      go_roundw
                      case rel => exact ⟨1 + 1, by omega, by go_num, BU.out⟩
                      case measure => simp [intOf]
                    | some iv =>
                      have hiv := HB.out iv rfl
                      have h0 : (0 : Int) ≤ (iv : Int) := by omega
                      have hne : ((iv : Int) != (iv : Int)) = false := by simp
                      simp only [idxV, Option.getD_some, Option.isSome_some]
                      go_wp2
                      go_roundw
                      case rel => exact ⟨1 + 1, by omega, by go_num, BU.out⟩
                      case measure => simp [intOf]
                · obtain rfl : q = 2 := by omega
                  go_wp2
                  go_roundw
                  case rel => exact ⟨0 + 1, by omega, by go_num, HCK3.out _ BY.out⟩
                  case measure => simp [intOf]
            · -- 1
              have ix3 := idx3 #[.int .i64 fr, .int .i64 ((n.toNat : Int) % 8), .int .i64 0] _ 1 1 rfl (by omega) rfl
              go_wp2_with fail
              refine (few_any A l c (SL.start wx) (RecsB.base (HRL.out _ (B1.out.trans (B2.out.mono B1.out.size))) _) HM.out).mono ?_
              rintro e wF ⟨A7, c7, rfl, ps, hps, S7, hv7⟩
              have hcc7 := own_cap S7.own
              have HR7 := Lib.hid (show RecsAt wF A7 (fewL l) by rw [← hps]; exact recs_at' S7 (fun p hp => (hv7 p hp).grow S7.below))
              have BF := Lib.hid (show Below wx.heap.size wx wF from S7.below)
              clear S7 hps hv7
              have HRF := Lib.hid (fun (wy : World) (hy : Below wF.heap.size wF wy) => HR7.out.grow hy)
              have HRT2 := Lib.hid (fun (wy : World) (hy : Below wF.heap.size wF wy) => HRT.out wy (B1.out.trans ((B2.out.trans ((BF.out.trans (hy.mono BF.out.size)).mono B2.out.size)).mono B1.out.size)))
              have HCK3 := Lib.hid (fun (wy : World) (hy : Below wF.heap.size wF wy) => (B2.out.trans ((BF.out.trans (hy.mono BF.out.size)).mono B2.out.size) : Below wk.heap.size wk wy))
              go_wp2
              go_loopw [88] (fun i wy => ∃ q : Nat, q ≤ 2 ∧ i = .int .i64 q ∧ Below wF.heap.size wF wy) (fun i _ => 2 - (intOf i).toNat)
              case atStart => exact ⟨0, Nat.zero_le _, rfl, Below.refl _ _⟩
              case round =>
                obtain ⟨wy, hnm⟩ : ∃ x : World, x = wr := ⟨_, rfl⟩
                subst hnm
                obtain ⟨q, hq, rfl, bY⟩ := hrel
                have BY := Lib.hid bY
                have BY3 := Lib.hid (HCK3.out _ bY)
                clear bY
                by_cases hq2 : q < 2
                · obtain rfl | rfl : q = 0 ∨ q = 1 := by omega
                  · clear hq2 hq
                    have ix2 := idx2 #[.slice A1 t.length c1, .slice A7 (fewL l).length c7] _ 0 0 rfl (by omega) rfl
                    have HA1 := Lib.hid (search_any A1 t c1 ((n.toNat : Int) % 8) Ak kk ek high wy (HRT2.out wy BY.out) hcc1.1 hcc1.2 (HCK.out.grow BY3.out))
                    have HA2 := Lib.hid (fun wq (hq : Below wy.heap.size wy wq) => rsearch_any A1 t c1 ((n.toNat : Int) % 8) Ak kk ek high wq ((HRT2.out wy BY.out).grow hq) (Nat.le_trans hcc1.1 hcc1.2) ((HCK.out.grow BY3.out).grow hq))
                    have HB := Lib.hid (fun i (h : searchN t ((n.toNat : Int) % 8) kk high = some i) => searchN_lt h)
                    generalize searchN t ((n.toNat : Int) % 8) kk high = sv at *
                    go_wp2_with fail
                    refine HA1.out.mono ?_
                    rintro e wz ⟨rfl, bz⟩
                    have BZ := Lib.hid bz
                    clear bz HA1
                    go_wp2_with fail
                    refine (HA2.out wz BZ.out).mono ?_
                    rintro e wu ⟨rfl, bu⟩
                    have BU := Lib.hid (BY.out.trans ((BZ.out.trans (bu.mono BZ.out.size)).mono BY.out.size))
                    clear bu BZ HA2
                    cases sv with
                    | none =>
                      simp only [idxV, Option.getD_none, Option.isSome_none]
                      go_wp2
                      go_roundw
                      case rel => exact ⟨0 + 1, by omega, by go_num, BU.out⟩
                      case measure => simp [intOf]
                    | some iv =>
                      have hiv := HB.out iv rfl
                      have h0 : (0 : Int) ≤ (iv : Int) := by omega
                      have hne : ((iv : Int) != (iv : Int)) = false := by simp
                      simp only [idxV, Option.getD_some, Option.isSome_some]
                      go_wp2
                      go_roundw
                      case rel => exact ⟨0 + 1, by omega, by go_num, BU.out⟩
                      case measure => simp [intOf]
                  · clear hq2 hq
                    have ix2 := idx2 #[.slice A1 t.length c1, .slice A7 (fewL l).length c7] _ 1 1 rfl (by omega) rfl
                    have HA1 := Lib.hid (search_any A7 (fewL l) c7 ((n.toNat : Int) % 8) Ak kk ek high wy (HRF.out wy BY.out) hcc7.1 hcc7.2 (HCK.out.grow BY3.out))
                    have HA2 := Lib.hid (fun wq (hq : Below wy.heap.size wy wq) => rsearch_any A7 (fewL l) c7 ((n.toNat : Int) % 8) Ak kk ek high wq ((HRF.out wy BY.out).grow hq) (Nat.le_trans hcc7.1 hcc7.2) ((HCK.out.grow BY3.out).grow hq))
                    have HB := Lib.hid (fun i (h : searchN (fewL l) ((n.toNat : Int) % 8) kk high = some i) => searchN_lt h)
                    generalize searchN (fewL l) ((n.toNat : Int) % 8) kk high = sv at *
                    go_wp2_with fail
                    refine HA1.out.mono ?_
                    rintro e wz ⟨rfl, bz⟩
                    have BZ := Lib.hid bz
                    clear bz HA1
                    go_wp2_with fail
                    refine (HA2.out wz BZ.out).mono ?_
                    rintro e wu ⟨rfl, bu⟩
                    have BU := Lib.hid (BY.out.trans ((BZ.out.trans (bu.mono BZ.out.size)).mono BY.out.size))
                    clear bu BZ HA2
                    cases sv with
                    | none =>
                      simp only [idxV, Option.getD_none, Option.isSome_none]
                      go_wp2
                      go_roundw
                      case rel => exact ⟨1 + 1, by omega, by go_num, BU.out⟩
                      case measure => simp [intOf]
                    | some iv =>
                      have hiv := HB.out iv rfl
                      have h0 : (0 : Int) ≤ (iv : Int) := by omega
                      have hne : ((iv : Int) != (iv : Int)) = false := by simp
                      simp only [idxV, Option.getD_some, Option.isSome_some]
                      go_wp2
                      go_roundw
                      case rel => exact ⟨1 + 1, by omega, by go_num, BU.out⟩
                      case measure => simp [intOf]
                · obtain rfl : q = 2 := by omega
                  go_wp2
                  go_roundw
                  case rel => exact ⟨1 + 1, by omega, by go_num, HCK3.out _ BY.out⟩
                  case measure => simp [intOf]
            · -- 2
              have ix3 := idx3 #[.int .i64 fr, .int .i64 ((n.toNat : Int) % 8), .int .i64 0] _ 2 2 rfl (by omega) rfl
              go_wp2_with fail
              refine (few_any A l c (SL.start wx) (RecsB.base (HRL.out _ (B1.out.trans (B2.out.mono B1.out.size))) _) HM.out).mono ?_
              rintro e wF ⟨A7, c7, rfl, ps, hps, S7, hv7⟩
              have hcc7 := own_cap S7.own
              have HR7 := Lib.hid (show RecsAt wF A7 (fewL l) by rw [← hps]; exact recs_at' S7 (fun p hp => (hv7 p hp).grow S7.below))
              have BF := Lib.hid (show Below wx.heap.size wx wF from S7.below)
              clear S7 hps hv7
              have HRF := Lib.hid (fun (wy : World) (hy : Below wF.heap.size wF wy) => HR7.out.grow hy)
              have HRT2 := Lib.hid (fun (wy : World) (hy : Below wF.heap.size wF wy) => HRT.out wy (B1.out.trans ((B2.out.trans ((BF.out.trans (hy.mono BF.out.size)).mono B2.out.size)).mono B1.out.size)))
              have HCK3 := Lib.hid (fun (wy : World) (hy : Below wF.heap.size wF wy) => (B2.out.trans ((BF.out.trans (hy.mono BF.out.size)).mono B2.out.size) : Below wk.heap.size wk wy))
              go_wp2
              go_loopw [88] (fun i wy => ∃ q : Nat, q ≤ 2 ∧ i = .int .i64 q ∧ Below wF.heap.size wF wy) (fun i _ => 2 - (intOf i).toNat)
              case atStart => exact ⟨0, Nat.zero_le _, rfl, Below.refl _ _⟩
              case round =>
                obtain ⟨wy, hnm⟩ : ∃ x : World, x = wr := ⟨_, rfl⟩
                subst hnm
                obtain ⟨q, hq, rfl, bY⟩ := hrel
                have BY := Lib.hid bY
                have BY3 := Lib.hid (HCK3.out _ bY)
                clear bY
                by_cases hq2 : q < 2
                · obtain rfl | rfl : q = 0 ∨ q = 1 := by omega
                  · clear hq2 hq
                    have ix2 := idx2 #[.slice A1 t.length c1, .slice A7 (fewL l).length c7] _ 0 0 rfl (by omega) rfl
                    have HA1 := Lib.hid (search_any A1 t c1 (0) Ak kk ek high wy (HRT2.out wy BY.out) hcc1.1 hcc1.2 (HCK.out.grow BY3.out))
                    have HA2 := Lib.hid (fun wq (hq : Below wy.heap.size wy wq) => rsearch_any A1 t c1 (0) Ak kk ek high wq ((HRT2.out wy BY.out).grow hq) (Nat.le_trans hcc1.1 hcc1.2) ((HCK.out.grow BY3.out).grow hq))
                    have HB := Lib.hid (fun i (h : searchN t (0) kk high = some i) => searchN_lt h)
                    generalize searchN t (0) kk high = sv at *
                    go_wp2_with fail
                    refine HA1.out.mono ?_
                    rintro e wz ⟨rfl, bz⟩
                    have BZ := Lib.hid bz
                    clear bz HA1
                    go_wp2_with fail
                    refine (HA2.out wz BZ.out).mono ?_
                    rintro e wu ⟨rfl, bu⟩
                    have BU := Lib.hid (BY.out.trans ((BZ.out.trans (bu.mono BZ.out.size)).mono BY.out.size))
                    clear bu BZ HA2
                    cases sv with
                    | none =>
                      simp only [idxV, Option.getD_none, Option.isSome_none]
                      go_wp2
                      go_roundw
                      case rel => exact ⟨0 + 1, by omega, by go_num, BU.out⟩
                      case measure => simp [intOf]
                    | some iv =>
                      have hiv := HB.out iv rfl
                      have h0 : (0 : Int) ≤ (iv : Int) := by omega
                      have hne : ((iv : Int) != (iv : Int)) = false := by simp
                      simp only [idxV, Option.getD_some, Option.isSome_some]
                      go_wp2
                      go_roundw
                      case rel => exact ⟨0 + 1, by omega, by go_num, BU.out⟩
                      case measure => simp [intOf]
                  · clear hq2 hq
                    have ix2 := idx2 #[.slice A1 t.length c1, .slice A7 (fewL l).length c7] _ 1 1 rfl (by omega) rfl
                    have HA1 := Lib.hid (search_any A7 (fewL l) c7 (0) Ak kk ek high wy (HRF.out wy BY.out) hcc7.1 hcc7.2 (HCK.out.grow BY3.out))
                    have HA2 := Lib.hid (fun wq (hq : Below wy.heap.size wy wq) => rsearch_any A7 (fewL l) c7 (0) Ak kk ek high wq ((HRF.out wy BY.out).grow hq) (Nat.le_trans hcc7.1 hcc7.2) ((HCK.out.grow BY3.out).grow hq))
                    have HB := Lib.hid (fun i (h : searchN (fewL l) (0) kk high = some i) => searchN_lt h)
                    generalize searchN (fewL l) (0) kk high = sv at *
                    go_wp2_with fail
                    refine HA1.out.mono ?_
                    rintro e wz ⟨rfl, bz⟩
                    have BZ := Lib.hid bz
                    clear bz HA1
                    go_wp2_with fail
                    refine (HA2.out wz BZ.out).mono ?_
                    rintro e wu ⟨rfl, bu⟩
                    have BU := Lib.hid (BY.out.trans ((BZ.out.trans (bu.mono BZ.out.size)).mono BY.out.size))
                    clear bu BZ HA2
                    cases sv with
                    | none =>
                      simp only [idxV, Option.getD_none, Option.isSome_none]
                      go_wp2
                      go_roundw
                      case rel => exact ⟨1 + 1, by omega, by go_num, BU.out⟩
                      case measure => simp [intOf]
                    | some iv =>
                      have hiv := HB.out iv rfl
                      have h0 : (0 : Int) ≤ (iv : Int) := by omega
                      have hne : ((iv : Int) != (iv : Int)) = false := by simp
                      simp only [idxV, Option.getD_some, Option.isSome_some]
                      go_wp2
                      go_roundw
                      case rel => exact ⟨1 + 1, by omega, by go_num, BU.out⟩
                      case measure => simp [intOf]
                · obtain rfl : q = 2 := by omega
                  go_wp2
                  go_roundw
                  case rel => exact ⟨2 + 1, by omega, by go_num, HCK3.out _ BY.out⟩
                  case measure => simp [intOf]
          · obtain rfl : m = 3 := by omega
            go_wp2
            go_roundw
            case rel => exact ⟨k + 1, HLT.out, by go_num, B1.out.trans (B2.out.mono B1.out.size)⟩
            case measure => have := HLT.out; simp [intOf]; omega
      · obtain rfl : k = ks.length := by omega
        go_wp2_with fail
        refine (works_any _).mono ?_
        rintro e w18 ⟨rfl, b18⟩
        have B2 := Lib.hid (HS.out.below.trans ((B1.out.trans (b18.mono B1.out.size)).mono HS.out.size))
        clear b18
        go_wp2
        go_ret
        exact ⟨rfl, B2.out⟩
end Go.Proofs.Ytelfihgkbbaifaa
