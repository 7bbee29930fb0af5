/- UnitMakes: the walk. -/
import Derived.Test.YtfhpaehfihnjaaaGreatMed
import Derived.Test.YtfhpaehfihnjaaaGreatLt
import Derived.Test.YtfhpaehfihnjaaaGreatQNew2
import Derived.Test.YtfhpaehfihnjaaaGreatLawA
namespace Go.Proofs.YtfhpaehfihnjaaaGreat
open Go.RowKit
theorem kindN_zero {s : ST} {k : Nat} (ok : s.ok k) (a : Int) : (kindN s a == 0) = (s.find a).isNone := by
  unfold kindN
  cases h : s.find a with
  | none => rfl
  | some i =>
    obtain ⟨u, hu, _⟩ := find_get h
    simp only [hu]
    have hk := (ok.us u (List.mem_of_getElem? hu)).kind
    rw [hk]
    cases u.dev <;> rfl
set_option maxRecDepth 100000 in
set_option maxHeartbeats 32000000 in
theorem walk_unitMakes (w : World) (l : List Conf) (A : Option Addr) (cp : Nat) (addr : Int) (hz : ∀ c ∈ l, c.serial.size ≤ 140737488355328) (hl : l.length ≤ maxLen) (hat : At w w.heap.size A (l.flatMap confL)) :
    Calls Tryz.prog 3 #[.slice A l.length cp, .int .i64 addr] w fun e w' => e = .returned (.bool true) ∧ Below w.heap.size w w' := by
  have HS := Lib.hid (SL.start w)
  have HR := Lib.hid (fun (F : List SA) => (Rd.base hat : Rd w F A (l.flatMap confL)))
  have HZ := Lib.hid hz
  have HLL := Lib.hid hl
  have hl2 : l.length ≤ 9223372036854775807 := by unfold maxLen at hl; omega
  clear hz hl hat
  go_enter Tryz.func3, Tryz.ntmps3
  go_wp2_with fail
  refine (works_any HS.out).mono ?_
  rintro e w1 ⟨rfl, S1⟩
  have H1 := Lib.hid S1
  clear S1 HS
  go_wp2_with fail
  refine (light_any l [] A none cp 0 w1 HLL.out (by decide) (HR.out _ _ H1.out) At.nil_).mono ?_
  rintro e w2 ⟨h, hw⟩
  have hw := hw.symm
  subst hw
  rcases h with ⟨rfl, hlt⟩ | rfl
  · have HLT := Lib.hid hlt
    clear hlt
    go_wp2_with fail
    refine (new_any l A cp HZ.out HLL.out (HR.out _) H1.out).mono ?_
    rintro e w2 h
    have HN := Lib.hid h
    clear h H1
    unfold NewRes at HN
    cases hst : newST l with
    | none =>
      rw [hst] at HN
      obtain ⟨rfl, S2⟩ := HN.out
      have H2 := Lib.hid S2
      have HQ := Lib.hid (qnew_any l A cp HZ.out HLL.out (HR.out _) S2)
      have HST := Lib.hid hst
      clear S2 HN hst
      go_wp2_with fail
      refine HQ.out.mono ?_
      rintro e w3 h
      unfold QNewRes at h
      rw [HST.out] at h
      obtain ⟨rfl, S3⟩ := h
      have H3 := Lib.hid S3
      clear S3 HQ H2
      go_wp2
      go_ret
      exact ⟨rfl, H3.out.below⟩
    | some st =>
      rw [hst] at HN
      obtain ⟨x, v, bs, rfl, S2⟩ := HN.out
      have HQ := Lib.hid (qnew_any l A cp HZ.out HLL.out (HR.out _) S2)
      have HST := Lib.hid hst
      have HOK := Lib.hid (new_ok hst)
      clear S2 HN hst
      unfold ptrV
      go_wp2_with fail
      refine HQ.out.mono ?_
      rintro e w3 h
      unfold QNewRes at h
      rw [HST.out] at h
      obtain ⟨y, v2, bq, rfl, S3⟩ := h
      have H3 := Lib.hid S3
      clear S3 HQ HST
      have hlen := HOK.out.1.len
      unfold ptrV
      have HD := Lib.hid (down_any H3.out.s1)
      rw [HOK.out.2.1] at HD
      have HF := Lib.hid (qfind_any addr hlen H3.out)
      have HK := Lib.hid (kind_any addr hlen H3.out.s1)
      have hkz := kindN_zero HOK.out.1 addr
      have hhead : ∀ (q : Value) (b : Bool), lastV bq (st.find addr) = q → (kindN st addr == 0) = b → ((b = true ∧ q = .pointer none) ∨ (b = false ∧ ∃ p, q = .pointer (some ⟨p, 0, none⟩))) := by
        intro q b h1 h2
        rw [hkz] at h2
        cases hf : st.find addr with
        | none =>
          rw [hf] at h1 h2
          exact Or.inl ⟨h2.symm, h1.symm⟩
        | some i =>
          rw [hf] at h1 h2
          obtain ⟨u, hu, _⟩ := find_get hf
          obtain ⟨pb, pdb, hp⟩ := bs_get (qset_open H3.out).1 hu
          rw [lastV_some hp] at h1
          exact Or.inr ⟨h2.symm, pb, h1.symm⟩
      obtain ⟨q, hq⟩ : ∃ q, lastV bq (st.find addr) = q := ⟨_, rfl⟩
      obtain ⟨kn, hkn⟩ : ∃ kn, kindN st addr = kn := ⟨_, rfl⟩
      rw [hq] at HF
      rw [hkn] at HK hhead
      have hcase := hhead q (kn == 0) hq rfl
      clear hhead hkz hq hkn
      have HA := Lib.hid (addrs_any hlen H3.out.s1)
      obtain ⟨n, hn⟩ : ∃ n, n = st.us.length := ⟨_, rfl⟩
      have HNN := Lib.hid hn
      rw [← hn] at HA hlen
      clear hn
      have HC := Lib.hid hcase
      clear hcase
      rcases HC.out with ⟨hb, rfl⟩ | ⟨hb, p, rfl⟩
      all_goals
        go_wp2_with fail
        refine HD.out.mono ?_
        rintro e w4 ⟨rfl, hw⟩
        have hw := hw.symm
        subst hw
        go_wp2_with fail
        refine HF.out.mono ?_
        rintro e w4 ⟨rfl, hw⟩
        have hw := hw.symm
        subst hw
        go_wp2_with fail
        refine HK.out.mono ?_
        rintro e w4 ⟨rfl, hw⟩
        have hw := hw.symm
        subst hw
        go_wp2_with fail
        refine HA.out.mono ?_
        rintro e w5 ⟨Aa, ca, rfl, S5⟩
        have hv2 := (qset_open S5.s2).2.s1.own
        obtain ⟨Av, cv, rfl, _, _⟩ := own_slice hv2
        rw [← HNN.out] at hv2
        have H5 := Lib.hid S5
        have HF2 := Lib.hid (fun (wx : World) (hx : SL w [rowS 3 1 (.slice Aa n ca) n (addrsV st), setO x v bs st, qsetO y (.slice Av st.us.length cv) bq st] wx) => ((by
          have h := (qset_open hx.s2).2.look.1 0
          rw [← HNN.out] at h
          exact h) : wx.cell? ⟨y, 0, none⟩ = some (.slice Av n cv)))
        clear S5 hv2 HD HF HK HA H3 HC hb
        have q0 := HF2.out _ H5.out
        go_wp2_with fail
        go_loopw [9] (fun j wr => ∃ m : Nat, m ≤ n ∧ j = .int .i64 m ∧ SL w [rowS 3 1 (.slice Aa n ca) n (addrsV st), setO x v bs st, qsetO y (.slice Av st.us.length cv) bq st] wr) (fun j _ => n - (intOf j).toNat)
        case atStart => exact ⟨0, Nat.zero_le _, rfl, H5.out⟩
        case round =>
          obtain ⟨m, hm, rfl, S6⟩ := hrel
          have H6 := Lib.hid S6
          clear S6 H5 q0
          have q0 := HF2.out _ H6.out
          by_cases hlt : m < n
          · have hmu : m < st.us.length := by rw [← HNN.out]; exact hlt
            have hu : st.us[m]? = some st.us[m] := List.getElem?_eq_getElem hmu
            generalize st.us[m] = u at hu
            obtain ⟨qb, qdb, hq⟩ := bs_get (qset_open H6.out.s2).1 hu
            obtain ⟨ga, rfl, _, _⟩ := H6.out.cellAt (j := m) (u := .int .i64 u.conf.addr) (by unfold addrsV; rw [List.getElem?_map, hu]; rfl)
            obtain ⟨gv, rfl, _, _⟩ := (qset_open H6.out.s2).2.s1.cellAt (j := m) (u := ptrV qb) (by unfold ptrs; rw [List.getElem?_map, hq]; rfl)
            have HX := Lib.hid (fun (wx : World) (hx : SL w [rowS 3 1 (.slice (some ⟨ga, 0, none⟩) n ca) n (addrsV st), setO x v bs st, qsetO y (.slice (some ⟨gv, 0, none⟩) st.us.length cv) bq st] wx) => (by
              obtain ⟨g1, e1, _, c1⟩ := hx.cellAt (j := m) (u := .int .i64 u.conf.addr) (by unfold addrsV; rw [List.getElem?_map, hu]; rfl)
              injection e1 with e; injection e with e _; subst e
              obtain ⟨g2, e2, _, c2⟩ := (qset_open hx.s2).2.s1.cellAt (j := m) (u := ptrV qb) (by unfold ptrs; rw [List.getElem?_map, hq]; rfl)
              injection e2 with e; injection e with e _; subst e
              exact ⟨c1, c2, (qone_open hq hu (qset_open hx.s2).2.s2).look.1 0⟩ : wx.cell? ⟨ga, m, none⟩ = some (.int .i64 u.conf.addr) ∧ wx.cell? ⟨gv, m, none⟩ = some (ptrV qb) ∧ wx.cell? ⟨qb, 0, none⟩ = some (.int .i64 u.conf.addr)))
            have HM := Lib.hid (fun (wx : World) (hx : SL w [rowS 3 1 (.slice (some ⟨ga, 0, none⟩) n ca) n (addrsV st), setO x v bs st, qsetO y (.slice (some ⟨gv, 0, none⟩) st.us.length cv) bq st] wx) => (media_any HOK.out.1 (by decide) hu hq hx.s1.s2).mono fun e w' h => (⟨h.1, h.2.s1.s2⟩ : e = .returned (.bool true) ∧ SL w [rowS 3 1 (.slice (some ⟨ga, 0, none⟩) n ca) n (addrsV st), setO x v bs st, qsetO y (.slice (some ⟨gv, 0, none⟩) st.us.length cv) bq st] w'))
            unfold ptrV at HX
            obtain ⟨az, haz⟩ : ∃ a, a = u.conf.addr := ⟨_, rfl⟩
            rw [← haz] at HX
            have q0 := HF2.out _ H6.out
            clear hu hq hmu haz
            go_upto_region 15 with fail
            clear q0
            refine wp_region_quiet (C := SL w [rowS 3 1 (.slice (some ⟨ga, 0, none⟩) n ca) n (addrsV st), setO x v bs st, qsetO y (.slice (some ⟨gv, 0, none⟩) st.us.length cv) bq st]) (by kernel_rfl) (by kernel_rfl) H6.out.drew ?_
            (repeat (with_reducible refine wpQuiet_step ?_; intro K hK; go_simp; first | (with_reducible refine hK _ ?_; clear hK K) | (rw [if_neg (by decide)]; with_reducible refine hK _ ?_; clear hK K) | (refine ⟨_, fun wx hx => (by obtain ⟨f1, f2, f3⟩ := HX.out wx hx; have f0 := HF2.out wx hx; go_simp; with_reducible rfl), hK _ ?_⟩; clear hK K) | (refine ⟨_, fun wx hx => (by with_reducible refine (HM.out wx hx).mono ?_; rintro e w' ⟨rfl, h2⟩; exact ⟨rfl, h2⟩), hK _ ?_⟩; clear hK K) | (refine ⟨_, fun _ _ => rfl, hK _ ?_⟩; clear hK K))); with_reducible refine wpQuiet_nil ?_
            intro w9 S9
            have H9 := Lib.hid S9
            clear S9 H6
            go_wp2
            go_roundw
            case rel => exact ⟨m + 1, by omega, by go_num, H9.out⟩
            case measure => simp [intOf]; omega
          · obtain rfl : m = n := by omega
            go_wp2
            go_ret
            exact ⟨rfl, H6.out.below⟩
  · go_wp2
    go_ret
    exact ⟨rfl, H1.out.below⟩
end Go.Proofs.YtfhpaehfihnjaaaGreat
