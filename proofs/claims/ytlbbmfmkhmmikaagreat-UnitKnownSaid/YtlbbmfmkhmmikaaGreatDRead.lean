/- DReadD, DReadK, DReadR, DReads. -/
import Derived.Test.YtlbbmfmkhmmikaaGreatDF
namespace Go.Proofs.YtlbbmfmkhmmikaaGreat.D
open Go.RowKit
section
variable {W w : World} {F : List SA} {x : Nat} {s : DK} {was : Bool}
set_option maxRecDepth 100000 in
set_option maxHeartbeats 16000000 in
theorem readD_any (dbx : Nat) (cnt key : Bool) (h : s.ok) (S : SL W (diskW x s was :: F) w)
    (hp : ∀ (y : Rec) (Ak Ad : Option Addr) (ck cd : Nat) (s' : DK) (tb : Nat) (lp : Option Addr) (G : List SA) (wx : World), s'.cyl = s.cyl → s'.head = s.head → (1 ≤ y.r ∧ y.r ≤ 255 ∧ y.key.length ≤ 255 ∧ y.data.length ≤ 2016) → CardAt wx Ak y.key ck → CardAt wx Ad y.data cd → SL W (cel x (dkCells s' tb lp was) 136 :: (G ++ F)) wx →
      Calls Tryz.prog 249 #[.agg #[.int .i64 y.r, .slice Ak y.key.length ck, .slice Ad y.data.length cd, .bool y.bad]] wx (PartsR wx ((if cnt then cntL s.cyl s.head y else []) ++ (if key then y.key else []) ++ y.data))) :
    Calls Tryz.prog 248 #[.pointer (some ⟨x, 0, none⟩), .func (.func 249) #[] #[]] w (RetM W F x (dkRead s cnt key)) := by
  obtain ⟨tb, lp, vs, A0, c0, hv0, hva, hvz, hlc, hcm, S1⟩ := sel_open h S
  have HS := Lib.hid S1
  have HV := Lib.hid hv0
  have HVZ := Lib.hid (And.intro hva hvz)
  have HH := Lib.hid h
  have HP := Lib.hid hp
  have hrl := h.rl
  have hnx := h.nx
  have HDK := Lib.hid (show dkRead s cnt key = match s.recs[s.next]? with
    | none => dkCheck s 2
    | some x => if x.bad then dkCheck { s with next := s.next + 1 } 8
      else dkDone { s with next := s.next + 1 } ((if cnt then cntL s.cyl s.head x else []) ++ (if key then x.key else []) ++ x.data) from rfl)
  clear S S1 h hv0 hva hvz hp
  (go_enter Tryz.func248, Tryz.ntmps248; go_upto_region 1 with fail; refine name_world (P := Code.wp _ _ _ _) ?_; intro wA hwA; have H1 := Lib.hid (SL.cast hwA (HS.out.allocC #[.slice none 0 0, .int .i64 0, .int .i64 0] 30)); clear hwA HS; generalize w.heap.size = rb at *)
  go_wp2_with fail
  refine (records_any HH.out ((H1.out.s2.look.1 s.here).trans HVZ.out.1) H1.out.s1).mono ?_
  rintro e w2 ⟨rfl, b2⟩
  have H2 := Lib.hid (H1.out.grow b2)
  clear b2 H1
  obtain ⟨L, K, z⟩ := H2.out.s1.look
  by_cases hlt : s.next < s.recs.length
  · have hy : s.recs[s.next]? = some s.recs[s.next] := List.getElem?_eq_getElem hlt
    have hyr := valid_rec HH.out.rv hy
    generalize s.recs[s.next] = y at hy hyr
    have HY := Lib.hid (And.intro hy hyr)
    obtain ⟨PT, g1, ck, cd, Ak, Ad, hA, SP, hback, hrec⟩ := rec_sel HVZ.out.2 hy H2.out.s3
    subst hA
    obtain ⟨k0, k1, k2, k3, _, _⟩ := hrec _ _ SP
    -- PT, reply, disk, slices, last
    have H2b := Lib.hid SP
    have HB := Lib.hid (And.intro hback hrec)
    rw [hy] at HDK
    clear hy hyr SP hback hrec H2
    go_upto_region 5 with fail
    refine name_world (P := Code.wp _ _ _ _) ?_
    intro w3 hw3
    have H3 := Lib.hid (SL.cast hw3 (H2b.out.allocC #[.int .i64 y.r, .slice Ak y.key.length ck, .slice Ad y.data.length cd, .bool y.bad] 78))
    clear hw3 H2b k0 k1 k2 k3 L K z
    generalize w2.heap.size = bx at *
    obtain ⟨L, K, z⟩ := H3.out.s3.look
    go_upto_region 6 with fail
    refine name_world (P := Code.wp _ _ _ _) ?_
    intro w4 hw4
    -- disk, box, PT, reply, slices, last
    have H4 := Lib.hid (SL.cast hw4 (H3.out.s3.set (off := 6) (v := .int .i64 ((s.next : Int) + 1)) (cs' := dkCells { s with next := s.next + 1 } tb lp was) (by simp [dkCells])))
    clear hw4 H3 L K z
    obtain ⟨L, K, z⟩ := H4.out.s1.look
    obtain ⟨yr, ykey, ydata, ybad⟩ := y
    dsimp only at *
    cases ybad with
    | true =>
      have HR := Lib.hid (show dkRead s cnt key = dkCheck { s with next := s.next + 1 } 8 from HDK.out)
      go_wp2_with fail
      refine (check_any 8 H4.out).mono ?_
      rintro e w9 ⟨rfl, S9⟩
      have H9 := Lib.hid (S9.s1.drop.s2)
      clear S9 L K z
      (obtain ⟨L, K, z⟩ := H9.out.look; go_wp2; refine bodyPost_ret (v := .agg #[.slice none 0 0, .int .i64 14, .int .i64 8]) (by simp [results, Tryz.results248, go_sem, L]) rfl ?_)
      rw [HR.out]
      -- reply, disk, PT, slices, last
      exact RetM.of (sel_close HV.out (HB.out.1 _ _ H9.out.set3.drop.s1).b2)
    | false =>
      have HR := Lib.hid (show dkRead s cnt key = dkDone { s with next := s.next + 1 } ((if cnt then cntL s.cyl s.head ⟨yr, ykey, ydata, false⟩ else []) ++ (if key then ykey else []) ++ ydata) from HDK.out)
      have hcl := HP.out ⟨yr, ykey, ydata, false⟩ Ak Ad ck cd { s with next := s.next + 1 } tb lp [_, _, _, _, _] w4 rfl rfl HY.out.2 (HB.out.2 _ _ H4.out.s2).2.2.2.2.1 (HB.out.2 _ _ H4.out.s2).2.2.2.2.2 H4.out
      have HC := Lib.hid hcl
      clear hcl
      go_wp2_with fail
      refine HC.out.mono ?_
      rintro e w5 ⟨q, ls, rfl, hl3, hout, b5, hparts⟩
      have H5 := Lib.hid (H4.out.grow b5)
      have HPA := Lib.hid hparts
      have HO := Lib.hid hout
      have HT := Lib.hid (fmap_len fun i v l hi => (hparts i v l hi).2.1)
      clear b5 hparts hout H4 HC L K z
      go_wp2
      go_loopw [7, 43] (fun o i wr => ∃ (j : Nat) (Ao : Option Addr) (co n : Nat), j ≤ ls.length ∧ i = .int .i64 j ∧ o = .slice Ao n co ∧ n = ((ls.take j).flatMap Prod.snd).length ∧ SL w5 (rowS 5 1 (.slice Ao n co) n (Lib.byteCells ((ls.take j).flatMap Prod.snd)) :: []) wr) (fun _ i _ => ls.length - (intOf i).toNat)
      case atStart => exact ⟨0, none, 0, 0, Nat.zero_le _, rfl, rfl, rfl, (SL.start w5).nil _ _⟩
      case round =>
        obtain ⟨j, Ao, co, n, hj, rfl, rfl, hn, S6⟩ := hrel
        have H6 := Lib.hid S6
        have HN := Lib.hid hn
        clear S6 hn
        by_cases hlj : j < ls.length
        · have HLJ := Lib.hid hlj
          have hls : ls[j]? = some ls[j] := List.getElem?_eq_getElem hlj
          generalize ls[j] = vl at hls
          obtain ⟨v, l⟩ := vl
          obtain ⟨hc0, hl1, Ap, cp, rfl, hcard⟩ := HPA.out j v l hls
          have k6 := (H6.out.below.cell (p := ⟨q, j, none⟩) (World.block_lt_of_cell? w5 _ hc0)).trans hc0
          have HCD := Lib.hid (hcard.grow H6.out.below)
          have HF := Lib.hid (flat_take hls)
          have htot : n + l.length ≤ 40000 := by
            have h1 := HT.out
            have h2 : ((ls.take j).flatMap Prod.snd).length ≤ (ls.flatMap Prod.snd).length := by
              have e := congrArg List.length (congrArg (List.flatMap Prod.snd) (List.take_append_drop j ls))
              rw [List.flatMap_append, List.length_append] at e; omega
            rw [HN.out]; omega
          have HLL := Lib.hid hl1
          clear hls hc0 hcard hl1
          go_wp2_with (at_builtin; refine wpList_appS rfl _ _ _ rfl bElem _ n _ rfl H6.out _ Ap l.length cp (Lib.byteCells l) rfl HCD.out.1 (by rw [byteCells_len, Nat.mul_one]) (byteCells_one l) (by unfold maxLen; omega) (by omega) ?_
                       intro A7 c7 w7 S7
                       have H7 := Lib.hid S7
                       clear S7 H6)
          go_roundw
          case rel => exact ⟨j + 1, A7, c7, n + l.length, HLJ.out, by go_num, rfl, by rw [HF.out, List.length_append, HN.out], by rw [HF.out]; have h := H7.out; simp only [Lib.byteCells, List.map_append] at h ⊢; exact h⟩
          case measure => have := HLJ.out; simp [intOf]; omega
        · obtain rfl : j = ls.length := by omega
          have hts : ls.take ls.length = ls := List.take_of_length_le (Nat.le_refl _)
          rw [hts] at H6 HN
          obtain ⟨out, hout⟩ : ∃ out, out = ls.flatMap Prod.snd := ⟨_, rfl⟩
          have hn := HN.out
          rw [← hout] at H6 HO hn
          subst hn
          clear hout
          have H7 := Lib.hid (H5.out.join H6.out)
          clear H5 H6 hts
          go_wp2_with fail
          refine (done_any _ _ _ _).mono ?_
          rintro e w9 ⟨rfl, b9⟩
          -- out, disk, box, PT, reply, slices, last
          have H9 := Lib.hid ((H7.out.grow b9).s4)
          clear b9 H7
          (obtain ⟨L, K, z⟩ := H9.out.look; go_wp2; refine bodyPost_ret (v := .agg #[.slice Ao out.length co, .int .i64 12, .int .i64 0]) (by simp [results, Tryz.results248, go_sem, L]) rfl ?_)
          rw [HR.out, ← HO.out]
          exact ⟨Ao, co, rfl, (disk_close (sel_close (s := { s with next := s.next + 1 }) HV.out (HB.out.1 _ _ H9.out.set3.drop.s2.drop.s2).s3.s3.s4.b3)).s1⟩
  · have hn : s.recs[s.next]? = none := List.getElem?_eq_none (by omega)
    have HR := Lib.hid (show dkRead s cnt key = dkCheck s 2 by rw [HDK.out, hn])
    clear hn
    go_wp2_with fail
    (refine (check_any 2 H2.out.s1).mono ?_; rintro e w9 ⟨rfl, S9⟩; have H9 := Lib.hid S9.s1; clear S9; (obtain ⟨L, K, z⟩ := H9.out.look; go_wp2; refine bodyPost_ret (v := .agg #[.slice none 0 0, .int .i64 14, .int .i64 2]) (by simp [results, Tryz.results248, go_sem, L]) rfl ?_); rw [HR.out]; exact RetM.of (sel_close HV.out H9.out.set3.drop))
end
end Go.Proofs.YtlbbmfmkhmmikaaGreat.D
namespace Go.Proofs.YtlbbmfmkhmmikaaGreat.D
open Go.RowKit
section
variable {W w : World} {F : List SA} {x : Nat} {s : DK} {was : Bool}
set_option maxRecDepth 100000 in
set_option maxHeartbeats 16000000 in
theorem readK_any (dbx : Nat) (cnt key : Bool) (h : s.ok) (S : SL W (diskW x s was :: F) w)
    (hp : ∀ (y : Rec) (Ak Ad : Option Addr) (ck cd : Nat) (s' : DK) (tb : Nat) (lp : Option Addr) (G : List SA) (wx : World), s'.cyl = s.cyl → s'.head = s.head → (1 ≤ y.r ∧ y.r ≤ 255 ∧ y.key.length ≤ 255 ∧ y.data.length ≤ 2016) → CardAt wx Ak y.key ck → CardAt wx Ad y.data cd → SL W (cel x (dkCells s' tb lp was) 136 :: (G ++ F)) wx →
      Calls Tryz.prog 250 #[.agg #[.int .i64 y.r, .slice Ak y.key.length ck, .slice Ad y.data.length cd, .bool y.bad]] wx (PartsR wx ((if cnt then cntL s.cyl s.head y else []) ++ (if key then y.key else []) ++ y.data))) :
    Calls Tryz.prog 248 #[.pointer (some ⟨x, 0, none⟩), .func (.func 250) #[] #[]] w (RetM W F x (dkRead s cnt key)) := by
  obtain ⟨tb, lp, vs, A0, c0, hv0, hva, hvz, hlc, hcm, S1⟩ := sel_open h S
  have HS := Lib.hid S1
  have HV := Lib.hid hv0
  have HVZ := Lib.hid (And.intro hva hvz)
  have HH := Lib.hid h
  have HP := Lib.hid hp
  have hrl := h.rl
  have hnx := h.nx
  have HDK := Lib.hid (show dkRead s cnt key = match s.recs[s.next]? with
    | none => dkCheck s 2
    | some x => if x.bad then dkCheck { s with next := s.next + 1 } 8
      else dkDone { s with next := s.next + 1 } ((if cnt then cntL s.cyl s.head x else []) ++ (if key then x.key else []) ++ x.data) from rfl)
  clear S S1 h hv0 hva hvz hp
  (go_enter Tryz.func248, Tryz.ntmps248; go_upto_region 1 with fail; refine name_world (P := Code.wp _ _ _ _) ?_; intro wA hwA; have H1 := Lib.hid (SL.cast hwA (HS.out.allocC #[.slice none 0 0, .int .i64 0, .int .i64 0] 30)); clear hwA HS; generalize w.heap.size = rb at *)
  go_wp2_with fail
  refine (records_any HH.out ((H1.out.s2.look.1 s.here).trans HVZ.out.1) H1.out.s1).mono ?_
  rintro e w2 ⟨rfl, b2⟩
  have H2 := Lib.hid (H1.out.grow b2)
  clear b2 H1
  obtain ⟨L, K, z⟩ := H2.out.s1.look
  by_cases hlt : s.next < s.recs.length
  · have hy : s.recs[s.next]? = some s.recs[s.next] := List.getElem?_eq_getElem hlt
    have hyr := valid_rec HH.out.rv hy
    generalize s.recs[s.next] = y at hy hyr
    have HY := Lib.hid (And.intro hy hyr)
    obtain ⟨PT, g1, ck, cd, Ak, Ad, hA, SP, hback, hrec⟩ := rec_sel HVZ.out.2 hy H2.out.s3
    subst hA
    obtain ⟨k0, k1, k2, k3, _, _⟩ := hrec _ _ SP
    -- PT, reply, disk, slices, last
    have H2b := Lib.hid SP
    have HB := Lib.hid (And.intro hback hrec)
    rw [hy] at HDK
    clear hy hyr SP hback hrec H2
    go_upto_region 5 with fail
    refine name_world (P := Code.wp _ _ _ _) ?_
    intro w3 hw3
    have H3 := Lib.hid (SL.cast hw3 (H2b.out.allocC #[.int .i64 y.r, .slice Ak y.key.length ck, .slice Ad y.data.length cd, .bool y.bad] 78))
    clear hw3 H2b k0 k1 k2 k3 L K z
    generalize w2.heap.size = bx at *
    obtain ⟨L, K, z⟩ := H3.out.s3.look
    go_upto_region 6 with fail
    refine name_world (P := Code.wp _ _ _ _) ?_
    intro w4 hw4
    -- disk, box, PT, reply, slices, last
    have H4 := Lib.hid (SL.cast hw4 (H3.out.s3.set (off := 6) (v := .int .i64 ((s.next : Int) + 1)) (cs' := dkCells { s with next := s.next + 1 } tb lp was) (by simp [dkCells])))
    clear hw4 H3 L K z
    obtain ⟨L, K, z⟩ := H4.out.s1.look
    obtain ⟨yr, ykey, ydata, ybad⟩ := y
    dsimp only at *
    cases ybad with
    | true =>
      have HR := Lib.hid (show dkRead s cnt key = dkCheck { s with next := s.next + 1 } 8 from HDK.out)
      go_wp2_with fail
      refine (check_any 8 H4.out).mono ?_
      rintro e w9 ⟨rfl, S9⟩
      have H9 := Lib.hid (S9.s1.drop.s2)
      clear S9 L K z
      (obtain ⟨L, K, z⟩ := H9.out.look; go_wp2; refine bodyPost_ret (v := .agg #[.slice none 0 0, .int .i64 14, .int .i64 8]) (by simp [results, Tryz.results248, go_sem, L]) rfl ?_)
      rw [HR.out]
      -- reply, disk, PT, slices, last
      exact RetM.of (sel_close HV.out (HB.out.1 _ _ H9.out.set3.drop.s1).b2)
    | false =>
      have HR := Lib.hid (show dkRead s cnt key = dkDone { s with next := s.next + 1 } ((if cnt then cntL s.cyl s.head ⟨yr, ykey, ydata, false⟩ else []) ++ (if key then ykey else []) ++ ydata) from HDK.out)
      have hcl := HP.out ⟨yr, ykey, ydata, false⟩ Ak Ad ck cd { s with next := s.next + 1 } tb lp [_, _, _, _, _] w4 rfl rfl HY.out.2 (HB.out.2 _ _ H4.out.s2).2.2.2.2.1 (HB.out.2 _ _ H4.out.s2).2.2.2.2.2 H4.out
      have HC := Lib.hid hcl
      clear hcl
      go_wp2_with fail
      refine HC.out.mono ?_
      rintro e w5 ⟨q, ls, rfl, hl3, hout, b5, hparts⟩
      have H5 := Lib.hid (H4.out.grow b5)
      have HPA := Lib.hid hparts
      have HO := Lib.hid hout
      have HT := Lib.hid (fmap_len fun i v l hi => (hparts i v l hi).2.1)
      clear b5 hparts hout H4 HC L K z
      go_wp2
      go_loopw [7, 43] (fun o i wr => ∃ (j : Nat) (Ao : Option Addr) (co n : Nat), j ≤ ls.length ∧ i = .int .i64 j ∧ o = .slice Ao n co ∧ n = ((ls.take j).flatMap Prod.snd).length ∧ SL w5 (rowS 5 1 (.slice Ao n co) n (Lib.byteCells ((ls.take j).flatMap Prod.snd)) :: []) wr) (fun _ i _ => ls.length - (intOf i).toNat)
      case atStart => exact ⟨0, none, 0, 0, Nat.zero_le _, rfl, rfl, rfl, (SL.start w5).nil _ _⟩
      case round =>
        obtain ⟨j, Ao, co, n, hj, rfl, rfl, hn, S6⟩ := hrel
        have H6 := Lib.hid S6
        have HN := Lib.hid hn
        clear S6 hn
        by_cases hlj : j < ls.length
        · have HLJ := Lib.hid hlj
          have hls : ls[j]? = some ls[j] := List.getElem?_eq_getElem hlj
          generalize ls[j] = vl at hls
          obtain ⟨v, l⟩ := vl
          obtain ⟨hc0, hl1, Ap, cp, rfl, hcard⟩ := HPA.out j v l hls
          have k6 := (H6.out.below.cell (p := ⟨q, j, none⟩) (World.block_lt_of_cell? w5 _ hc0)).trans hc0
          have HCD := Lib.hid (hcard.grow H6.out.below)
          have HF := Lib.hid (flat_take hls)
          have htot : n + l.length ≤ 40000 := by
            have h1 := HT.out
            have h2 : ((ls.take j).flatMap Prod.snd).length ≤ (ls.flatMap Prod.snd).length := by
              have e := congrArg List.length (congrArg (List.flatMap Prod.snd) (List.take_append_drop j ls))
              rw [List.flatMap_append, List.length_append] at e; omega
            rw [HN.out]; omega
          have HLL := Lib.hid hl1
          clear hls hc0 hcard hl1
          go_wp2_with (at_builtin; refine wpList_appS rfl _ _ _ rfl bElem _ n _ rfl H6.out _ Ap l.length cp (Lib.byteCells l) rfl HCD.out.1 (by rw [byteCells_len, Nat.mul_one]) (byteCells_one l) (by unfold maxLen; omega) (by omega) ?_
                       intro A7 c7 w7 S7
                       have H7 := Lib.hid S7
                       clear S7 H6)
          go_roundw
          case rel => exact ⟨j + 1, A7, c7, n + l.length, HLJ.out, by go_num, rfl, by rw [HF.out, List.length_append, HN.out], by rw [HF.out]; have h := H7.out; simp only [Lib.byteCells, List.map_append] at h ⊢; exact h⟩
          case measure => have := HLJ.out; simp [intOf]; omega
        · obtain rfl : j = ls.length := by omega
          have hts : ls.take ls.length = ls := List.take_of_length_le (Nat.le_refl _)
          rw [hts] at H6 HN
          obtain ⟨out, hout⟩ : ∃ out, out = ls.flatMap Prod.snd := ⟨_, rfl⟩
          have hn := HN.out
          rw [← hout] at H6 HO hn
          subst hn
          clear hout
          have H7 := Lib.hid (H5.out.join H6.out)
          clear H5 H6 hts
          go_wp2_with fail
          refine (done_any _ _ _ _).mono ?_
          rintro e w9 ⟨rfl, b9⟩
          -- out, disk, box, PT, reply, slices, last
          have H9 := Lib.hid ((H7.out.grow b9).s4)
          clear b9 H7
          (obtain ⟨L, K, z⟩ := H9.out.look; go_wp2; refine bodyPost_ret (v := .agg #[.slice Ao out.length co, .int .i64 12, .int .i64 0]) (by simp [results, Tryz.results248, go_sem, L]) rfl ?_)
          rw [HR.out, ← HO.out]
          exact ⟨Ao, co, rfl, (disk_close (sel_close (s := { s with next := s.next + 1 }) HV.out (HB.out.1 _ _ H9.out.set3.drop.s2.drop.s2).s3.s3.s4.b3)).s1⟩
  · have hn : s.recs[s.next]? = none := List.getElem?_eq_none (by omega)
    have HR := Lib.hid (show dkRead s cnt key = dkCheck s 2 by rw [HDK.out, hn])
    clear hn
    go_wp2_with fail
    (refine (check_any 2 H2.out.s1).mono ?_; rintro e w9 ⟨rfl, S9⟩; have H9 := Lib.hid S9.s1; clear S9; (obtain ⟨L, K, z⟩ := H9.out.look; go_wp2; refine bodyPost_ret (v := .agg #[.slice none 0 0, .int .i64 14, .int .i64 2]) (by simp [results, Tryz.results248, go_sem, L]) rfl ?_); rw [HR.out]; exact RetM.of (sel_close HV.out H9.out.set3.drop))
end
end Go.Proofs.YtlbbmfmkhmmikaaGreat.D
namespace Go.Proofs.YtlbbmfmkhmmikaaGreat.D
open Go.RowKit
section
variable {W w : World} {F : List SA} {x : Nat} {s : DK} {was : Bool}
set_option maxRecDepth 100000 in
set_option maxHeartbeats 16000000 in
theorem readR_any (dbx : Nat) (cnt key : Bool) (h : s.ok) (S : SL W (diskW x s was :: F) w)
    (hp : ∀ (y : Rec) (Ak Ad : Option Addr) (ck cd : Nat) (s' : DK) (tb : Nat) (lp : Option Addr) (G : List SA) (wx : World), s'.cyl = s.cyl → s'.head = s.head → (1 ≤ y.r ∧ y.r ≤ 255 ∧ y.key.length ≤ 255 ∧ y.data.length ≤ 2016) → CardAt wx Ak y.key ck → CardAt wx Ad y.data cd → SL W (cel x (dkCells s' tb lp was) 136 :: (G ++ F)) wx →
      Calls Tryz.prog 251 #[.agg #[.int .i64 y.r, .slice Ak y.key.length ck, .slice Ad y.data.length cd, .bool y.bad], .pointer (some ⟨dbx, 0, none⟩)] wx (PartsR wx ((if cnt then cntL s.cyl s.head y else []) ++ (if key then y.key else []) ++ y.data))) :
    Calls Tryz.prog 248 #[.pointer (some ⟨x, 0, none⟩), .func (.func 251) #[] #[.pointer (some ⟨dbx, 0, none⟩)]] w (RetM W F x (dkRead s cnt key)) := by
  obtain ⟨tb, lp, vs, A0, c0, hv0, hva, hvz, hlc, hcm, S1⟩ := sel_open h S
  have HS := Lib.hid S1
  have HV := Lib.hid hv0
  have HVZ := Lib.hid (And.intro hva hvz)
  have HH := Lib.hid h
  have HP := Lib.hid hp
  have hrl := h.rl
  have hnx := h.nx
  have HDK := Lib.hid (show dkRead s cnt key = match s.recs[s.next]? with
    | none => dkCheck s 2
    | some x => if x.bad then dkCheck { s with next := s.next + 1 } 8
      else dkDone { s with next := s.next + 1 } ((if cnt then cntL s.cyl s.head x else []) ++ (if key then x.key else []) ++ x.data) from rfl)
  clear S S1 h hv0 hva hvz hp
  (go_enter Tryz.func248, Tryz.ntmps248; go_upto_region 1 with fail; refine name_world (P := Code.wp _ _ _ _) ?_; intro wA hwA; have H1 := Lib.hid (SL.cast hwA (HS.out.allocC #[.slice none 0 0, .int .i64 0, .int .i64 0] 30)); clear hwA HS; generalize w.heap.size = rb at *)
  go_wp2_with fail
  refine (records_any HH.out ((H1.out.s2.look.1 s.here).trans HVZ.out.1) H1.out.s1).mono ?_
  rintro e w2 ⟨rfl, b2⟩
  have H2 := Lib.hid (H1.out.grow b2)
  clear b2 H1
  obtain ⟨L, K, z⟩ := H2.out.s1.look
  by_cases hlt : s.next < s.recs.length
  · have hy : s.recs[s.next]? = some s.recs[s.next] := List.getElem?_eq_getElem hlt
    have hyr := valid_rec HH.out.rv hy
    generalize s.recs[s.next] = y at hy hyr
    have HY := Lib.hid (And.intro hy hyr)
    obtain ⟨PT, g1, ck, cd, Ak, Ad, hA, SP, hback, hrec⟩ := rec_sel HVZ.out.2 hy H2.out.s3
    subst hA
    obtain ⟨k0, k1, k2, k3, _, _⟩ := hrec _ _ SP
    -- PT, reply, disk, slices, last
    have H2b := Lib.hid SP
    have HB := Lib.hid (And.intro hback hrec)
    rw [hy] at HDK
    clear hy hyr SP hback hrec H2
    go_upto_region 5 with fail
    refine name_world (P := Code.wp _ _ _ _) ?_
    intro w3 hw3
    have H3 := Lib.hid (SL.cast hw3 (H2b.out.allocC #[.int .i64 y.r, .slice Ak y.key.length ck, .slice Ad y.data.length cd, .bool y.bad] 78))
    clear hw3 H2b k0 k1 k2 k3 L K z
    generalize w2.heap.size = bx at *
    obtain ⟨L, K, z⟩ := H3.out.s3.look
    go_upto_region 6 with fail
    refine name_world (P := Code.wp _ _ _ _) ?_
    intro w4 hw4
    -- disk, box, PT, reply, slices, last
    have H4 := Lib.hid (SL.cast hw4 (H3.out.s3.set (off := 6) (v := .int .i64 ((s.next : Int) + 1)) (cs' := dkCells { s with next := s.next + 1 } tb lp was) (by simp [dkCells])))
    clear hw4 H3 L K z
    obtain ⟨L, K, z⟩ := H4.out.s1.look
    obtain ⟨yr, ykey, ydata, ybad⟩ := y
    dsimp only at *
    cases ybad with
    | true =>
      have HR := Lib.hid (show dkRead s cnt key = dkCheck { s with next := s.next + 1 } 8 from HDK.out)
      go_wp2_with fail
      refine (check_any 8 H4.out).mono ?_
      rintro e w9 ⟨rfl, S9⟩
      have H9 := Lib.hid (S9.s1.drop.s2)
      clear S9 L K z
      (obtain ⟨L, K, z⟩ := H9.out.look; go_wp2; refine bodyPost_ret (v := .agg #[.slice none 0 0, .int .i64 14, .int .i64 8]) (by simp [results, Tryz.results248, go_sem, L]) rfl ?_)
      rw [HR.out]
      -- reply, disk, PT, slices, last
      exact RetM.of (sel_close HV.out (HB.out.1 _ _ H9.out.set3.drop.s1).b2)
    | false =>
      have HR := Lib.hid (show dkRead s cnt key = dkDone { s with next := s.next + 1 } ((if cnt then cntL s.cyl s.head ⟨yr, ykey, ydata, false⟩ else []) ++ (if key then ykey else []) ++ ydata) from HDK.out)
      have hcl := HP.out ⟨yr, ykey, ydata, false⟩ Ak Ad ck cd { s with next := s.next + 1 } tb lp [_, _, _, _, _] w4 rfl rfl HY.out.2 (HB.out.2 _ _ H4.out.s2).2.2.2.2.1 (HB.out.2 _ _ H4.out.s2).2.2.2.2.2 H4.out
      have HC := Lib.hid hcl
      clear hcl
      go_wp2_with fail
      refine HC.out.mono ?_
      rintro e w5 ⟨q, ls, rfl, hl3, hout, b5, hparts⟩
      have H5 := Lib.hid (H4.out.grow b5)
      have HPA := Lib.hid hparts
      have HO := Lib.hid hout
      have HT := Lib.hid (fmap_len fun i v l hi => (hparts i v l hi).2.1)
      clear b5 hparts hout H4 HC L K z
      go_wp2
      go_loopw [7, 43] (fun o i wr => ∃ (j : Nat) (Ao : Option Addr) (co n : Nat), j ≤ ls.length ∧ i = .int .i64 j ∧ o = .slice Ao n co ∧ n = ((ls.take j).flatMap Prod.snd).length ∧ SL w5 (rowS 5 1 (.slice Ao n co) n (Lib.byteCells ((ls.take j).flatMap Prod.snd)) :: []) wr) (fun _ i _ => ls.length - (intOf i).toNat)
      case atStart => exact ⟨0, none, 0, 0, Nat.zero_le _, rfl, rfl, rfl, (SL.start w5).nil _ _⟩
      case round =>
        obtain ⟨j, Ao, co, n, hj, rfl, rfl, hn, S6⟩ := hrel
        have H6 := Lib.hid S6
        have HN := Lib.hid hn
        clear S6 hn
        by_cases hlj : j < ls.length
        · have HLJ := Lib.hid hlj
          have hls : ls[j]? = some ls[j] := List.getElem?_eq_getElem hlj
          generalize ls[j] = vl at hls
          obtain ⟨v, l⟩ := vl
          obtain ⟨hc0, hl1, Ap, cp, rfl, hcard⟩ := HPA.out j v l hls
          have k6 := (H6.out.below.cell (p := ⟨q, j, none⟩) (World.block_lt_of_cell? w5 _ hc0)).trans hc0
          have HCD := Lib.hid (hcard.grow H6.out.below)
          have HF := Lib.hid (flat_take hls)
          have htot : n + l.length ≤ 40000 := by
            have h1 := HT.out
            have h2 : ((ls.take j).flatMap Prod.snd).length ≤ (ls.flatMap Prod.snd).length := by
              have e := congrArg List.length (congrArg (List.flatMap Prod.snd) (List.take_append_drop j ls))
              rw [List.flatMap_append, List.length_append] at e; omega
            rw [HN.out]; omega
          have HLL := Lib.hid hl1
          clear hls hc0 hcard hl1
          go_wp2_with (at_builtin; refine wpList_appS rfl _ _ _ rfl bElem _ n _ rfl H6.out _ Ap l.length cp (Lib.byteCells l) rfl HCD.out.1 (by rw [byteCells_len, Nat.mul_one]) (byteCells_one l) (by unfold maxLen; omega) (by omega) ?_
                       intro A7 c7 w7 S7
                       have H7 := Lib.hid S7
                       clear S7 H6)
          go_roundw
          case rel => exact ⟨j + 1, A7, c7, n + l.length, HLJ.out, by go_num, rfl, by rw [HF.out, List.length_append, HN.out], by rw [HF.out]; have h := H7.out; simp only [Lib.byteCells, List.map_append] at h ⊢; exact h⟩
          case measure => have := HLJ.out; simp [intOf]; omega
        · obtain rfl : j = ls.length := by omega
          have hts : ls.take ls.length = ls := List.take_of_length_le (Nat.le_refl _)
          rw [hts] at H6 HN
          obtain ⟨out, hout⟩ : ∃ out, out = ls.flatMap Prod.snd := ⟨_, rfl⟩
          have hn := HN.out
          rw [← hout] at H6 HO hn
          subst hn
          clear hout
          have H7 := Lib.hid (H5.out.join H6.out)
          clear H5 H6 hts
          go_wp2_with fail
          refine (done_any _ _ _ _).mono ?_
          rintro e w9 ⟨rfl, b9⟩
          -- out, disk, box, PT, reply, slices, last
          have H9 := Lib.hid ((H7.out.grow b9).s4)
          clear b9 H7
          (obtain ⟨L, K, z⟩ := H9.out.look; go_wp2; refine bodyPost_ret (v := .agg #[.slice Ao out.length co, .int .i64 12, .int .i64 0]) (by simp [results, Tryz.results248, go_sem, L]) rfl ?_)
          rw [HR.out, ← HO.out]
          exact ⟨Ao, co, rfl, (disk_close (sel_close (s := { s with next := s.next + 1 }) HV.out (HB.out.1 _ _ H9.out.set3.drop.s2.drop.s2).s3.s3.s4.b3)).s1⟩
  · have hn : s.recs[s.next]? = none := List.getElem?_eq_none (by omega)
    have HR := Lib.hid (show dkRead s cnt key = dkCheck s 2 by rw [HDK.out, hn])
    clear hn
    go_wp2_with fail
    (refine (check_any 2 H2.out.s1).mono ?_; rintro e w9 ⟨rfl, S9⟩; have H9 := Lib.hid S9.s1; clear S9; (obtain ⟨L, K, z⟩ := H9.out.look; go_wp2; refine bodyPost_ret (v := .agg #[.slice none 0 0, .int .i64 14, .int .i64 2]) (by simp [results, Tryz.results248, go_sem, L]) rfl ?_); rw [HR.out]; exact RetM.of (sel_close HV.out H9.out.set3.drop))
end
end Go.Proofs.YtlbbmfmkhmmikaaGreat.D
namespace Go.Proofs.YtlbbmfmkhmmikaaGreat.D
open Go.RowKit
theorem parts_one {w w' : World} {q : Nat} {A : Option Addr} {c : Nat} {l : List UInt8} (hb : Below w.heap.size w w') (h : CardAt w' A l c) (hl : l.length ≤ 10000) (h0 : w'.cell? ⟨q, 0, none⟩ = some (.slice A l.length c)) : PartsR w l (.returned (.slice (some ⟨q, 0, none⟩) 1 1)) w' :=
  ⟨q, [(.slice A l.length c, l)], rfl, by simp, by simp, hb, fun i v m hi => by
    match i, hi with
    | 0, hi => cases hi; exact ⟨h0, hl, A, c, rfl, h⟩
    | i + 1, hi => simp at hi⟩
theorem parts_two {w w' : World} {q : Nat} {A A2 : Option Addr} {c c2 : Nat} {l l2 : List UInt8} (hb : Below w.heap.size w w') (h : CardAt w' A l c) (hl : l.length ≤ 10000) (h0 : w'.cell? ⟨q, 0, none⟩ = some (.slice A l.length c)) (h2 : CardAt w' A2 l2 c2) (hl2 : l2.length ≤ 10000) (h1 : w'.cell? ⟨q, 1, none⟩ = some (.slice A2 l2.length c2)) : PartsR w (l ++ l2) (.returned (.slice (some ⟨q, 0, none⟩) 2 2)) w' :=
  ⟨q, [(.slice A l.length c, l), (.slice A2 l2.length c2, l2)], rfl, by simp, by simp, hb, fun i v m hi => by
    match i, hi with
    | 0, hi => cases hi; exact ⟨h0, hl, A, c, rfl, h⟩
    | 1, hi => cases hi; exact ⟨h1, hl2, A2, c2, rfl, h2⟩
    | i + 2, hi => simp at hi⟩
theorem parts_three {w w' : World} {q : Nat} {A A2 A3 : Option Addr} {c c2 c3 : Nat} {l l2 l3 : List UInt8} (hb : Below w.heap.size w w') (h : CardAt w' A l c) (hl : l.length ≤ 10000) (h0 : w'.cell? ⟨q, 0, none⟩ = some (.slice A l.length c)) (h2 : CardAt w' A2 l2 c2) (hl2 : l2.length ≤ 10000) (h1 : w'.cell? ⟨q, 1, none⟩ = some (.slice A2 l2.length c2))
    (h3 : CardAt w' A3 l3 c3) (hl3 : l3.length ≤ 10000) (h4 : w'.cell? ⟨q, 2, none⟩ = some (.slice A3 l3.length c3)) : PartsR w (l ++ l2 ++ l3) (.returned (.slice (some ⟨q, 0, none⟩) 3 3)) w' :=
  ⟨q, [(.slice A l.length c, l), (.slice A2 l2.length c2, l2), (.slice A3 l3.length c3, l3)], rfl, by simp, by simp, hb, fun i v m hi => by
    match i, hi with
    | 0, hi => cases hi; exact ⟨h0, hl, A, c, rfl, h⟩
    | 1, hi => cases hi; exact ⟨h1, hl2, A2, c2, rfl, h2⟩
    | 2, hi => cases hi; exact ⟨h4, hl3, A3, c3, rfl, h3⟩
    | i + 3, hi => simp at hi⟩
section
variable {W w : World} {F : List SA} {x tb : Nat} {s : DK} {lp : Option Addr} {was : Bool}
set_option maxRecDepth 100000 in
theorem partsD_any (y : Rec) (Ak Ad : Option Addr) (ck cd : Nat) (wx : World) (hy : 1 ≤ y.r ∧ y.r ≤ 255 ∧ y.key.length ≤ 255 ∧ y.data.length ≤ 2016) (h1 : CardAt wx Ak y.key ck) (h2 : CardAt wx Ad y.data cd) :
    Calls Tryz.prog 249 #[.agg #[.int .i64 y.r, .slice Ak y.key.length ck, .slice Ad y.data.length cd, .bool y.bad]] wx (PartsR wx y.data) := by
  have HY := Lib.hid hy
  have H2 := Lib.hid h2
  clear hy h1 h2
  go_enter Tryz.func249, Tryz.ntmps249
  go_wp2
  go_ret
  have hb : Below wx.heap.size wx ((wx.alloc (.cells #[.int .i64 y.r, .slice Ak y.key.length ck, .slice Ad y.data.length cd, .bool y.bad] 78)).alloc (.cells #[.slice Ad y.data.length cd] 27)) := by (repeat' (first | (with_reducible exact Below.refl _ _) | (with_reducible assumption) | (with_reducible refine below_drewN ?_ _) | (with_reducible refine Below.drew ?_) | (with_reducible refine Below.alloc ?_ ?_ _) | (with_reducible refine Below.setCell ?_ ?_ _) | (with_reducible refine below_row ?_ ?_ _) | (with_reducible exact Nat.le_refl _) | omega | (simp only [World.size_alloc, World.size_setCell, World.size_drew, World.size_drewN]; omega) | (simp; done) | (simp; omega)))
  refine parts_one hb (H2.out.grow hb) (by have := HY.out; omega) ?_
  have hl := (row_look (hl_new (w := wx.alloc (.cells #[.int .i64 y.r, .slice Ak y.key.length ck, .slice Ad y.data.length cd, .bool y.bad] 78)) (o := .cells #[.slice Ad y.data.length cd] 27) rfl)).1
  simp only [World.size_alloc] at hl
  exact hl 0
set_option maxRecDepth 100000 in
theorem partsK_any (y : Rec) (Ak Ad : Option Addr) (ck cd : Nat) (wx : World) (hy : 1 ≤ y.r ∧ y.r ≤ 255 ∧ y.key.length ≤ 255 ∧ y.data.length ≤ 2016) (h1 : CardAt wx Ak y.key ck) (h2 : CardAt wx Ad y.data cd) :
    Calls Tryz.prog 250 #[.agg #[.int .i64 y.r, .slice Ak y.key.length ck, .slice Ad y.data.length cd, .bool y.bad]] wx (PartsR wx (y.key ++ y.data)) := by
  have HY := Lib.hid hy
  have H2 := Lib.hid (And.intro h1 h2)
  clear hy h1 h2
  go_enter Tryz.func250, Tryz.ntmps250
  go_wp2
  go_ret
  have hb : Below wx.heap.size wx ((wx.alloc (.cells #[.int .i64 y.r, .slice Ak y.key.length ck, .slice Ad y.data.length cd, .bool y.bad] 78)).alloc (.cells #[.slice Ak y.key.length ck, .slice Ad y.data.length cd] 27)) := by (repeat' (first | (with_reducible exact Below.refl _ _) | (with_reducible assumption) | (with_reducible refine below_drewN ?_ _) | (with_reducible refine Below.drew ?_) | (with_reducible refine Below.alloc ?_ ?_ _) | (with_reducible refine Below.setCell ?_ ?_ _) | (with_reducible refine below_row ?_ ?_ _) | (with_reducible exact Nat.le_refl _) | omega | (simp only [World.size_alloc, World.size_setCell, World.size_drew, World.size_drewN]; omega) | (simp; done) | (simp; omega)))
  have hl := (row_look (hl_new (w := wx.alloc (.cells #[.int .i64 y.r, .slice Ak y.key.length ck, .slice Ad y.data.length cd, .bool y.bad] 78)) (o := .cells #[.slice Ak y.key.length ck, .slice Ad y.data.length cd] 27) rfl)).1
  simp only [World.size_alloc] at hl
  exact parts_two hb (H2.out.1.grow hb) (by have := HY.out; omega) (hl 0) (H2.out.2.grow hb) (by have := HY.out; omega) (hl 1)
set_option maxRecDepth 100000 in
theorem partsR_any (dbx : Nat) (y : Rec) (Ak Ad : Option Addr) (ck cd : Nat) (wx : World) (hcy : s.cyl ≤ 64) (hhd : s.head ≤ 8) (hy : 1 ≤ y.r ∧ y.r ≤ 255 ∧ y.key.length ≤ 255 ∧ y.data.length ≤ 2016) (h1 : CardAt wx Ak y.key ck) (h2 : CardAt wx Ad y.data cd)
    (S : SL W (cel x (dkCells s tb lp was) 136 :: cel dbx #[.pointer (some ⟨x, 0, none⟩)] 68 :: F) wx) :
    Calls Tryz.prog 251 #[.agg #[.int .i64 y.r, .slice Ak y.key.length ck, .slice Ad y.data.length cd, .bool y.bad], .pointer (some ⟨dbx, 0, none⟩)] wx (PartsR wx (cntL s.cyl s.head y ++ y.key ++ y.data)) := by
  have HY := Lib.hid hy
  have H2 := Lib.hid (And.intro h1 h2)
  have HS := Lib.hid S
  clear hy h1 h2 S
  go_enter Tryz.func251, Tryz.ntmps251
  go_upto_region 1 with fail
  refine name_world (P := Code.wp _ _ _ _) ?_
  intro wd hwd
  have hb : Below wx.heap.size wx wd := by rw [hwd]; exact (((Below.refl _ _).alloc (Nat.le_refl _) _))
  have H3 := Lib.hid (SL.cast hwd ((SL.start wx).allocC #[.int .i64 y.r, .slice Ak y.key.length ck, .slice Ad y.data.length cd, .bool y.bad] 78))
  have HS3 := Lib.hid (HS.out.grow hb)
  have HB := Lib.hid hb
  clear hwd HS hb
  obtain ⟨L, K, z⟩ := H3.out.look
  obtain ⟨L2, K2, z2⟩ := HS3.out.s1.look
  have HL := Lib.hid (fun (wy : World) (hx : Below wd.heap.size wd wy) => (⟨(hx.cell (p := ⟨dbx, 0, none⟩) z2).trans (L2 0), (hx.cell (p := ⟨wx.heap.size, 0, none⟩) z).trans (L 0), (hx.cell (p := ⟨wx.heap.size, 1, none⟩) z).trans (L 1), (hx.cell (p := ⟨wx.heap.size, 2, none⟩) z).trans (L 2), (hx.cell (p := ⟨wx.heap.size, 3, none⟩) z).trans (L 3)⟩ :
    wy.cell? ⟨dbx, 0, none⟩ = some (.pointer (some ⟨x, 0, none⟩)) ∧ wy.cell? ⟨wx.heap.size, 0, none⟩ = some (.int .i64 y.r) ∧ wy.cell? ⟨wx.heap.size, 1, none⟩ = some (.slice Ak y.key.length ck) ∧ wy.cell? ⟨wx.heap.size, 2, none⟩ = some (.slice Ad y.data.length cd) ∧ wy.cell? ⟨wx.heap.size, 3, none⟩ = some (.bool y.bad)))
  clear L K z L2 K2 z2
  refine wp_region_order (fun wy => Below wd.heap.size wd wy) [] [0, 1, 3, 4, 5, 6] [] [2] [7, 8] (by kernel_rfl) (by kernel_rfl) (Below.refl _ _).drew (by intro c a d v w h; cases d <;> exact h) ?_
  simp only [pick, List.filterMap_cons, List.filterMap_nil, List.getElem?_cons_zero, List.getElem?_cons_succ]
  refine wpPure_nil ?_
  (repeat (with_reducible refine wpLoads_step ?_; intro K hK; go_simp; first | (with_reducible refine hK _ ?_; clear hK K) | (rw [if_neg (by decide)]; with_reducible refine hK _ ?_; clear hK K) | (refine ⟨_, fun wx hx => (by obtain ⟨f0, f1, f2, f3, f4⟩ := HL.out wx hx; go_simp; with_reducible rfl), hK _ ?_⟩; clear hK K) | (refine ⟨_, fun _ _ => rfl, hK _ ?_⟩; clear hK K))); with_reducible refine wpLoads_nil ?_
  refine wpQuiet_nil ?_
  intro wq hwq
  have BQ := Lib.hid hwq
  clear hwq
  (with_reducible refine wpKeep_step ?_; intro K hK; go_simp)
  refine (count_any y Ak Ad ck cd hcy hhd HY.out (HS3.out.grow BQ.out)).mono ?_
  rintro e w5 ⟨g, rfl, S5, b5⟩
  refine hK _ _ (BQ.out.trans (b5.mono BQ.out.size)) ?_
  clear hK K
  refine wpKeep_nil ?_
  have HC := Lib.hid (rowS_card (l := cntL s.cyl s.head y) (c := 8) (by rw [cntL_len]; exact S5))
  have HBB := Lib.hid (HB.out.trans ((BQ.out.trans (b5.mono BQ.out.size)).mono HB.out.size))
  clear S5 b5 BQ HL H3 HS3
  go_wp2
  go_ret
  have hb : Below wx.heap.size wx (w5.alloc (.cells #[.slice (some ⟨g, 0, none⟩) 8 8, .slice Ak y.key.length ck, .slice Ad y.data.length cd] 27)) := HBB.out.alloc HBB.out.size _
  have hl := (row_look (hl_new (w := w5) (o := .cells #[.slice (some ⟨g, 0, none⟩) 8 8, .slice Ak y.key.length ck, .slice Ad y.data.length cd] 27) rfl)).1
  have h8 := HC.out.grow (w' := w5.alloc (.cells #[.slice (some ⟨g, 0, none⟩) 8 8, .slice Ak y.key.length ck, .slice Ad y.data.length cd] 27)) ((Below.refl _ _).alloc (Nat.le_refl _) _)
  exact parts_three hb h8 (by rw [cntL_len]; omega) (by rw [cntL_len]; exact hl 0) (H2.out.1.grow hb) (by have := HY.out; omega) (hl 1) (H2.out.2.grow hb) (by have := HY.out; omega) (hl 2)
set_option maxRecDepth 100000 in
theorem readData_any (A : Option Addr) (n c : Nat) (h : s.ok) (S : SL W (diskW x s was :: F) w) : Calls Tryz.prog 233 #[.pointer (some ⟨x, 0, none⟩), .slice A n c] w (RetM W F x (dkRead s false false)) := by
  have HS := Lib.hid S
  clear S
  (go_enter Tryz.func233, Tryz.ntmps233; go_upto_region 1 with fail; refine name_world (P := Code.wp _ _ _ _) ?_; intro wA hwA; have H1 := Lib.hid (SL.cast hwA (HS.out.allocC #[.slice none 0 0, .int .i64 0, .int .i64 0] 30)); clear hwA HS; generalize w.heap.size = rb at *)
  go_wp2_with fail
  refine (readD_any 0 false false h H1.out.s1 (fun y Ak Ad ck cd s' tb lp G wx _ _ hy h1 h2 _ => partsD_any y Ak Ad ck cd wx hy h1 h2)).mono ?_
  rintro e w9 ⟨A9, c9, rfl, S9⟩
  have H9 := Lib.hid S9.s2
  clear S9
  obtain ⟨L, K, z⟩ := H9.out.look
  go_wp2
  refine bodyPost_ret (by simp [results, Tryz.results233, go_sem, L]; rfl) rfl ?_
  exact ⟨A9, c9, rfl, H9.out.set3.drop⟩
set_option maxRecDepth 100000 in
theorem readKeyData_any (A : Option Addr) (n c : Nat) (h : s.ok) (S : SL W (diskW x s was :: F) w) : Calls Tryz.prog 234 #[.pointer (some ⟨x, 0, none⟩), .slice A n c] w (RetM W F x (dkRead s false true)) := by
  have HS := Lib.hid S
  clear S
  (go_enter Tryz.func234, Tryz.ntmps234; go_upto_region 1 with fail; refine name_world (P := Code.wp _ _ _ _) ?_; intro wA hwA; have H1 := Lib.hid (SL.cast hwA (HS.out.allocC #[.slice none 0 0, .int .i64 0, .int .i64 0] 30)); clear hwA HS; generalize w.heap.size = rb at *)
  go_wp2_with fail
  refine (readK_any 0 false true h H1.out.s1 (fun y Ak Ad ck cd s' tb lp G wx _ _ hy h1 h2 _ => partsK_any y Ak Ad ck cd wx hy h1 h2)).mono ?_
  rintro e w9 ⟨A9, c9, rfl, S9⟩
  have H9 := Lib.hid S9.s2
  clear S9
  obtain ⟨L, K, z⟩ := H9.out.look
  go_wp2
  refine bodyPost_ret (by simp [results, Tryz.results234, go_sem, L]; rfl) rfl ?_
  exact ⟨A9, c9, rfl, H9.out.set3.drop⟩
set_option maxRecDepth 100000 in
theorem readRecord_any (A : Option Addr) (n c : Nat) (h : s.ok) (S : SL W (diskW x s was :: F) w) : Calls Tryz.prog 235 #[.pointer (some ⟨x, 0, none⟩), .slice A n c] w (RetM W F x (dkRead s true true)) := by
  have HS := Lib.hid S
  have hcy : s.cyl ≤ 64 := by have := h.cy; have := h.c1; omega
  have hhd : s.head ≤ 8 := by have := h.hd; have := h.h1; omega
  clear S
  have hmf : ∀ (fn : Fn) (first cap : Array Value) (w : World), (Instr.makeFunc fn first cap).run Tryz.prog w = .ok (.func fn first cap) w := fun _ _ _ _ => rfl
  go_enter Tryz.func235, Tryz.ntmps235
  go_upto_region 1 with fail
  refine name_world (P := Code.wp _ _ _ _) ?_
  intro wA hwA
  have h1 := SL.cast hwA ((HS.out.allocC #[.pointer (some ⟨x, 0, none⟩)] 68).allocC #[.slice none 0 0, .int .i64 0, .int .i64 0] 30)
  simp only [World.size_alloc] at h1
  have H1 := Lib.hid h1
  clear hwA HS h1
  generalize w.heap.size + 1 = rb at *
  generalize w.heap.size = bx at *
  obtain ⟨L, K, z⟩ := H1.out.s1.look
  go_wp2_with fail
  -- reply, box, disk
  refine (readR_any bx true true h H1.out.s2 (fun y Ak Ad ck cd s' tb lp G wx e1 e2 hy h1 h2 S => ?_)).mono ?_
  · have hp := partsR_any (s := s') bx y Ak Ad ck cd wx (by rw [e1]; exact hcy) (by rw [e2]; exact hhd) hy h1 h2 (W := W) (x := x) (tb := tb) (lp := lp) (was := was) (SL.dropMid S).s2.s1
    rw [e1, e2] at hp
    exact hp
  rintro e w9 ⟨A9, c9, rfl, S9⟩
  have H9 := Lib.hid S9.s2
  clear S9 L K z
  obtain ⟨L, K, z⟩ := H9.out.look
  go_wp2
  refine bodyPost_ret (by simp [results, Tryz.results235, go_sem, L]; rfl) rfl ?_
  exact ⟨A9, c9, rfl, H9.out.set3.drop.s2.drop⟩
end
end Go.Proofs.YtlbbmfmkhmmikaaGreat.D
