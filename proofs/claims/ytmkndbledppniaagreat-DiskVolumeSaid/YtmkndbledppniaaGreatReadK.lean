/- read with readKeyData$1. -/
import Derived.Test.YtmkndbledppniaaGreatSel
namespace Go.Proofs.YtmkndbledppniaaGreat
open Go.RowKit
section
variable {W w : World} {F : List SA} {x : Nat} {s : DK} {was : Bool}
set_option maxRecDepth 100000 in
set_option maxHeartbeats 16000000 in
theorem readK_any (dbx : Nat) (cnt key : Bool) (h : s.ok) (S : SL W (diskW x s was :: F) w)
    (hp : ∀ (y : Rec) (Ak Ad : Option Addr) (ck cd : Nat) (s' : DK) (tb : Nat) (lp : Option Addr) (G : List SA) (wx : World), s'.cyl = s.cyl → s'.head = s.head → (1 ≤ y.r ∧ y.r ≤ 255 ∧ y.key.length ≤ 255 ∧ y.data.length ≤ 2016) → CardAt wx Ak y.key ck → CardAt wx Ad y.data cd → SL W (cel x (dkCells s' tb lp was) 50 :: (G ++ F)) wx →
      Calls Tryz.prog 85 #[.agg #[.int .i64 y.r, .slice Ak y.key.length ck, .slice Ad y.data.length cd, .bool y.bad]] wx (PartsR wx ((if cnt then cntL s.cyl s.head y else []) ++ (if key then y.key else []) ++ y.data))) :
    Calls Tryz.prog 83 #[.pointer (some ⟨x, 0, none⟩), .func (.func 85) #[] #[]] w (RetM W F x (dkRead s cnt key)) := by
  obtain ⟨tb, lp, vs, A0, c0, hv0, hva, hvz, hlc, hcm, S1⟩ := sel_open h S
  have HS := Lib.hid S1
  have HV := Lib.hid hv0
  have HVZ := Lib.hid (And.intro hva hvz)
  have HH := Lib.hid h
  have HP := Lib.hid hp
  have hrl := h.rl
  have hnx := h.nx
  have HDK := Lib.hid (show dkRead s cnt key = match s.recs[s.next]? with
    | none => dkCheck s 2
    | some x => if x.bad then dkCheck { s with next := s.next + 1 } 8
      else dkDone { s with next := s.next + 1 } ((if cnt then cntL s.cyl s.head x else []) ++ (if key then x.key else []) ++ x.data) from rfl)
  clear S S1 h hv0 hva hvz hp
  (go_enter Tryz.func83, Tryz.ntmps83; go_upto_region 1 with fail; refine name_world (P := Code.wp _ _ _ _) ?_; intro wA hwA; have H1 := Lib.hid (SL.cast hwA (HS.out.allocC #[.slice none 0 0, .int .i64 0, .int .i64 0] 53)); clear hwA HS; generalize w.heap.size = rb at *)
  go_wp2_with fail
  refine (records_any HH.out ((H1.out.s2.look.1 s.here).trans HVZ.out.1) H1.out.s1).mono ?_
  rintro e w2 ⟨rfl, b2⟩
  have H2 := Lib.hid (H1.out.grow b2)
  clear b2 H1
  obtain ⟨L, K, z⟩ := H2.out.s1.look
  by_cases hlt : s.next < s.recs.length
  · have hy : s.recs[s.next]? = some s.recs[s.next] := List.getElem?_eq_getElem hlt
    have hyr := valid_rec HH.out.rv hy
    generalize s.recs[s.next] = y at hy hyr
    have HY := Lib.hid (And.intro hy hyr)
    obtain ⟨PT, g1, ck, cd, Ak, Ad, hA, SP, hback, hrec⟩ := rec_sel HVZ.out.2 hy H2.out.s3
    subst hA
    obtain ⟨k0, k1, k2, k3, _, _⟩ := hrec _ _ SP
    -- PT, reply, disk, slices, last
    have H2b := Lib.hid SP
    have HB := Lib.hid (And.intro hback hrec)
    rw [hy] at HDK
    clear hy hyr SP hback hrec H2
    go_upto_region 5 with fail
    refine name_world (P := Code.wp _ _ _ _) ?_
    intro w3 hw3
    have H3 := Lib.hid (SL.cast hw3 (H2b.out.allocC #[.int .i64 y.r, .slice Ak y.key.length ck, .slice Ad y.data.length cd, .bool y.bad] 62))
    clear hw3 H2b k0 k1 k2 k3 L K z
    generalize w2.heap.size = bx at *
    obtain ⟨L, K, z⟩ := H3.out.s3.look
    go_upto_region 6 with fail
    refine name_world (P := Code.wp _ _ _ _) ?_
    intro w4 hw4
    -- disk, box, PT, reply, slices, last
    have H4 := Lib.hid (SL.cast hw4 (H3.out.s3.set (off := 6) (v := .int .i64 ((s.next : Int) + 1)) (cs' := dkCells { s with next := s.next + 1 } tb lp was) (by simp [dkCells])))
    clear hw4 H3 L K z
    obtain ⟨L, K, z⟩ := H4.out.s1.look
    obtain ⟨yr, ykey, ydata, ybad⟩ := y
    dsimp only at *
    cases ybad with
    | true =>
      have HR := Lib.hid (show dkRead s cnt key = dkCheck { s with next := s.next + 1 } 8 from HDK.out)
      go_wp2_with fail
      refine (check_any 8 H4.out).mono ?_
      rintro e w9 ⟨rfl, S9⟩
      have H9 := Lib.hid (S9.s1.drop.s2)
      clear S9 L K z
      (obtain ⟨L, K, z⟩ := H9.out.look; go_wp2; refine bodyPost_ret (v := .agg #[.slice none 0 0, .int .i64 14, .int .i64 8]) (by simp [results, Tryz.results83, go_sem, L]) rfl ?_)
      rw [HR.out]
      -- reply, disk, PT, slices, last
      exact RetM.of (sel_close HV.out (HB.out.1 _ _ H9.out.set3.drop.s1).b2)
    | false =>
      have HR := Lib.hid (show dkRead s cnt key = dkDone { s with next := s.next + 1 } ((if cnt then cntL s.cyl s.head ⟨yr, ykey, ydata, false⟩ else []) ++ (if key then ykey else []) ++ ydata) from HDK.out)
      have hcl := HP.out ⟨yr, ykey, ydata, false⟩ Ak Ad ck cd { s with next := s.next + 1 } tb lp [_, _, _, _, _] w4 rfl rfl HY.out.2 (HB.out.2 _ _ H4.out.s2).2.2.2.2.1 (HB.out.2 _ _ H4.out.s2).2.2.2.2.2 H4.out
      have HC := Lib.hid hcl
      clear hcl
      go_wp2_with fail
      refine HC.out.mono ?_
      rintro e w5 ⟨q, ls, rfl, hl3, hout, b5, hparts⟩
      have H5 := Lib.hid (H4.out.grow b5)
      have HPA := Lib.hid hparts
      have HO := Lib.hid hout
      have HT := Lib.hid (fmap_len fun i v l hi => (hparts i v l hi).2.1)
      clear b5 hparts hout H4 HC L K z
      go_wp2
      go_loopw [7, 43] (fun o i wr => ∃ (j : Nat) (Ao : Option Addr) (co n : Nat), j ≤ ls.length ∧ i = .int .i64 j ∧ o = .slice Ao n co ∧ n = ((ls.take j).flatMap Prod.snd).length ∧ SL w5 (rowS 5 1 (.slice Ao n co) n (Lib.byteCells ((ls.take j).flatMap Prod.snd)) :: []) wr) (fun _ i _ => ls.length - (intOf i).toNat)
      case atStart => exact ⟨0, none, 0, 0, Nat.zero_le _, rfl, rfl, rfl, (SL.start w5).nil _ _⟩
      case round =>
        obtain ⟨j, Ao, co, n, hj, rfl, rfl, hn, S6⟩ := hrel
        have H6 := Lib.hid S6
        have HN := Lib.hid hn
        clear S6 hn
        by_cases hlj : j < ls.length
        · have HLJ := Lib.hid hlj
          have hls : ls[j]? = some ls[j] := List.getElem?_eq_getElem hlj
          generalize ls[j] = vl at hls
          obtain ⟨v, l⟩ := vl
          obtain ⟨hc0, hl1, Ap, cp, rfl, hcard⟩ := HPA.out j v l hls
          have k6 := (H6.out.below.cell (p := ⟨q, j, none⟩) (World.block_lt_of_cell? w5 _ hc0)).trans hc0
          have HCD := Lib.hid (hcard.grow H6.out.below)
          have HF := Lib.hid (flat_take hls)
          have htot : n + l.length ≤ 40000 := by
            have h1 := HT.out
            have h2 : ((ls.take j).flatMap Prod.snd).length ≤ (ls.flatMap Prod.snd).length := by
              have e := congrArg List.length (congrArg (List.flatMap Prod.snd) (List.take_append_drop j ls))
              rw [List.flatMap_append, List.length_append] at e; omega
            rw [HN.out]; omega
          have HLL := Lib.hid hl1
          clear hls hc0 hcard hl1
          go_wp2_with (at_builtin; refine wpList_appS rfl _ _ _ rfl bElem _ n _ rfl H6.out _ Ap l.length cp (Lib.byteCells l) rfl HCD.out.1 (by rw [byteCells_len, Nat.mul_one]) (byteCells_one l) (by unfold maxLen; omega) (by omega) ?_
                       intro A7 c7 w7 S7
                       have H7 := Lib.hid S7
                       clear S7 H6)
          go_roundw
          case rel => exact ⟨j + 1, A7, c7, n + l.length, HLJ.out, by go_num, rfl, by rw [HF.out, List.length_append, HN.out], by rw [HF.out]; have h := H7.out; simp only [Lib.byteCells, List.map_append] at h ⊢; exact h⟩
          case measure => have := HLJ.out; simp [intOf]; omega
        · obtain rfl : j = ls.length := by omega
          have hts : ls.take ls.length = ls := List.take_of_length_le (Nat.le_refl _)
          rw [hts] at H6 HN
          obtain ⟨out, hout⟩ : ∃ out, out = ls.flatMap Prod.snd := ⟨_, rfl⟩
          have hn := HN.out
          rw [← hout] at H6 HO hn
          subst hn
          clear hout
          have H7 := Lib.hid (H5.out.join H6.out)
          clear H5 H6 hts
          go_wp2_with fail
          refine (done_any _ _ _ _).mono ?_
          rintro e w9 ⟨rfl, b9⟩
          -- out, disk, box, PT, reply, slices, last
          have H9 := Lib.hid ((H7.out.grow b9).s4)
          clear b9 H7
          (obtain ⟨L, K, z⟩ := H9.out.look; go_wp2; refine bodyPost_ret (v := .agg #[.slice Ao out.length co, .int .i64 12, .int .i64 0]) (by simp [results, Tryz.results83, go_sem, L]) rfl ?_)
          rw [HR.out, ← HO.out]
          exact ⟨Ao, co, rfl, (disk_close (sel_close (s := { s with next := s.next + 1 }) HV.out (HB.out.1 _ _ H9.out.set3.drop.s2.drop.s2).s3.s3.s4.b3)).s1⟩
  · have hn : s.recs[s.next]? = none := List.getElem?_eq_none (by omega)
    have HR := Lib.hid (show dkRead s cnt key = dkCheck s 2 by rw [HDK.out, hn])
    clear hn
    go_wp2_with fail
    (refine (check_any 2 H2.out.s1).mono ?_; rintro e w9 ⟨rfl, S9⟩; have H9 := Lib.hid S9.s1; clear S9; (obtain ⟨L, K, z⟩ := H9.out.look; go_wp2; refine bodyPost_ret (v := .agg #[.slice none 0 0, .int .i64 14, .int .i64 2]) (by simp [results, Tryz.results83, go_sem, L]) rfl ?_); rw [HR.out]; exact RetM.of (sel_close HV.out H9.out.set3.drop))
end
end Go.Proofs.YtmkndbledppniaaGreat
