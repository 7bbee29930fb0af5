/- The document's unit: Do. -/
import Derived.Test.YtmkndbledppniaaGreatQForm
import Derived.Test.YtmkndbledppniaaGreatQID
import Derived.Test.YtmkndbledppniaaGreatDo
namespace Go.Proofs.YtmkndbledppniaaGreat
open Go.RowKit
section
variable {W w : World} {F : List SA} {x : Nat} {s : DK}
set_option maxRecDepth 100000 in
set_option maxHeartbeats 64000000 in
theorem qdo_any (op : Int) (A : Option Addr) (b : List UInt8) (c : Nat) (hd : CardB W F A b c) (h : s.ok) (S : SL W (qdiskS x s :: F) w) :
    Calls Tryz.prog 16 #[.pointer (some ⟨x, 0, none⟩), .int .i64 op, .slice A b.length c] w (RetQ W F x (dkDo s op b)) := by
  obtain ⟨tb, old, a, n, S1⟩ := qdisk_open S
  have HS := Lib.hid S1
  have HD := Lib.hid hd
  have HH0 := Lib.hid h
  have HFD := Lib.hid h.fd
  have HSN := Lib.hid h.sn
  generalize hch : s.last.isSome = ch at *
  clear S S1 hd h hch
  (go_enter Tryz.func16, Tryz.ntmps16; go_upto_region 1 with fail; refine name_world (P := Code.wp _ _ _ _) ?_; intro wA hwA; have H1 := Lib.hid (SL.cast hwA (HS.out.allocC #[.slice none 0 0, .int .i64 0, .int .i64 0] 53)); clear hwA HS; generalize w.heap.size = rb at *)
  have hdA : CardB W (cel rb #[.slice none 0 0, .int .i64 0, .int .i64 0] 53 :: F) A b c := fun w S => HD.out w S.drop
  obtain ⟨L, K, z⟩ := H1.out.s1.look
  by_cases h3 : op = 3
  · subst h3
    have HR := Lib.hid (show dkDo s 3 b = dkDone { s with last := none } [] from rfl)
    go_wp2_with fail
    refine name_world (P := fun W => Calls _ _ _ W _) ?_; intro wd hwd
    -- disk, reply, tracks, last
    have h2 := SL.cast hwd (H1.out.s1.set (off := 9) (v := .bool false) (cs' := qCells { s with last := none } tb false old a n) rfl)
    have H2 := Lib.hid (show SL W (cel rb #[.slice none 0 0, .int .i64 0, .int .i64 0] 53 :: qdiskS x { s with last := none } :: F) wd from (qdisk_close (s := { s with last := none }) (tb := tb) (ch := false) (old := old) (a := a) (n := n) rfl (lastQ_none old a n h2.s3.drop.s2.s1).b2).s1)
    clear hwd h2 H1 L K z
    refine (good_any _ _ _ _).mono ?_
    rintro e w9 ⟨rfl, b9⟩
    have H9 := Lib.hid (H2.out.grow b9)
    clear b9 H2
    (obtain ⟨L, K, z⟩ := H9.out.look; go_wp2; refine bodyPost_ret (v := .agg #[.slice none 0 0, .int .i64 12, .int .i64 0]) (by simp [results, Tryz.results16, go_sem, L]) rfl ?_)
    rw [HR.out]
    exact RetQ.of H9.out.set3.drop
  by_cases h4 : op = 4
  · subst h4
    have HR := Lib.hid (show dkDo s 4 b = dkDone { s with last := none } [UInt8.ofNat s.sense] from rfl)
    have hsn := HSN.out
    go_wp2_with fail
    refine name_world (P := fun W => Calls _ _ _ W _) ?_; intro wd hwd
    have hc8 : ((UInt8.ofNat s.sense).toNat : Int) = (s.sense : Int) := by rw [UInt8.toNat_ofNat']; omega
    have h2 := SL.cast hwd ((H1.out.s1.set (off := 9) (v := .bool false) (cs' := qCells { s with last := none } tb false old a n) rfl).lit #[.int .u8 (s.sense : Int)] 5 1 1 rfl (by decide))
    simp only [World.size_setCell] at h2
    have H2 := Lib.hid (show SL W (rowS 5 1 (.slice (some ⟨wA.heap.size, 0, none⟩) 1 1) 1 (Lib.byteCells [UInt8.ofNat s.sense]) :: _) wd by rw [show Lib.byteCells [UInt8.ofNat s.sense] = [.int .u8 (s.sense : Int)] by simp only [Lib.byteCells, List.map_cons, List.map_nil, hc8]]; exact h2)
    clear hwd h2 H1 hc8 hsn L K z
    -- byte, disk, reply, tracks, last
    refine (good_any _ _ _ _).mono ?_
    rintro e w9 ⟨rfl, b9⟩
    have H9 := Lib.hid ((H2.out.grow b9).s2)
    clear b9 H2
    (obtain ⟨L, K, z⟩ := H9.out.look; go_wp2; refine bodyPost_ret (v := .agg #[.slice (some ⟨wA.heap.size, 0, none⟩) 1 1, .int .i64 12, .int .i64 0]) (by simp [results, Tryz.results16, go_sem, L]) rfl ?_)
    rw [HR.out]
    -- reply, byte, disk, tracks, last
    refine ⟨_, 1, rfl, ?_⟩
    have hfin : ∀ (w' : World) (X : SA), SL W (X :: cel x (qCells { s with last := none } tb false old a n) 40 :: tracksQ tb s.tracks :: lastQ old a n s.last :: F) w' → SL W (X :: qdiskS x { s with last := none } :: F) w' := fun w' X S' => (qdisk_close (s := { s with last := none }) (tb := tb) (ch := false) rfl (lastQ_none old a n (S'.s3.drop.b2)).b2).s1
    exact hfin _ _ H9.out.set3.drop
  have HDD := Lib.hid (show dkDo s op b = dkCmd (s1of s) s.found op b by unfold dkDo; rw [if_neg h3, if_neg h4])
  have t3 : (op == 3) = false := by rw [beq_eq_false_iff_ne]; exact h3
  have t4 : (op == 4) = false := by rw [beq_eq_false_iff_ne]; exact h4
  have t3' : (op != 3) = true := by simp [h3]
  have t4' : (op != 4) = true := by simp [h4]
  go_upto_region 5 with fail
  refine name_world (P := Code.wp _ _ _ _) ?_
  intro w4 hw4
  have h2 := SL.cast hw4 ((H1.out.s1.set (off := 7) (v := .bool false) (cs' := qCells { s with found := false } tb ch old a n) rfl).set (off := 9) (v := .bool false) (cs' := qCells (s1of s) tb false old a n) rfl)
  have H2 := Lib.hid (show SL W (qdiskS x (s1of s) :: cel rb #[.slice none 0 0, .int .i64 0, .int .i64 0] 53 :: F) w4 from qdisk_close (s := s1of s) (tb := tb) (ch := false) (old := old) (a := a) (n := n) rfl (lastQ_none old a n h2.s3.drop.s2.s1).b2)
  clear hw4 h2 H1 L K z HSN
  have HH := Lib.hid (s1_ok HH0.out)
  have HW := Lib.hid (show s.found = true → (s1of s).next < (s1of s).recs.length from HFD.out)
  have HDB := Lib.hid hdA
  clear HFD hdA
  by_cases h7 : op = 7
  · subst h7
    clear t3 t4 t3' t4'
    go_wp2_with fail
    refine (qseek_any A b c HDB.out HH.out H2.out).mono ?_
    rintro e w9 ⟨A9, c9, rfl, S9⟩
    have H9 := Lib.hid S9.s2
    clear S9 H2
    obtain ⟨L, K, z⟩ := H9.out.look
    go_wp2
    refine bodyPost_ret (by simp [results, Tryz.results16, go_sem, L]; rfl) rfl ?_
    rw [HDD.out]
    exact ⟨A9, c9, rfl, H9.out.set3.drop⟩
  have t7 : (op == 7) = false := by rw [beq_eq_false_iff_ne]; exact h7
  by_cases h19 : op = 19
  · subst h19
    clear t3 t4 t3' t4'
    obtain ⟨tb2, old2, a2, n2, S5⟩ := qdisk_open H2.out
    have H5 := Lib.hid S5
    obtain ⟨L, K, z⟩ := S5.look
    clear S5 H2
    go_wp2_with fail
    refine name_world (P := fun W => Calls _ _ _ W _) ?_; intro wd hwd
    have H6 := Lib.hid (SL.cast hwd (((H5.out.set (off := 4) (v := .int .i64 0) (cs' := qCells { s1of s with cyl := 0 } tb2 _ old2 a2 n2) rfl).set (off := 5) (v := .int .i64 0) (cs' := qCells { s1of s with cyl := 0, head := 0 } tb2 _ old2 a2 n2) rfl).set (off := 6) (v := .int .i64 0) (cs' := qCells { s1of s with cyl := 0, head := 0, next := 0 } tb2 _ old2 a2 n2) rfl))
    clear hwd H5 L K z
    refine (good_any _ _ _ _).mono ?_
    rintro e w9 ⟨rfl, b9⟩
    have H9 := Lib.hid ((H6.out.grow b9).s3)
    clear b9 H6
    (obtain ⟨L, K, z⟩ := H9.out.look; go_wp2; refine bodyPost_ret (v := .agg #[.slice none 0 0, .int .i64 12, .int .i64 0]) (by simp [results, Tryz.results16, go_sem, L]) rfl ?_)
    rw [HDD.out]
    exact RetQ.of (st := 12) (sn := 0) (qdisk_close (s := { s1of s with cyl := 0, head := 0, next := 0 }) rfl H9.out.set3.drop)
  have t19 : (op == 19) = false := by rw [beq_eq_false_iff_ne]; exact h19
  by_cases h49 : op = 49
  · subst h49
    clear t3 t4 t3' t4'
    go_wp2_with fail
    refine (qid_any A b c false 0 rfl HDB.out HH.out H2.out).mono ?_
    rintro e w9 ⟨A9, c9, rfl, S9⟩
    have H9 := Lib.hid S9.s2
    clear S9 H2
    obtain ⟨L, K, z⟩ := H9.out.look
    go_wp2
    refine bodyPost_ret (by simp [results, Tryz.results16, go_sem, L]; rfl) rfl ?_
    rw [HDD.out]
    exact ⟨A9, c9, rfl, H9.out.set3.drop⟩
  have t49 : (op == 49) = false := by rw [beq_eq_false_iff_ne]; exact h49
  by_cases h113 : op = 113
  · subst h113
    clear t3 t4 t3' t4'
    go_wp2_with fail
    refine (qid_any A b c true 255 rfl HDB.out HH.out H2.out).mono ?_
    rintro e w9 ⟨A9, c9, rfl, S9⟩
    have H9 := Lib.hid S9.s2
    clear S9 H2
    obtain ⟨L, K, z⟩ := H9.out.look
    go_wp2
    refine bodyPost_ret (by simp [results, Tryz.results16, go_sem, L]; rfl) rfl ?_
    rw [HDD.out]
    exact ⟨A9, c9, rfl, H9.out.set3.drop⟩
  have t113 : (op == 113) = false := by rw [beq_eq_false_iff_ne]; exact h113
  by_cases h41 : op = 41
  · subst h41
    clear t3 t4 t3' t4'
    go_wp2_with fail
    refine (qkey_any A b c false HDB.out HH.out H2.out).mono ?_
    rintro e w9 ⟨A9, c9, rfl, S9⟩
    have H9 := Lib.hid S9.s2
    clear S9 H2
    obtain ⟨L, K, z⟩ := H9.out.look
    go_wp2
    refine bodyPost_ret (by simp [results, Tryz.results16, go_sem, L]; rfl) rfl ?_
    rw [HDD.out]
    exact ⟨A9, c9, rfl, H9.out.set3.drop⟩
  have t41 : (op == 41) = false := by rw [beq_eq_false_iff_ne]; exact h41
  by_cases h105 : op = 105
  · subst h105
    clear t3 t4 t3' t4'
    go_wp2_with fail
    refine (qkey_any A b c true HDB.out HH.out H2.out).mono ?_
    rintro e w9 ⟨A9, c9, rfl, S9⟩
    have H9 := Lib.hid S9.s2
    clear S9 H2
    obtain ⟨L, K, z⟩ := H9.out.look
    go_wp2
    refine bodyPost_ret (by simp [results, Tryz.results16, go_sem, L]; rfl) rfl ?_
    rw [HDD.out]
    exact ⟨A9, c9, rfl, H9.out.set3.drop⟩
  have t105 : (op == 105) = false := by rw [beq_eq_false_iff_ne]; exact h105
  by_cases h18 : op = 18
  · subst h18
    clear t3 t4 t3' t4'
    go_wp2_with fail
    refine (qread18_any HH.out H2.out).mono ?_
    rintro e w9 ⟨A9, c9, rfl, S9⟩
    have H9 := Lib.hid S9.s2
    clear S9 H2
    obtain ⟨L, K, z⟩ := H9.out.look
    go_wp2
    refine bodyPost_ret (by simp [results, Tryz.results16, go_sem, L]; rfl) rfl ?_
    rw [HDD.out]
    exact ⟨A9, c9, rfl, H9.out.set3.drop⟩
  have t18 : (op == 18) = false := by rw [beq_eq_false_iff_ne]; exact h18
  by_cases h6 : op = 6
  · subst h6
    clear t3 t4 t3' t4'
    go_wp2_with fail
    refine (qread6_any HH.out H2.out).mono ?_
    rintro e w9 ⟨A9, c9, rfl, S9⟩
    have H9 := Lib.hid S9.s2
    clear S9 H2
    obtain ⟨L, K, z⟩ := H9.out.look
    go_wp2
    refine bodyPost_ret (by simp [results, Tryz.results16, go_sem, L]; rfl) rfl ?_
    rw [HDD.out]
    exact ⟨A9, c9, rfl, H9.out.set3.drop⟩
  have t6 : (op == 6) = false := by rw [beq_eq_false_iff_ne]; exact h6
  by_cases h14 : op = 14
  · subst h14
    clear t3 t4 t3' t4'
    go_wp2_with fail
    refine (qread14_any HH.out H2.out).mono ?_
    rintro e w9 ⟨A9, c9, rfl, S9⟩
    have H9 := Lib.hid S9.s2
    clear S9 H2
    obtain ⟨L, K, z⟩ := H9.out.look
    go_wp2
    refine bodyPost_ret (by simp [results, Tryz.results16, go_sem, L]; rfl) rfl ?_
    rw [HDD.out]
    exact ⟨A9, c9, rfl, H9.out.set3.drop⟩
  have t14 : (op == 14) = false := by rw [beq_eq_false_iff_ne]; exact h14
  by_cases h30 : op = 30
  · subst h30
    clear t3 t4 t3' t4'
    go_wp2_with fail
    refine (qread30_any HH.out H2.out).mono ?_
    rintro e w9 ⟨A9, c9, rfl, S9⟩
    have H9 := Lib.hid S9.s2
    clear S9 H2
    obtain ⟨L, K, z⟩ := H9.out.look
    go_wp2
    refine bodyPost_ret (by simp [results, Tryz.results16, go_sem, L]; rfl) rfl ?_
    rw [HDD.out]
    exact ⟨A9, c9, rfl, H9.out.set3.drop⟩
  have t30 : (op == 30) = false := by rw [beq_eq_false_iff_ne]; exact h30
  by_cases h222 : op = 222
  · subst h222
    clear t3 t4 t3' t4'
    go_wp2_with fail
    refine (qreadTrack_any HH.out H2.out).mono ?_
    rintro e w9 ⟨A9, c9, rfl, S9⟩
    have H9 := Lib.hid S9.s2
    clear S9 H2
    obtain ⟨L, K, z⟩ := H9.out.look
    go_wp2
    refine bodyPost_ret (by simp [results, Tryz.results16, go_sem, L]; rfl) rfl ?_
    rw [HDD.out]
    exact ⟨A9, c9, rfl, H9.out.set3.drop⟩
  have t222 : (op == 222) = false := by rw [beq_eq_false_iff_ne]; exact h222
  by_cases h5 : op = 5
  · subst h5
    clear t3 t4 t3' t4'
    cases hfd : s.found with
    | false =>
      have HR := Lib.hid (show dkDo s 5 b = dkCheck (s1of s) 128 by rw [HDD.out, hfd]; rfl)
      clear hfd
      obtain ⟨tb2, old2, a2, n2, S5⟩ := qdisk_open H2.out
      have H5 := Lib.hid S5
      clear S5 H2
      go_wp2_with fail
      refine (fail_any 128 H5.out).mono ?_
      rintro e w9 ⟨rfl, S9⟩
      have H9 := Lib.hid S9.s3
      clear S9 H5
      (obtain ⟨L, K, z⟩ := H9.out.look; go_wp2; refine bodyPost_ret (v := .agg #[.slice none 0 0, .int .i64 14, .int .i64 128]) (by simp [results, Tryz.results16, go_sem, L]) rfl ?_)
      rw [HR.out]
      exact RetQ.of (st := 14) (sn := 128) (qdisk_close (s := { s1of s with sense := 128 }) rfl H9.out.set3.drop)
    | true =>
      have hlt := HW.out hfd
      have hy : (s1of s).recs[(s1of s).next]? = some (s1of s).recs[(s1of s).next] := List.getElem?_eq_getElem hlt
      generalize (s1of s).recs[(s1of s).next] = y at hy
      have hcon := qrewrite_data A b c y hy HDB.out HH.out H2.out
      have HR := Lib.hid (show dkDo s 5 b = _ from (by rw [HDD.out, hfd]; show dkWriteData (s1of s) true b = _; unfold dkWriteData; rw [if_neg (by simp), hy] : dkDo s 5 b = dkRewrite (s1of s) ⟨y.r, y.key, padL b y.data.length, false⟩))
      have HCON := Lib.hid hcon
      clear hfd hlt hy hcon
      go_wp2_with fail
      refine HCON.out.mono ?_
      rintro e w9 ⟨A9, c9, rfl, S9⟩
      have H9 := Lib.hid S9.s2
      clear S9 H2 HCON
      obtain ⟨L, K, z⟩ := H9.out.look
      go_wp2
      refine bodyPost_ret (by simp [results, Tryz.results16, go_sem, L]; rfl) rfl ?_
      rw [HR.out]
      exact ⟨A9, c9, rfl, H9.out.set3.drop⟩
  have t5 : (op == 5) = false := by rw [beq_eq_false_iff_ne]; exact h5
  by_cases h13 : op = 13
  · subst h13
    clear t3 t4 t3' t4'
    cases hfd : s.found with
    | false =>
      have HR := Lib.hid (show dkDo s 13 b = dkCheck (s1of s) 128 by rw [HDD.out, hfd]; rfl)
      clear hfd
      obtain ⟨tb2, old2, a2, n2, S5⟩ := qdisk_open H2.out
      have H5 := Lib.hid S5
      clear S5 H2
      go_wp2_with fail
      refine (fail_any 128 H5.out).mono ?_
      rintro e w9 ⟨rfl, S9⟩
      have H9 := Lib.hid S9.s3
      clear S9 H5
      (obtain ⟨L, K, z⟩ := H9.out.look; go_wp2; refine bodyPost_ret (v := .agg #[.slice none 0 0, .int .i64 14, .int .i64 128]) (by simp [results, Tryz.results16, go_sem, L]) rfl ?_)
      rw [HR.out]
      exact RetQ.of (st := 14) (sn := 128) (qdisk_close (s := { s1of s with sense := 128 }) rfl H9.out.set3.drop)
    | true =>
      have hlt := HW.out hfd
      have hy : (s1of s).recs[(s1of s).next]? = some (s1of s).recs[(s1of s).next] := List.getElem?_eq_getElem hlt
      generalize (s1of s).recs[(s1of s).next] = y at hy
      have hcon := qrewrite_key A b c y hy HDB.out HH.out H2.out
      have HR := Lib.hid (show dkDo s 13 b = _ from (by rw [HDD.out, hfd]; show dkWriteKey (s1of s) true b = _; unfold dkWriteKey; rw [if_neg (by simp), hy] : dkDo s 13 b = dkRewrite (s1of s) ⟨y.r, (padL b (y.key.length + y.data.length)).take y.key.length, (padL b (y.key.length + y.data.length)).drop y.key.length, false⟩))
      have HCON := Lib.hid hcon
      clear hfd hlt hy hcon
      go_wp2_with fail
      refine HCON.out.mono ?_
      rintro e w9 ⟨A9, c9, rfl, S9⟩
      have H9 := Lib.hid S9.s2
      clear S9 H2 HCON
      obtain ⟨L, K, z⟩ := H9.out.look
      go_wp2
      refine bodyPost_ret (by simp [results, Tryz.results16, go_sem, L]; rfl) rfl ?_
      rw [HR.out]
      exact ⟨A9, c9, rfl, H9.out.set3.drop⟩
  have t13 : (op == 13) = false := by rw [beq_eq_false_iff_ne]; exact h13
  by_cases h29 : op = 29
  · subst h29
    clear t3 t4 t3' t4'
    go_wp2_with fail
    refine (qformat_any A b c HDB.out HH.out H2.out).mono ?_
    rintro e w9 ⟨A9, c9, rfl, S9⟩
    have H9 := Lib.hid S9.s2
    clear S9 H2
    obtain ⟨L, K, z⟩ := H9.out.look
    go_wp2
    refine bodyPost_ret (by simp [results, Tryz.results16, go_sem, L]; rfl) rfl ?_
    rw [HDD.out]
    exact ⟨A9, c9, rfl, H9.out.set3.drop⟩
  have t29 : (op == 29) = false := by rw [beq_eq_false_iff_ne]; exact h29
  by_cases h17 : op = 17
  · subst h17
    clear t3 t4 t3' t4'
    go_wp2_with fail
    refine (qchange_any (.slice none 0 0) [] 0 HH.out (trackQ_nil H2.out).s1).mono ?_
    rintro e w5 ⟨rfl, S5⟩
    obtain ⟨tb2, old2, a2, n2, S6⟩ := qdisk_open S5
    have H6 := Lib.hid S6
    obtain ⟨L, K, z⟩ := S6.look
    clear S5 S6 H2
    go_wp2_with fail
    refine name_world (P := fun W => Calls _ _ _ W _) ?_; intro wd hwd
    have H7 := Lib.hid (SL.cast hwd (H6.out.set (off := 6) (v := .int .i64 0) (cs' := qCells { dkChange (s1of s) [] 0 with next := 0 } tb2 _ old2 a2 n2) rfl))
    clear hwd H6 L K z
    refine (good_any _ _ _ _).mono ?_
    rintro e w9 ⟨rfl, b9⟩
    have H9 := Lib.hid ((H7.out.grow b9).s3)
    clear b9 H7
    (obtain ⟨L, K, z⟩ := H9.out.look; go_wp2; refine bodyPost_ret (v := .agg #[.slice none 0 0, .int .i64 12, .int .i64 0]) (by simp [results, Tryz.results16, go_sem, L]) rfl ?_)
    rw [HDD.out]
    exact RetQ.of (st := 12) (sn := 0) (qdisk_close (s := { dkChange (s1of s) [] 0 with next := 0 }) rfl H9.out.set3.drop)
  have t17 : (op == 17) = false := by rw [beq_eq_false_iff_ne]; exact h17
  have HR := Lib.hid (show dkDo s op b = dkCheck (s1of s) 128 by
    rw [HDD.out]; unfold dkCmd
    rw [if_neg h7, if_neg h19, if_neg h17, if_neg h49, if_neg h113, if_neg h41, if_neg h105, if_neg h18, if_neg h6, if_neg h14, if_neg h30, if_neg h222, if_neg h5, if_neg h13, if_neg h29])
  clear h3 h4 h7 h19 h17 h49 h113 h41 h105 h18 h6 h14 h30 h222 h5 h13 h29
  obtain ⟨tb2, old2, a2, n2, S5⟩ := qdisk_open H2.out
  have H5 := Lib.hid S5
  clear S5 H2
  go_wp2_with fail
  refine (fail_any 128 H5.out).mono ?_
  rintro e w9 ⟨rfl, S9⟩
  have H9 := Lib.hid S9.s3
  clear S9 H5
  (obtain ⟨L, K, z⟩ := H9.out.look; go_wp2; refine bodyPost_ret (v := .agg #[.slice none 0 0, .int .i64 14, .int .i64 128]) (by simp [results, Tryz.results16, go_sem, L]) rfl ?_)
  rw [HR.out]
  exact RetQ.of (st := 14) (sn := 128) (qdisk_close (s := { s1of s with sense := 128 }) rfl H9.out.set3.drop)
end
end Go.Proofs.YtmkndbledppniaaGreat
