/- The disk's Do. -/
import Derived.Test.YtfhpaehfihnjaaaGreatDForm
import Derived.Test.YtfhpaehfihnjaaaGreatDWr
namespace Go.Proofs.YtfhpaehfihnjaaaGreat.D
open Go.RowKit
abbrev s1of (s : DK) : DK := { s with last := none, found := false }
theorem s1_ok {s : DK} (h : s.ok) : (s1of s).ok := { h with fd := fun e => (by cases e), la := fun _ _ _ e => (by cases e) }
section
variable {W w : World} {F : List SA} {x : Nat} {s : DK}
set_option maxRecDepth 100000 in
set_option maxHeartbeats 64000000 in
theorem do_any (op : Int) (A : Option Addr) (b : List UInt8) (c : Nat) (hd : CardB W F A b c) (h : s.ok) (S : SL W (diskS x s :: F) w) :
    Calls Tryz.prog 213 #[.pointer (some ⟨x, 0, none⟩), .int .i64 op, .slice A b.length c] w (RetM W F x (dkDo s op b)) := by
  obtain ⟨was, S0⟩ := disk_open S
  obtain ⟨tb, lp, S1⟩ := diskW_open S0
  have HS := Lib.hid S1
  have HD := Lib.hid hd
  have HH0 := Lib.hid h
  have HNT := Lib.hid (show 0 < s.tracks.length by have := h.here_lt; omega)
  have HFD := Lib.hid h.fd
  have HSN := Lib.hid h.sn
  clear S S0 S1 hd h
  (go_enter Tryz.func213, Tryz.ntmps213; go_upto_region 1 with fail; refine name_world (P := Code.wp _ _ _ _) ?_; intro wA hwA; have H1 := Lib.hid (SL.cast hwA (HS.out.allocC #[.slice none 0 0, .int .i64 0, .int .i64 0] 55)); clear hwA HS; generalize w.heap.size = rb at *)
  have hdA : CardB W (cel rb #[.slice none 0 0, .int .i64 0, .int .i64 0] 55 :: F) A b c := fun w S => HD.out w S.drop
  go_wp2_with fail
  refine (ready_any HNT.out H1.out.s1).mono ?_
  rintro e w2 ⟨rfl, rfl⟩
  obtain ⟨L, K, z⟩ := H1.out.s1.look
  go_upto_region 4 with fail
  refine name_world (P := Code.wp _ _ _ _) ?_
  intro w3 hw3
  -- disk, reply, tracks, last
  have h3 := SL.cast hw3 (H1.out.s1.set (off := 10) (v := .pointer none) (cs' := dkCells { s with last := none } tb none was) rfl)
  have H3 := Lib.hid (show SL W (diskW x { s with last := none } was :: cel rb #[.slice none 0 0, .int .i64 0, .int .i64 0] 55 :: F) w3 from diskW_close (last_null h3.s3.drop).s2.b3.b2)
  clear hw3 h3 H1 L K z
  by_cases h3 : op = 3
  · subst h3
    have HR := Lib.hid (show dkDo s 3 b = dkDone { s with last := none } [] from rfl)
    go_wp2_with fail
    refine (done_any _ _ _ _).mono ?_
    rintro e w9 ⟨rfl, b9⟩
    have H9 := Lib.hid (H3.out.s1.grow b9)
    clear b9 H3
    (obtain ⟨L, K, z⟩ := H9.out.look; go_wp2; refine bodyPost_ret (v := .agg #[.slice none 0 0, .int .i64 12, .int .i64 0]) (by simp [results, Tryz.results213, go_sem, L]) rfl ?_)
    rw [HR.out]
    exact RetM.of H9.out.set3.drop
  by_cases h4 : op = 4
  · subst h4
    have HR := Lib.hid (show dkDo s 4 b = dkDone { s with last := none } [UInt8.ofNat s.sense] from rfl)
    obtain ⟨tb2, lp2, S5⟩ := diskW_open H3.out
    have H5 := Lib.hid S5
    obtain ⟨L, K, z⟩ := H5.out.look
    have L9 : w3.cell? ⟨x, 9, none⟩ = some (.int .i64 (s.sense : Int)) := L 9
    have hsn := HSN.out
    clear S5 L
    go_wp2_with fail
    refine name_world (P := fun W => Calls _ _ _ W _) ?_; intro wd hwd
    have hc8 : ((UInt8.ofNat s.sense).toNat : Int) = (s.sense : Int) := by rw [UInt8.toNat_ofNat']; omega
    have h6 := SL.cast hwd (H3.out.lit #[.int .u8 (s.sense : Int)] 5 1 1 rfl (by decide))
    have H6 := Lib.hid (show SL W (rowS 5 1 (.slice (some ⟨w3.heap.size, 0, none⟩) 1 1) 1 (Lib.byteCells [UInt8.ofNat s.sense]) :: diskW x { s with last := none } was :: cel rb #[.slice none 0 0, .int .i64 0, .int .i64 0] 55 :: F) wd by rw [show Lib.byteCells [UInt8.ofNat s.sense] = [.int .u8 (s.sense : Int)] by simp only [Lib.byteCells, List.map_cons, List.map_nil, hc8]]; exact h6)
    clear hwd h6 H3 H5 K z L9 hc8 hsn
    refine (done_any _ _ _ _).mono ?_
    rintro e w9 ⟨rfl, b9⟩
    have H9 := Lib.hid ((H6.out.grow b9).s2)
    clear b9 H6
    (obtain ⟨L, K, z⟩ := H9.out.look; go_wp2; refine bodyPost_ret (v := .agg #[.slice (some ⟨w3.heap.size, 0, none⟩) 1 1, .int .i64 12, .int .i64 0]) (by simp [results, Tryz.results213, go_sem, L]) rfl ?_)
    rw [HR.out]
    exact ⟨_, 1, rfl, (disk_close H9.out.set3.drop.s1).s1⟩
  have HDD := Lib.hid (show dkDo s op b = dkCmd (s1of s) s.found op b by unfold dkDo; rw [if_neg h3, if_neg h4])
  have t3 : (op == 3) = false := by rw [beq_eq_false_iff_ne]; exact h3
  have t4 : (op == 4) = false := by rw [beq_eq_false_iff_ne]; exact h4
  obtain ⟨tb2, lp2, S5⟩ := diskW_open H3.out
  have H5 := Lib.hid S5
  obtain ⟨L, K, z⟩ := H5.out.look
  have L7 : w3.cell? ⟨x, 7, none⟩ = some (.bool s.found) := L 7
  have L8 : w3.cell? ⟨x, 8, none⟩ = some (.bool was) := L 8
  clear S5 L
  go_upto_region 10 with fail
  refine name_world (P := Code.wp _ _ _ _) ?_
  intro w4 hw4
  have H6 := Lib.hid (diskW_close (s := s1of s) (was := s.found) (SL.cast hw4 ((H5.out.set (off := 8) (v := .bool s.found) (cs' := dkCells { s with last := none } tb2 lp2 s.found) rfl).set (off := 7) (v := .bool false) (cs' := dkCells (s1of s) tb2 lp2 s.found) rfl)))
  clear hw4 H5 H3 K z L7 L8
  have HH := Lib.hid (s1_ok HH0.out)
  have HW := Lib.hid (show s.found = true → (s1of s).next < (s1of s).recs.length from HFD.out)
  clear HFD HSN HNT
  go_wp2_with fail
  refine (commands_any x H6.out).mono ?_
  rintro e w5 ⟨mb, rfl, S7⟩
  have hz : ∀ w : World, (zeroValue 198).run Tryz.prog w = .ok .nilFunc w := fun w => by kernel_rfl
  have hlk := run_look (P := Tryz.prog) (T := 256) Tryz.underlying256 Tryz.underlying3 hz S7 op
  have H7 := Lib.hid S7.drop
  clear S7 H6 hz
  by_cases h7 : op = 7
  · subst h7
    have hl2 : lk (cmdL x) 7 = some (.func (.func 220) #[.pointer (some ⟨x, 0, none⟩)] #[]) := by rfl
    rw [hl2] at hlk
    simp only [Option.getD_some, Option.isSome_some] at hlk
    clear hl2
    go_wp2_with fail
    refine (seek_any A b c hdA HH.out H7.out).mono ?_
    rintro e w9 ⟨A9, c9, rfl, S9⟩
    have H9 := Lib.hid S9.s2
    clear S9 hlk
    obtain ⟨L, K, z⟩ := H9.out.look
    go_wp2
    refine bodyPost_ret (by simp [results, Tryz.results213, go_sem, L]; rfl) rfl ?_
    rw [HDD.out]
    exact ⟨A9, c9, rfl, H9.out.set3.drop⟩
  by_cases h19 : op = 19
  · subst h19
    have hl2 : lk (cmdL x) 19 = some (.func (.func 221) #[.pointer (some ⟨x, 0, none⟩)] #[]) := by rfl
    rw [hl2] at hlk
    simp only [Option.getD_some, Option.isSome_some] at hlk
    clear hl2
    go_wp2_with fail
    refine (recal_any A b.length c H7.out).mono ?_
    rintro e w9 ⟨A9, c9, rfl, S9⟩
    have H9 := Lib.hid S9.s2
    clear S9 hlk
    obtain ⟨L, K, z⟩ := H9.out.look
    go_wp2
    refine bodyPost_ret (by simp [results, Tryz.results213, go_sem, L]; rfl) rfl ?_
    rw [HDD.out]
    exact ⟨A9, c9, rfl, H9.out.set3.drop⟩
  by_cases h17 : op = 17
  · subst h17
    have hl2 : lk (cmdL x) 17 = some (.func (.func 222) #[.pointer (some ⟨x, 0, none⟩)] #[]) := by rfl
    rw [hl2] at hlk
    simp only [Option.getD_some, Option.isSome_some] at hlk
    clear hl2
    go_wp2_with fail
    refine (erase_any A b.length c HH.out rfl H7.out).mono ?_
    rintro e w9 ⟨A9, c9, rfl, S9⟩
    have H9 := Lib.hid S9.s2
    clear S9 hlk
    obtain ⟨L, K, z⟩ := H9.out.look
    go_wp2
    refine bodyPost_ret (by simp [results, Tryz.results213, go_sem, L]; rfl) rfl ?_
    rw [HDD.out]
    exact ⟨A9, c9, rfl, H9.out.set3.drop⟩
  by_cases h49 : op = 49
  · subst h49
    have hl2 : lk (cmdL x) 49 = some (.func (.func 223) #[.pointer (some ⟨x, 0, none⟩)] #[]) := by rfl
    rw [hl2] at hlk
    simp only [Option.getD_some, Option.isSome_some] at hlk
    clear hl2
    go_wp2_with fail
    refine (searchID_any A b c hdA HH.out H7.out).mono ?_
    rintro e w9 ⟨A9, c9, rfl, S9⟩
    have H9 := Lib.hid S9.s2
    clear S9 hlk
    obtain ⟨L, K, z⟩ := H9.out.look
    go_wp2
    refine bodyPost_ret (by simp [results, Tryz.results213, go_sem, L]; rfl) rfl ?_
    rw [HDD.out]
    exact ⟨A9, c9, rfl, H9.out.set3.drop⟩
  by_cases h113 : op = 113
  · subst h113
    have hl2 : lk (cmdL x) 113 = some (.func (.func 224) #[.pointer (some ⟨x, 0, none⟩)] #[]) := by rfl
    rw [hl2] at hlk
    simp only [Option.getD_some, Option.isSome_some] at hlk
    clear hl2
    go_wp2_with fail
    refine (searchIDHigh_any A b c hdA HH.out H7.out).mono ?_
    rintro e w9 ⟨A9, c9, rfl, S9⟩
    have H9 := Lib.hid S9.s2
    clear S9 hlk
    obtain ⟨L, K, z⟩ := H9.out.look
    go_wp2
    refine bodyPost_ret (by simp [results, Tryz.results213, go_sem, L]; rfl) rfl ?_
    rw [HDD.out]
    exact ⟨A9, c9, rfl, H9.out.set3.drop⟩
  by_cases h41 : op = 41
  · subst h41
    have hl2 : lk (cmdL x) 41 = some (.func (.func 225) #[.pointer (some ⟨x, 0, none⟩)] #[]) := by rfl
    rw [hl2] at hlk
    simp only [Option.getD_some, Option.isSome_some] at hlk
    clear hl2
    go_wp2_with fail
    refine (searchKey_any A b c hdA HH.out H7.out).mono ?_
    rintro e w9 ⟨A9, c9, rfl, S9⟩
    have H9 := Lib.hid S9.s2
    clear S9 hlk
    obtain ⟨L, K, z⟩ := H9.out.look
    go_wp2
    refine bodyPost_ret (by simp [results, Tryz.results213, go_sem, L]; rfl) rfl ?_
    rw [HDD.out]
    exact ⟨A9, c9, rfl, H9.out.set3.drop⟩
  by_cases h105 : op = 105
  · subst h105
    have hl2 : lk (cmdL x) 105 = some (.func (.func 226) #[.pointer (some ⟨x, 0, none⟩)] #[]) := by rfl
    rw [hl2] at hlk
    simp only [Option.getD_some, Option.isSome_some] at hlk
    clear hl2
    go_wp2_with fail
    refine (searchKeyHigh_any A b c hdA HH.out H7.out).mono ?_
    rintro e w9 ⟨A9, c9, rfl, S9⟩
    have H9 := Lib.hid S9.s2
    clear S9 hlk
    obtain ⟨L, K, z⟩ := H9.out.look
    go_wp2
    refine bodyPost_ret (by simp [results, Tryz.results213, go_sem, L]; rfl) rfl ?_
    rw [HDD.out]
    exact ⟨A9, c9, rfl, H9.out.set3.drop⟩
  by_cases h18 : op = 18
  · subst h18
    have hl2 : lk (cmdL x) 18 = some (.func (.func 227) #[.pointer (some ⟨x, 0, none⟩)] #[]) := by rfl
    rw [hl2] at hlk
    simp only [Option.getD_some, Option.isSome_some] at hlk
    clear hl2
    go_wp2_with fail
    refine (readCount_any A b.length c HH.out H7.out).mono ?_
    rintro e w9 ⟨A9, c9, rfl, S9⟩
    have H9 := Lib.hid S9.s2
    clear S9 hlk
    obtain ⟨L, K, z⟩ := H9.out.look
    go_wp2
    refine bodyPost_ret (by simp [results, Tryz.results213, go_sem, L]; rfl) rfl ?_
    rw [HDD.out]
    exact ⟨A9, c9, rfl, H9.out.set3.drop⟩
  by_cases h6 : op = 6
  · subst h6
    have hl2 : lk (cmdL x) 6 = some (.func (.func 228) #[.pointer (some ⟨x, 0, none⟩)] #[]) := by rfl
    rw [hl2] at hlk
    simp only [Option.getD_some, Option.isSome_some] at hlk
    clear hl2
    go_wp2_with fail
    refine (readData_any A b.length c HH.out H7.out).mono ?_
    rintro e w9 ⟨A9, c9, rfl, S9⟩
    have H9 := Lib.hid S9.s2
    clear S9 hlk
    obtain ⟨L, K, z⟩ := H9.out.look
    go_wp2
    refine bodyPost_ret (by simp [results, Tryz.results213, go_sem, L]; rfl) rfl ?_
    rw [HDD.out]
    exact ⟨A9, c9, rfl, H9.out.set3.drop⟩
  by_cases h14 : op = 14
  · subst h14
    have hl2 : lk (cmdL x) 14 = some (.func (.func 229) #[.pointer (some ⟨x, 0, none⟩)] #[]) := by rfl
    rw [hl2] at hlk
    simp only [Option.getD_some, Option.isSome_some] at hlk
    clear hl2
    go_wp2_with fail
    refine (readKeyData_any A b.length c HH.out H7.out).mono ?_
    rintro e w9 ⟨A9, c9, rfl, S9⟩
    have H9 := Lib.hid S9.s2
    clear S9 hlk
    obtain ⟨L, K, z⟩ := H9.out.look
    go_wp2
    refine bodyPost_ret (by simp [results, Tryz.results213, go_sem, L]; rfl) rfl ?_
    rw [HDD.out]
    exact ⟨A9, c9, rfl, H9.out.set3.drop⟩
  by_cases h30 : op = 30
  · subst h30
    have hl2 : lk (cmdL x) 30 = some (.func (.func 230) #[.pointer (some ⟨x, 0, none⟩)] #[]) := by rfl
    rw [hl2] at hlk
    simp only [Option.getD_some, Option.isSome_some] at hlk
    clear hl2
    go_wp2_with fail
    refine (readRecord_any A b.length c HH.out H7.out).mono ?_
    rintro e w9 ⟨A9, c9, rfl, S9⟩
    have H9 := Lib.hid S9.s2
    clear S9 hlk
    obtain ⟨L, K, z⟩ := H9.out.look
    go_wp2
    refine bodyPost_ret (by simp [results, Tryz.results213, go_sem, L]; rfl) rfl ?_
    rw [HDD.out]
    exact ⟨A9, c9, rfl, H9.out.set3.drop⟩
  by_cases h222 : op = 222
  · subst h222
    have hl2 : lk (cmdL x) 222 = some (.func (.func 231) #[.pointer (some ⟨x, 0, none⟩)] #[]) := by rfl
    rw [hl2] at hlk
    simp only [Option.getD_some, Option.isSome_some] at hlk
    clear hl2
    go_wp2_with fail
    refine (readTrack_any A b.length c HH.out H7.out).mono ?_
    rintro e w9 ⟨A9, c9, rfl, S9⟩
    have H9 := Lib.hid S9.s2
    clear S9 hlk
    obtain ⟨L, K, z⟩ := H9.out.look
    go_wp2
    refine bodyPost_ret (by simp [results, Tryz.results213, go_sem, L]; rfl) rfl ?_
    rw [HDD.out]
    exact ⟨A9, c9, rfl, H9.out.set3.drop⟩
  by_cases h5 : op = 5
  · subst h5
    have hl2 : lk (cmdL x) 5 = some (.func (.func 232) #[.pointer (some ⟨x, 0, none⟩)] #[]) := by rfl
    rw [hl2] at hlk
    simp only [Option.getD_some, Option.isSome_some] at hlk
    clear hl2
    go_wp2_with fail
    refine (writeData_any A b c hdA HH.out rfl HW.out H7.out).mono ?_
    rintro e w9 ⟨A9, c9, rfl, S9⟩
    have H9 := Lib.hid S9.s2
    clear S9 hlk
    obtain ⟨L, K, z⟩ := H9.out.look
    go_wp2
    refine bodyPost_ret (by simp [results, Tryz.results213, go_sem, L]; rfl) rfl ?_
    rw [HDD.out]
    exact ⟨A9, c9, rfl, H9.out.set3.drop⟩
  by_cases h13 : op = 13
  · subst h13
    have hl2 : lk (cmdL x) 13 = some (.func (.func 233) #[.pointer (some ⟨x, 0, none⟩)] #[]) := by rfl
    rw [hl2] at hlk
    simp only [Option.getD_some, Option.isSome_some] at hlk
    clear hl2
    go_wp2_with fail
    refine (writeKeyData_any A b c hdA HH.out rfl HW.out H7.out).mono ?_
    rintro e w9 ⟨A9, c9, rfl, S9⟩
    have H9 := Lib.hid S9.s2
    clear S9 hlk
    obtain ⟨L, K, z⟩ := H9.out.look
    go_wp2
    refine bodyPost_ret (by simp [results, Tryz.results213, go_sem, L]; rfl) rfl ?_
    rw [HDD.out]
    exact ⟨A9, c9, rfl, H9.out.set3.drop⟩
  by_cases h29 : op = 29
  · subst h29
    have hl2 : lk (cmdL x) 29 = some (.func (.func 234) #[.pointer (some ⟨x, 0, none⟩)] #[]) := by rfl
    rw [hl2] at hlk
    simp only [Option.getD_some, Option.isSome_some] at hlk
    clear hl2
    go_wp2_with fail
    refine (format_any A b c hdA HH.out rfl H7.out).mono ?_
    rintro e w9 ⟨A9, c9, rfl, S9⟩
    have H9 := Lib.hid S9.s2
    clear S9 hlk
    obtain ⟨L, K, z⟩ := H9.out.look
    go_wp2
    refine bodyPost_ret (by simp [results, Tryz.results213, go_sem, L]; rfl) rfl ?_
    rw [HDD.out]
    exact ⟨A9, c9, rfl, H9.out.set3.drop⟩
  have hl2 : lk (cmdL x) op = none := by
    unfold lk
    rw [List.find?_eq_none.2 (by
      intro p hp
      simp only [cmdL, List.mem_cons, List.not_mem_nil, or_false] at hp
      rcases hp with rfl | rfl | rfl | rfl | rfl | rfl | rfl | rfl | rfl | rfl | rfl | rfl | rfl | rfl | rfl <;> simp only [beq_iff_eq] <;> omega)]
    rfl
  rw [hl2] at hlk
  simp only [Option.getD_none, Option.isSome_none] at hlk
  have HR := Lib.hid (show dkDo s op b = dkCheck (s1of s) 128 by
    rw [HDD.out]
    unfold dkCmd
    rw [if_neg h7, if_neg h19, if_neg h17, if_neg h49, if_neg h113, if_neg h41, if_neg h105, if_neg h18, if_neg h6, if_neg h14, if_neg h30, if_neg h222, if_neg h5, if_neg h13, if_neg h29])
  clear hl2
  go_wp2_with fail
  obtain ⟨tb3, lp3, S8⟩ := diskW_open H7.out
  refine (check_any 128 S8).mono ?_
  rintro e w9 ⟨rfl, S9⟩
  have H9 := Lib.hid (diskW_close (s := { s1of s with sense := 128 }) S9).s1
  clear S9 S8 hlk
  (obtain ⟨L, K, z⟩ := H9.out.look; go_wp2; refine bodyPost_ret (v := .agg #[.slice none 0 0, .int .i64 14, .int .i64 128]) (by simp [results, Tryz.results213, go_sem, L]) rfl ?_)
  rw [HR.out]
  exact RetM.of H9.out.set3.drop
end
end Go.Proofs.YtfhpaehfihnjaaaGreat.D
