/- SetU, SetQ. -/
import Derived.Test.YtfhpaehfihnjaaaGreatSetX
import Derived.Test.YtfhpaehfihnjaaaGreatTD
import Derived.Test.YtfhpaehfihnjaaaGreatDNu
import Derived.Stop.Asserts
import Derived.Test.YtfhpaehfihnjaaaGreatDev
set_option maxRecDepth 100000
namespace Go.Proofs.YtfhpaehfihnjaaaGreat
open Go.RowKit
section
variable {W w : World} {F : List SA} {b db : Nat} {u : UN}
theorem ta1 (a : Option Addr) (w : World) : (Instr.typeAssert (.iface 86 (.pointer a)) 75 164 true).run Tryz.prog w = .ok (.tuple #[.nilIface, .bool false]) w := run_typeAssert_lacksB Tryz.underlying164 (by kernel_rfl) (by kernel_rfl) _ _ w
theorem ta2 (a : Option Addr) (w : World) : (Instr.typeAssert (.iface 88 (.pointer a)) 75 164 true).run Tryz.prog w = .ok (.tuple #[.nilIface, .bool false]) w := run_typeAssert_lacksB Tryz.underlying164 (by kernel_rfl) (by kernel_rfl) _ _ w
theorem ta3 (a : Option Addr) (w : World) : (Instr.typeAssert (.iface 90 (.pointer a)) 75 164 true).run Tryz.prog w = .ok (.tuple #[.nilIface, .bool false]) w := run_typeAssert_lacksB Tryz.underlying164 (by kernel_rfl) (by kernel_rfl) _ _ w
theorem ta4 (a : Option Addr) (w : World) : (Instr.typeAssert (.iface 60 (.pointer a)) 75 164 true).run Tryz.prog w = .ok (.tuple #[.iface 60 (.pointer a), .bool true]) w := by kernel_rfl
theorem ta5 (a : Option Addr) (w : World) : (Instr.typeAssert (.iface 92 (.pointer a)) 75 164 true).run Tryz.prog w = .ok (.tuple #[.iface 92 (.pointer a), .bool true]) w := by kernel_rfl
set_option maxHeartbeats 4000000 in
theorem undo_any (how : Int) {k : Nat} (hok : u.dev.ok k) (S : SL W (cel b (oneCells db u) 80 :: devS db u.dev :: F) w) : Calls Tryz.prog 55 #[ptrV b, .int .i64 how] w fun e w' => e = .returned (.tuple #[]) ∧ SL W (cel b (oneCells db (u.undo how)) 80 :: devS db (u.undo how).dev :: F) w' := by
  obtain ⟨L, K, z⟩ := S.look
  have L5 : w.cell? ⟨b, 5, none⟩ = some (devV db u.dev) := L 5
  have HS := Lib.hid S
  clear S L
  obtain ⟨cf, dev, af, ti, eq⟩ := u
  unfold ptrV
  cases dev with
  | reader se tk st cs =>
    unfold devV at L5
    simp only [devT] at L5
    have h1 := ta1
    go_enter Tryz.func55, Tryz.ntmps55
    go_wp2
    go_end0
    exact ⟨rfl, HS.out⟩
  | punch se cs =>
    unfold devV at L5
    simp only [devT] at L5
    have h1 := ta2
    go_enter Tryz.func55, Tryz.ntmps55
    go_wp2
    go_end0
    exact ⟨rfl, HS.out⟩
  | printer s =>
    unfold devV at L5
    simp only [devT] at L5
    have h1 := ta3
    go_enter Tryz.func55, Tryz.ntmps55
    go_wp2
    go_end0
    exact ⟨rfl, HS.out⟩
  | tape n s =>
    unfold devV at L5
    simp only [devT] at L5
    have h1 := ta4
    go_enter Tryz.func55, Tryz.ntmps55
    go_wp2_with fail
    refine (T.undo_any how HS.out.s1 hok.2.1).mono ?_
    rintro e w2 ⟨rfl, S2⟩
    have H2 := Lib.hid S2.s1
    clear S2
    go_wp2
    go_end0
    exact ⟨rfl, H2.out⟩
  | disk s =>
    unfold devV at L5
    simp only [devT] at L5
    have h1 := ta5
    go_enter Tryz.func55, Tryz.ntmps55
    go_wp2_with fail
    refine (D.undo_any how hok HS.out.s1).mono ?_
    rintro e w2 ⟨rfl, S2⟩
    have H2 := Lib.hid S2.s1
    clear S2
    go_wp2
    go_end0
    exact ⟨rfl, H2.out⟩
end
end Go.Proofs.YtfhpaehfihnjaaaGreat
namespace Go.Proofs.YtfhpaehfihnjaaaGreat
open Go.RowKit
theorem modify_eq {α : Type} {l : List α} {i : Nat} {a : α} (f : α → α) (h : l[i]? = some a) : l.modify i f = l.set i (f a) := by
  apply List.ext_getElem?
  intro j
  rw [List.getElem?_modify, List.getElem?_set]
  obtain ⟨hi, rfl⟩ := List.getElem?_eq_some_iff.1 h
  split
  · rename_i e; subst e; simp [hi]
  · simp
theorem map_step {α : Type} {f : α → α} {t : List α} {k : Nat} {x : α} (hx : t[k]? = some x) : ((t.take k).map f ++ t.drop k)[k]? = some x ∧ ((t.take k).map f ++ t.drop k).set k (f x) = (t.take (k + 1)).map f ++ t.drop (k + 1) := by
  obtain ⟨hk, rfl⟩ := List.getElem?_eq_some_iff.1 hx
  have hl : ((t.take k).map f).length = k := by simp; omega
  constructor
  · rw [List.getElem?_append_right (by omega), hl, List.getElem?_drop]; simp [hk]
  · rw [List.set_append_right _ _ (by omega), hl, Nat.sub_self, List.drop_eq_getElem_cons hk, List.set_cons_zero, List.take_succ_eq_append_getElem hk, List.map_append, List.append_assoc]
    rfl
section
variable {W w : World} {F : List SA} {x : Nat} {v : Value} {bs : List (Nat × Nat)} {s : ST}
set_option maxHeartbeats 4000000 in
theorem fail_any (addr after times : Int) (hz : s.us.length ≤ 16) (S : SL W (setO x v bs s :: F) w) : Calls Tryz.prog 45 #[.pointer (some ⟨x, 0, none⟩), .int .i64 addr, .int .i64 after, .int .i64 times] w fun e w' => e = .returned (.int .i64 (s.fail addr after times).2) ∧ SL W (setO x v bs (s.fail addr after times).1 :: F) w' := by
  have HF := Lib.hid (find_any addr hz S)
  have HS := Lib.hid S
  unfold ST.fail
  cases hf : s.find addr with
  | none =>
    rw [hf] at HF
    simp only [lastV] at HF
    clear S
    go_enter Tryz.func45, Tryz.ntmps45
    go_wp2_with fail
    refine HF.out.mono ?_
    rintro e w1 ⟨rfl, rfl⟩
    go_wp2
    go_ret
    exact ⟨rfl, HS.out⟩
  | some i =>
    obtain ⟨u, hu, _⟩ := find_get hf
    obtain ⟨hb, S1⟩ := set_open S
    obtain ⟨b, db, hp⟩ := bs_get hb hu
    rw [hf, lastV_some hp] at HF
    unfold ptrV at HF
    have H1 := Lib.hid (one_open hp hu S1.s2)
    obtain ⟨L, K, z⟩ := H1.out.look
    have L6 : w.cell? ⟨b, 6, none⟩ = some (.int .i64 u.after) := L 6
    have L7 : w.cell? ⟨b, 7, none⟩ = some (.int .i64 u.times) := L 7
    have HX := Lib.hid (And.intro hb (And.intro hp hu))
    clear S S1 L hp hu hf hb
    dsimp only
    by_cases h1 : after < 0
    · rw [if_pos (Or.inl h1)]
      go_enter Tryz.func45, Tryz.ntmps45
      go_wp2_with fail
      refine HF.out.mono ?_
      rintro e w1 ⟨rfl, rfl⟩
      go_wp2
      go_ret
      exact ⟨rfl, HS.out⟩
    · by_cases h2 : times < 0
      · rw [if_pos (Or.inr h2)]
        go_enter Tryz.func45, Tryz.ntmps45
        go_wp2_with fail
        refine HF.out.mono ?_
        rintro e w1 ⟨rfl, rfl⟩
        go_wp2
        go_ret
        exact ⟨rfl, HS.out⟩
      · rw [if_neg (by omega)]
        obtain ⟨na, rfl⟩ : ∃ n : Nat, after = n := ⟨after.toNat, by omega⟩
        obtain ⟨nt, rfl⟩ : ∃ n : Nat, times = n := ⟨times.toNat, by omega⟩
        go_enter Tryz.func45, Tryz.ntmps45
        go_wp2_with fail
        refine HF.out.mono ?_
        rintro e w1 ⟨rfl, rfl⟩
        go_wp2
        go_ret
        refine ⟨rfl, ?_⟩
        obtain ⟨hb, hp, hu⟩ := HX.out
        have S2 := (H1.out.set (off := 6) (v := .int .i64 (na : Int)) rfl).set (off := 7) (v := .int .i64 (nt : Int)) rfl
        have S3 := one_close (u := { u with after := na, times := nt }) hp (List.getElem?_eq_some_iff.1 hu).1 S2
        rw [modify_eq _ hu]
        exact set_close (s := { s with us := s.us.set i { u with after := na, times := nt } }) (by simpa using hb) (by simpa using S3.b2)
set_option maxHeartbeats 4000000 in
theorem cut_any (how : Int) {k : Nat} (ok : s.ok k) (S : SL W (setO x v bs s :: F) w) : Calls Tryz.prog 17 #[.pointer (some ⟨x, 0, none⟩), .int .i64 how] w fun e w' => e = .returned (.int .i64 (s.cut how).2) ∧ SL W (setO x v bs (s.cut how).1 :: F) w' := by
  have HS := Lib.hid S
  obtain ⟨hb, S1⟩ := set_open S
  obtain ⟨L, K, z⟩ := S1.look
  have L0 : w.cell? ⟨x, 0, none⟩ = some v := L 0
  have L2 : w.cell? ⟨x, 2, none⟩ = some (.bool s.off) := L 2
  obtain ⟨Av, cv, rfl, _, _⟩ := own_slice S1.s1.own
  have H1 := Lib.hid S1
  have HB := Lib.hid hb
  have HK := Lib.hid ok
  have hz := ok.len
  unfold ST.cut
  clear S S1 hb ok L
  by_cases h1 : how < 0 ∨ 2 < how
  · rw [if_pos h1]
    have t0 : (how != 0) = true := by simp; omega
    have t1 : (how != 1) = true := by simp; omega
    have t2 : (how != 2) = true := by simp; omega
    clear h1
    go_enter Tryz.func17, Tryz.ntmps17
    go_wp2
    go_ret
    exact ⟨rfl, HS.out⟩
  rw [if_neg h1]
  cases ho : s.off with
  | true =>
    rw [ho] at L2
    simp only [if_true]
    have hh : how = 0 ∨ how = 1 ∨ how = 2 := by omega
    clear h1
    rcases hh with rfl | rfl | rfl
    all_goals
      go_enter Tryz.func17, Tryz.ntmps17
      go_wp2
      go_ret
      exact ⟨rfl, HS.out⟩
  | false =>
    rw [ho] at L2
    simp only [Bool.false_eq_true, if_false]
    have hh : how = 0 ∨ how = 1 ∨ how = 2 := by omega
    obtain ⟨us, la, off⟩ := s
    obtain ⟨lv, hlv⟩ : ∃ lv, lv = lastV bs la := ⟨_, rfl⟩
    have HLV := Lib.hid hlv
    dsimp only at *
    subst ho
    rw [← hlv] at H1
    obtain ⟨f, hf⟩ : ∃ f : UN → UN, f = fun u => u.undo how := ⟨_, rfl⟩
    have HU := Lib.hid (fun (wx : World) (b db : Nat) (u : UN) (G : List SA) (h : u.dev.ok k) (S : SL W (cel b (oneCells db u) 80 :: devS db u.dev :: G) wx) => (by
      have e := undo_any how h S
      rw [show u.undo how = f u by rw [hf]] at e
      exact e : Calls Tryz.prog 55 #[ptrV b, .int .i64 how] wx fun e w' => e = .returned (.tuple #[]) ∧ SL W (cel b (oneCells db (f u)) 80 :: devS db (f u).dev :: G) w'))
    rw [← hf]
    unfold ptrV at HU
    clear h1 HS hlv hf
    rcases hh with rfl | rfl | rfl
    all_goals
      go_enter Tryz.func17, Tryz.ntmps17
      go_wp2_with fail
      go_loopw [31] (fun i wr => ∃ j : Nat, j ≤ us.length ∧ i = .int .i64 j ∧ SL W (cel x #[.slice Av us.length cv, lv, .bool false] 72 :: rowS 70 1 (.slice Av us.length cv) us.length (ptrs bs) :: star (List.zipWith oneS bs ((us.take j).map f ++ us.drop j)) :: F) wr) (fun i _ => us.length - (intOf i).toNat)
      case atStart => exact ⟨0, Nat.zero_le _, rfl, H1.out⟩
      case round =>
        obtain ⟨j, hj, rfl, S1⟩ := hrel
        have H2 := Lib.hid S1
        clear S1 L0 L2 K
        by_cases hlt : j < us.length
        · have hx : us[j]? = some us[j] := by simp [hlt]
          have hok := HK.out.us us[j] (List.getElem_mem hlt)
          generalize us[j] = u at hx hok
          obtain ⟨hx1, hx2⟩ := map_step (f := f) hx
          obtain ⟨b, db, hp⟩ := bs_get HB.out hx
          obtain ⟨g, rfl, _, ck⟩ := H2.out.s1.cellAt (j := j) (u := ptrV b) (by unfold ptrs; rw [List.getElem?_map, hp]; rfl)
          have H3 := Lib.hid (one_open hp hx1 H2.out.s2)
          have HC := Lib.hid (HU.out _ b db u _ hok.dev H3.out)
          have HX := Lib.hid (And.intro hx1 (And.intro hx2 hp))
          clear hx hx1 hx2 hp hok H2
          unfold ptrV at ck
          go_wp2_with fail
          refine HC.out.mono ?_
          rintro e w2 ⟨rfl, S2⟩
          have H4 := Lib.hid S2
          clear S2 ck
          go_wp2
          go_roundw
          case rel =>
            have S5 := one_close (u := f u) HX.out.2.2 (List.getElem?_eq_some_iff.1 HX.out.1).1 H4.out
            rw [HX.out.2.1] at S5
            exact ⟨j + 1, by omega, by go_num, S5.b2⟩
          case measure => simp [intOf]; omega
        · obtain rfl : j = us.length := by omega
          have H3 := H2
          rw [List.take_length, List.drop_length, List.append_nil] at H3
          obtain ⟨L, K, z⟩ := H3.out.look
          have L2 : wr.cell? ⟨x, 2, none⟩ = some (.bool false) := L 2
          have hb := HB.out
          clear H2 L
          go_wp2
          go_ret
          have S6 := H3.out.set (off := 2) (v := .bool true) (cs' := #[.slice Av us.length cv, lv, .bool true]) rfl
          rw [HLV.out] at S6
          exact ⟨rfl, set_close (s := ⟨us.map f, la, true⟩) (by simpa using hb) (by simpa using S6)⟩
end
end Go.Proofs.YtfhpaehfihnjaaaGreat
namespace Go.Proofs.YtfhpaehfihnjaaaGreat
open Go.RowKit
theorem me_up (d : Dev) (a : Addr) (w : World) : (method 386 (devT d) (.pointer (some a)) "PowerUp").run Tryz.prog w = .ok (upF d, .pointer (some a)) w := by cases d <;> kernel_rfl
section
variable {W w : World} {F : List SA} {x : Nat} {v : Value} {bs : List (Nat × Nat)} {s : ST}
set_option maxHeartbeats 4000000 in
theorem up_any {k : Nat} (ok : s.ok k) (S : SL W (setO x v bs s :: F) w) : Calls Tryz.prog 18 #[.pointer (some ⟨x, 0, none⟩)] w fun e w' => e = .returned (.int .i64 s.up.2) ∧ SL W (setO x v bs s.up.1 :: F) w' := by
  have HS := Lib.hid S
  obtain ⟨hb, S1⟩ := set_open S
  obtain ⟨L, K, z⟩ := S1.look
  have L0 : w.cell? ⟨x, 0, none⟩ = some v := L 0
  have L2 : w.cell? ⟨x, 2, none⟩ = some (.bool s.off) := L 2
  obtain ⟨Av, cv, rfl, _, _⟩ := own_slice S1.s1.own
  have H1 := Lib.hid S1
  have HB := Lib.hid hb
  have HK := Lib.hid ok
  have hz := ok.len
  unfold ST.up
  clear S S1 hb ok L
  cases ho : s.off with
  | false =>
    rw [ho] at L2
    rw [if_pos rfl]
    go_enter Tryz.func18, Tryz.ntmps18
    go_wp2
    go_ret
    exact ⟨rfl, HS.out⟩
  | true =>
    rw [ho] at L2
    rw [if_neg (by decide)]
    obtain ⟨us, la, off⟩ := s
    obtain ⟨lv, hlv⟩ : ∃ lv, lv = lastV bs la := ⟨_, rfl⟩
    dsimp only at *
    subst ho
    rw [← hlv] at H1
    clear HS hlv
    go_enter Tryz.func18, Tryz.ntmps18
    go_wp2_with fail
    go_loopw [17] (fun i wr => ∃ j : Nat, j ≤ us.length ∧ i = .int .i64 j ∧ SL W (cel x #[.slice Av us.length cv, lv, .bool true] 72 :: rowS 70 1 (.slice Av us.length cv) us.length (ptrs bs) :: star (List.zipWith oneS bs ((us.take j).map UN.up ++ us.drop j)) :: F) wr) (fun i _ => us.length - (intOf i).toNat)
    case atStart => exact ⟨0, Nat.zero_le _, rfl, H1.out⟩
    case round =>
      obtain ⟨j, hj, rfl, S1⟩ := hrel
      have H2 := Lib.hid S1
      clear S1 L0 L2 K
      by_cases hlt : j < us.length
      · have hx : us[j]? = some us[j] := by simp [hlt]
        have hok := HK.out.us us[j] (List.getElem_mem hlt)
        generalize us[j] = u at hx hok
        obtain ⟨hx1, hx2⟩ := map_step (f := UN.up) hx
        obtain ⟨b, db, hp⟩ := bs_get HB.out hx
        obtain ⟨g, rfl, _, ck⟩ := H2.out.s1.cellAt (j := j) (u := ptrV b) (by unfold ptrs; rw [List.getElem?_map, hp]; rfl)
        have H3 := Lib.hid (one_open hp hx1 H2.out.s2)
        have HC := Lib.hid (dev_up hok.dev H3.out.s1)
        have HX := Lib.hid (And.intro hx1 (And.intro hx2 hp))
        obtain ⟨L3, _, _⟩ := H3.out.look
        have L5 : wr.cell? ⟨b, 5, none⟩ = some (.iface (devT u.dev) (.pointer (some ⟨db, 0, none⟩))) := L3 5
        have hen := en_up u.dev
        have hme := me_up u.dev ⟨db, 0, none⟩
        clear hx hx1 hx2 hp hok H2 L3
        unfold ptrV at ck
        go_wp2_with fail
        refine HC.out.mono ?_
        rintro e w2 ⟨rfl, S2⟩
        have H4 := Lib.hid S2.s1
        obtain ⟨L4, K4, z4⟩ := H4.out.look
        clear S2 ck hen hme L5
        go_wp2
        go_roundw
        case rel =>
          have S4 := ((H4.out.set (off := 6) (v := .int .i64 0) rfl).set (off := 7) (v := .int .i64 0) rfl).set (off := 8) (v := .bool false) (cs' := oneCells db u.up) (by cases u with | mk cf dev af ti eq => cases dev <;> rfl)
          have S5 := one_close (u := u.up) HX.out.2.2 (List.getElem?_eq_some_iff.1 HX.out.1).1 S4
          rw [HX.out.2.1] at S5
          exact ⟨j + 1, by omega, by go_num, S5.b2⟩
        case measure => simp [intOf]; omega
      · obtain rfl : j = us.length := by omega
        have H3 := H2
        rw [List.take_length, List.drop_length, List.append_nil] at H3
        obtain ⟨L, K, z⟩ := H3.out.look
        have hb := HB.out
        clear H2
        go_wp2
        go_ret
        have S6 := (H3.out.set (off := 1) (v := .pointer none) rfl).set (off := 2) (v := .bool false) (cs' := #[.slice Av us.length cv, .pointer none, .bool false]) rfl
        exact ⟨rfl, set_close (s := ⟨us.map UN.up, none, false⟩) (by simpa using hb) (by simpa [lastV] using S6)⟩
theorem intElem : Elem Tryz.prog 34 3 (.int .i64 0) 1 8 := ⟨Tryz.underlying34, by kernel_rfl, rfl, by omega⟩
def addrsV (s : ST) : List Value := s.us.map fun u => .int .i64 u.conf.addr
set_option maxHeartbeats 4000000 in
theorem addrs_any (hz : s.us.length ≤ 16) (S : SL W (setO x v bs s :: F) w) : Calls Tryz.prog 12 #[.pointer (some ⟨x, 0, none⟩)] w fun e w' => ∃ A c, e = .returned (.slice A s.us.length c) ∧ SL W (rowS 3 1 (.slice A s.us.length c) s.us.length (addrsV s) :: setO x v bs s :: F) w' := by
  obtain ⟨hb, S1⟩ := set_open S
  obtain ⟨L, K, z⟩ := S1.look
  have L0 : w.cell? ⟨x, 0, none⟩ = some v := L 0
  obtain ⟨Av, cv, rfl, _, _⟩ := own_slice S1.s1.own
  have HB := Lib.hid hb
  obtain ⟨lv, hlv⟩ : ∃ lv, lv = lastV bs s.last := ⟨_, rfl⟩
  have HLV := Lib.hid hlv
  rw [← hlv] at S1
  have H1 := Lib.hid S1
  clear S S1 hb L hlv
  unfold addrsV
  obtain ⟨us, la, off⟩ := s
  dsimp only at *
  go_enter Tryz.func12, Tryz.ntmps12
  go_wp2_with fail
  go_loopw [3, 13] (fun l i wr => ∃ (j : Nat) (A : Option Addr) (c : Nat), j ≤ us.length ∧ i = .int .i64 j ∧ l = .slice A j c ∧ SL W (rowS 3 1 (.slice A j c) j ((us.map fun u => Value.int .i64 u.conf.addr).take j) :: cel x #[.slice Av us.length cv, lv, .bool off] 72 :: rowS 70 1 (.slice Av us.length cv) us.length (ptrs bs) :: star (List.zipWith oneS bs us) :: F) wr) (fun _ i _ => us.length - (intOf i).toNat)
  case atStart => exact ⟨0, none, 0, Nat.zero_le _, rfl, rfl, H1.out.nil _ _⟩
  case round =>
    obtain ⟨j, A, c, hj, rfl, rfl, S1⟩ := hrel
    have H2 := Lib.hid S1
    clear S1 L0 K
    by_cases hlt : j < us.length
    · have hx : us[j]? = some us[j] := by simp [hlt]
      have HT := Lib.hid (show (us.map fun u => Value.int .i64 u.conf.addr).take j ++ [.int .i64 us[j].conf.addr] = (us.map fun u => Value.int .i64 u.conf.addr).take (j + 1) by
        rw [List.take_succ_eq_append_getElem (by simpa using hlt)]; simp)
      generalize us[j] = u at hx HT
      obtain ⟨b, db, hp⟩ := bs_get HB.out hx
      obtain ⟨g, rfl, _, ck⟩ := H2.out.s2.cellAt (j := j) (u := ptrV b) (by unfold ptrs; rw [List.getElem?_map, hp]; rfl)
      obtain ⟨L3, _, _⟩ := (one_open hp hx H2.out.s3).look
      have L4 : wr.cell? ⟨b, 0, none⟩ = some (.int .i64 u.conf.addr) := L3 0
      clear hx hp L3
      unfold ptrV at ck
      go_wp2_with (at_builtin; refine wpList_pushS rfl _ _ _ rfl intElem wr [.int .i64 u.conf.addr] 1 rfl rfl (by simp [Value.oneCell']) _ j _ rfl rfl H2.out (by unfold maxLen; omega) (by omega) ?_
                   intro A6 c6 w6 S6
                   have H6 := Lib.hid S6
                   clear S6)
      go_roundw
      case rel =>
        have S7 := H6.out
        rw [HT.out] at S7
        exact ⟨j + 1, A6, c6, by omega, by go_num, rfl, S7⟩
      case measure => simp [intOf]; omega
    · obtain rfl : j = us.length := by omega
      have H3 := H2
      rw [List.take_of_length_le (by simp)] at H3
      go_wp2
      go_ret
      have S5 := H3.out
      rw [HLV.out] at S5
      exact ⟨A, c, rfl, (set_close (s := ⟨us, la, off⟩) HB.out S5.b3).s1⟩
end
end Go.Proofs.YtfhpaehfihnjaaaGreat
