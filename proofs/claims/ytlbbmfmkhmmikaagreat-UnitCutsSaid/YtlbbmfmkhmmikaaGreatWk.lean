/- The law's example (works). -/
import Derived.Test.YtlbbmfmkhmmikaaGreatSetLP
import Derived.Test.YtlbbmfmkhmmikaaGreatSetD
import Derived.Test.YtlbbmfmkhmmikaaGreatSetQ
import Derived.Test.YtlbbmfmkhmmikaaGreatLaw
namespace Go.Proofs.YtlbbmfmkhmmikaaGreat
open Go.RowKit
section
variable {W w : World} {F : List SA} {x : Nat} {v : Value} {bs : List (Nat × Nat)} {s : ST}
/-- A unit's device taken out of a set, and put back. -/
theorem dev_open {i b db : Nat} {u : UN} (hp : bs[i]? = some (b, db)) (hu : s.us[i]? = some u) (S : SL W (setO x v bs s :: F) w) :
    bs.length = s.us.length ∧ SL W (devS db u.dev :: cel b (oneCells db u) 108 :: star ((List.zipWith oneS bs s.us).eraseIdx i) :: cel x #[v, lastV bs s.last, .bool s.off] 103 :: rowS 99 1 v s.us.length (ptrs bs) :: F) w := by
  obtain ⟨hb, S1⟩ := set_open S
  exact ⟨hb, (one_open hp hu S1.s2).s1⟩
theorem devT_kind {d d' : Dev} (h : d.kind = d'.kind) : devT d = devT d' := by cases d <;> cases d' <;> first | rfl | (simp [Dev.kind] at h)
theorem dev_close {i b db : Nat} {u : UN} {d : Dev} (hb : bs.length = s.us.length) (hp : bs[i]? = some (b, db)) (hu : s.us[i]? = some u) (hk : d.kind = u.dev.kind)
    (S : SL W (devS db d :: cel b (oneCells db u) 108 :: star ((List.zipWith oneS bs s.us).eraseIdx i) :: cel x #[v, lastV bs s.last, .bool s.off] 103 :: rowS 99 1 v s.us.length (ptrs bs) :: F) w) :
    SL W (setO x v bs { s with us := s.us.set i { u with dev := d } } :: F) w := by
  have hc : oneCells db { u with dev := d } = oneCells db u := by unfold oneCells devV; dsimp only; rw [devT_kind hk]
  have h1 := S.s1
  rw [← hc] at h1
  have h2 := (one_close (u := { u with dev := d }) hp (List.getElem?_eq_some_iff.1 hu).1 h1).b2
  exact set_close (s := { s with us := s.us.set i { u with dev := d } }) (by simpa using hb) (by simpa using h2)
theorem dev_same {i b db : Nat} {u : UN} (hb : bs.length = s.us.length) (hp : bs[i]? = some (b, db)) (hu : s.us[i]? = some u)
    (S : SL W (devS db u.dev :: cel b (oneCells db u) 108 :: star ((List.zipWith oneS bs s.us).eraseIdx i) :: cel x #[v, lastV bs s.last, .bool s.off] 103 :: rowS 99 1 v s.us.length (ptrs bs) :: F) w) :
    SL W (setO x v bs s :: F) w := by
  have h := dev_close hb hp hu rfl S
  have e : s.us.set i { u with dev := u.dev } = s.us := set_same hu
  rw [e] at h
  exact h
/-- Do, the plain result being known. -/
theorem act_at {addr op : Int} {l : List UInt8} {s2 : ST} {r : Rep} (e : s.act addr op l = (s2, r)) (A : Option Addr) (c : Nat) {k : Nat} (hd : D.CardB W F A l c) (hz : l.length ≤ 1073741824) (ok : s.ok k) (hk : k ≤ 10000000) (S : SL W (setO x v bs s :: F) w) :
    Calls Tryz.prog 13 #[.pointer (some ⟨x, 0, none⟩), .int .i64 addr, .int .i64 op, .slice A l.length c] w (RetE W (setO x v bs s2 :: F) r) := by
  have h := act_any addr op A l c hd hz ok hk S
  rw [e] at h
  exact h
theorem cut_at {how : Int} {s2 : ST} {r : Int} (e : s.cut how = (s2, r)) {k : Nat} (ok : s.ok k) (S : SL W (setO x v bs s :: F) w) : Calls Tryz.prog 14 #[.pointer (some ⟨x, 0, none⟩), .int .i64 how] w fun e w' => e = .returned (.int .i64 r) ∧ SL W (setO x v bs s2 :: F) w' := by
  have h := cut_any how ok S
  rw [e] at h
  exact h
theorem up_at {s2 : ST} {r : Int} (e : s.up = (s2, r)) {k : Nat} (ok : s.ok k) (S : SL W (setO x v bs s :: F) w) : Calls Tryz.prog 19 #[.pointer (some ⟨x, 0, none⟩)] w fun e w' => e = .returned (.int .i64 r) ∧ SL W (setO x v bs s2 :: F) w' := by
  have h := up_any ok S
  rw [e] at h
  exact h
theorem fail_at {addr after times : Int} {s2 : ST} {r : Int} (e : s.fail addr after times = (s2, r)) (hz : s.us.length ≤ 16) (S : SL W (setO x v bs s :: F) w) : Calls Tryz.prog 25 #[.pointer (some ⟨x, 0, none⟩), .int .i64 addr, .int .i64 after, .int .i64 times] w fun e w' => e = .returned (.int .i64 r) ∧ SL W (setO x v bs s2 :: F) w' := by
  have h := fail_any addr after times hz S
  rw [e] at h
  exact h
end
theorem fine_yes (v : Value) (w : World) : Calls Tryz.prog 12 #[.agg #[v, .int .i64 12, .int .i64 0]] w fun e w' => e = .returned (.bool true) ∧ Below w.heap.size w w' := fine_any v 12 0 w
def wk1 : ST := (plantST.act 384 1 [5]).1
def wk2 : ST := (wk1.act 384 1 [6]).1
def wk3 : ST := (wk2.cut 1).1
def wk4 : ST := wk3.up.1
theorem wk1_e : plantST.act 384 1 [5] = (wk1, [], 12, 0) := by kernel_rfl
theorem wk2_e : wk1.act 384 1 [6] = (wk2, [], 12, 0) := by kernel_rfl
theorem wk3_e : wk2.cut 1 = (wk3, 0) := by kernel_rfl
theorem wk3_b : wk3.act 384 2 [] = (wk3, [], 14, 64) := by kernel_rfl
theorem wk4_e : wk3.up = (wk4, 0) := by kernel_rfl
theorem wk1_ok : wk1.ok 1 := plant_ok.act _ _ _
theorem wk2_ok : wk2.ok 2 := wk1_ok.act _ _ _
theorem wk3_ok : wk3.ok 2 := wk2_ok.cut _
theorem wk4_ok : wk4.ok 2 := wk3_ok.up
theorem wk4_f : wk4.find 384 = some 3 := by kernel_rfl
theorem wk4_t : wk4.us[3]? = some (mkU cTape (.tape nmA ⟨[⟨[5], false, false⟩], 0, true, 0, none⟩)) := by kernel_rfl
section
variable {W w : World} {F : List SA}
set_option maxRecDepth 100000 in
set_option maxHeartbeats 16000000 in
theorem works_any (S : SL W F w) : Calls Tryz.prog 11 #[] w fun e w' => e = .returned (.bool true) ∧ SL W F w' := by
  have HP := Lib.hid (plant_any S)
  clear S
  go_enter Tryz.func11, Tryz.ntmps11
  go_wp2_with fail
  refine HP.out.mono ?_
  rintro e w1 ⟨x, v, bs, rfl, S1⟩
  have H1 := Lib.hid (S1.lit #[.int .u8 5] 5 1 1 rfl (by decide)).s1
  unfold ptrV
  clear S1 HP
  go_wp2_with fail
  refine (act_at wk1_e _ _ (l := [5]) (cardB_head rfl) (by decide) plant_ok (by decide) H1.out).mono ?_
  rintro e w2 ⟨A2, c2, rfl, S2⟩
  have H2 := Lib.hid S2
  clear S2
  go_wp2_with fail
  have S3 := (H2.out.allocC #[.slice A2 0 c2, .int .i64 12, .int .i64 0] 30).lit #[.int .u8 6] 5 1 1 rfl (by decide)
  rw [World.size_alloc] at S3
  -- set, data, reply
  have H3 := Lib.hid S3.s3
  clear S3 H2
  refine (act_at wk2_e _ _ (l := [6]) (cardB_head rfl) (by decide) wk1_ok (by decide) H3.out).mono ?_
  rintro e w4 ⟨A4, c4, rfl, S4⟩
  have H4 := Lib.hid S4.drop
  clear S4 H3
  go_wp2_with fail
  refine (cut_at wk3_e wk2_ok H4.out).mono ?_
  rintro e w5 ⟨rfl, S5⟩
  have H5 := Lib.hid S5
  clear S5 H4
  go_wp2_with fail
  refine (act_at wk3_b none 0 (l := []) cardB_nil (by decide) wk3_ok (by decide) H5.out).mono ?_
  rintro e w6 ⟨A6, c6, rfl, S6⟩
  have H6 := Lib.hid (S6.drop.allocC #[.slice A6 0 c6, .int .i64 14, .int .i64 64] 30).s1
  clear S6 H5
  go_wp2_with fail
  refine (up_at wk4_e wk3_ok H6.out).mono ?_
  rintro e w7 ⟨rfl, S7⟩
  have hb := (set_open S7).1
  obtain ⟨b, db, hp⟩ := bs_get hb wk4_t
  have hg : getP 4 bs wk4 384 = ptrV db := by rw [getP_some wk4_f hp wk4_t]; rfl
  have HG := getTape_any 384 (wk4_ok.len) S7
  rw [hg] at HG
  have HT := Lib.hid HG
  have HB := Lib.hid (And.intro hb hp)
  have H7 := Lib.hid S7
  clear S7 H6 hb hp hg HG
  go_wp2_with fail
  refine HT.out.mono ?_
  rintro e w8 ⟨rfl, rfl⟩
  have H8 := Lib.hid (dev_open HB.out.2 wk4_t H7.out).2
  unfold ptrV
  go_wp2_with fail
  refine (T.blocks_any (s := ⟨[⟨[5], false, false⟩], 0, true, 0, none⟩) H8.out (wk4_ok.us _ (List.mem_of_getElem? wk4_t)).dev.2.1.fit).mono ?_
  rintro e w9 ⟨v9, rfl, S9⟩
  have H9 := Lib.hid S9
  clear S9 H8
  obtain ⟨A9, c9, rfl, hc1, hc2⟩ := T.blksS_slice H9.out
  obtain ⟨L2, _, _⟩ := (H9.out.drop.drop.drop.drop.drop.drop.drop.drop).look
  clear hc1 hc2
  go_wp2_with fail
  refine (fine_yes _ _).mono ?_
  rintro e wa ⟨rfl, ba⟩
  have HA := Lib.hid (H9.out.grow ba)
  clear ba H9 L2
  obtain ⟨L6, _, _⟩ := (HA.out.drop.drop.drop.drop.drop.drop).look
  obtain ⟨g, off, Ad, cd, rfl, _, k1, _, a1, a2, a3⟩ := T.blksS_at HA.out 0 _ rfl
  have HD := Lib.hid a1
  clear a1
  go_wp2_with fail
  have SB := HA.out.lit #[.int .u8 5] 5 1 1 rfl (by decide)
  have h1 : At (wa.alloc (.cells #[.int .u8 5] 5)) (wa.alloc (.cells #[.int .u8 5] 5)).heap.size Ad (Lib.byteCells [5]) := (HD.out.below ((Below.refl _ _).alloc (Nat.le_refl _) _)).mono (by simp)
  refine (same_below Ad _ [5] cd 1 _ h1 SB.at_ (by decide)).mono ?_
  rintro e wb ⟨rfl, bb⟩
  have HB2 := Lib.hid (SB.grow bb)
  clear SB h1 bb HA L6 k1
  go_wp2
  go_ret
  exact ⟨rfl, HB2.out.drop.drop.drop.drop.drop.drop.drop.drop.drop.drop.drop.drop⟩
end
end Go.Proofs.YtlbbmfmkhmmikaaGreat
