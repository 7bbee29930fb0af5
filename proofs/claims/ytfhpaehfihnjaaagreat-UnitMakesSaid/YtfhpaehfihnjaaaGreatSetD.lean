/- Do of a set. -/
import Derived.Test.YtfhpaehfihnjaaaGreatDev
import Derived.Test.YtfhpaehfihnjaaaGreatSetUQ
import Derived.Deep.CutBlock
import Derived.Lib.Builder
import Derived.Deep.CutRange
set_option maxRecDepth 100000
namespace Go.Proofs.YtfhpaehfihnjaaaGreat
open Go.RowKit
theorem SL.b5 {W w : World} {a b c d e f : SA} {r : List SA} (S : SL W (a :: b :: c :: d :: e :: f :: r) w) : SL W (b :: c :: d :: e :: f :: a :: r) w := S.s5.s5.s5.s5.s5
section
variable {W w : World} {F : List SA} {x : Nat} {v : Value} {bs : List (Nat × Nat)} {s : ST}
theorem scheck_any (n : Int) (w : World) : Calls Tryz.prog 54 #[.int .i64 n] w fun e w' => e = .returned (.agg #[.slice none 0 0, .int .i64 14, .int .i64 n]) ∧ Below w.heap.size w w' := by
  go_enter Tryz.func54, Tryz.ntmps54
  go_wp2
  exact bodyPost_ret (v := .agg #[.slice none 0 0, .int .i64 14, .int .i64 n]) (by simp [results, Tryz.results54, go_sem]) rfl ⟨rfl, by (repeat' (first | (with_reducible exact Below.refl _ _) | (with_reducible assumption) | (with_reducible refine below_drewN ?_ _) | (with_reducible refine Below.drew ?_) | (with_reducible refine Below.alloc ?_ ?_ _) | (with_reducible refine Below.setCell ?_ ?_ _) | (with_reducible refine below_row ?_ ?_ _) | (with_reducible exact Nat.le_refl _) | omega | (simp only [World.size_alloc, World.size_setCell, World.size_drew, World.size_drewN]; omega) | (simp; done) | (simp; omega)))⟩
theorem ones_ne {us : List UN} {i j : Nat} {p q : Nat × Nat} {u t : UN} (hij : i ≠ j) (hp : bs[i]? = some p) (hq : bs[j]? = some q) (hu : us[i]? = some u) (ht : us[j]? = some t) (S : SL W (star (List.zipWith oneS bs us) :: F) w) : p.1 ≠ q.1 := by
  have h1 := S.take (zip_get hp hu)
  have h2 : ((List.zipWith oneS bs us).eraseIdx i)[if j < i then j else j - 1]? = some (oneS q t) := by
    rw [List.getElem?_eraseIdx]
    by_cases h : j < i
    · rw [if_pos h, if_pos h]; exact zip_get hq ht
    · rw [if_neg h, if_neg (by omega), show j - 1 + 1 = j by omega]; exact zip_get hq ht
  have h3 := h1.s1.take h2
  -- oneS q t :: star .. :: oneS p u
  have h4 : SL W (cel q.1 (oneCells q.2 t) 80 :: devS q.2 t.dev :: star (((List.zipWith oneS bs us).eraseIdx i).eraseIdx (if j < i then j else j - 1)) :: oneS p u :: F) w := SL.spill (L := [cel q.1 (oneCells q.2 t) 80, devS q.2 t.dev]) h3
  have h5 : SL W (cel p.1 (oneCells p.2 u) 80 :: devS p.2 u.dev :: cel q.1 (oneCells q.2 t) 80 :: devS q.2 t.dev :: star (((List.zipWith oneS bs us).eraseIdx i).eraseIdx (if j < i then j else j - 1)) :: F) w := SL.spill (L := [cel p.1 (oneCells p.2 u) 80, devS p.2 u.dev]) h4.s3
  exact h5.s1.drop.cne
theorem settle_get {i : Nat} {u : UN} (hu : s.us[i]? = some u) : (s.settle i)[i]? = some u ∧ (s.settle i).length = s.us.length := by
  unfold ST.settle
  split
  · split
    · exact ⟨hu, rfl⟩
    · rename_i j _ h
      rw [List.getElem?_modify, hu]
      exact ⟨by simp [h], by simp⟩
  · exact ⟨hu, rfl⟩
theorem run_close {usS : List UN} {i b db : Nat} {u : UN} {op : Int} {l : List UInt8} {D : SA} (hb : bs.length = usS.length) (hp : bs[i]? = some (b, db)) (hi : i < usS.length)
    (S : SL W (D :: devS db (u.dev.act op l).1 :: cel b (oneCells db u) 80 :: star ((List.zipWith oneS bs usS).eraseIdx i) :: cel x #[v, ptrV b, .bool false] 72 :: rowS 70 1 v usS.length (ptrs bs) :: F) w) :
    SL W (D :: setO x v bs ⟨usS.set i (u.run op l).1, some i, false⟩ :: F) w := by
  have hc : oneCells db (u.run op l).1 = oneCells db u := by
    obtain ⟨cf, dev, af, ti, eq⟩ := u
    cases dev <;> rfl
  have h1 := S.b5.s1
  rw [← hc] at h1
  have h2 := (one_close (u := (u.run op l).1) hp hi h1).b2
  have h3 := set_close (s := ⟨usS.set i (u.run op l).1, some i, false⟩) (by simpa using hb) (by
    show SL W (cel x #[v, lastV bs (some i), .bool false] 72 :: _) w
    rw [lastV_some hp]
    simpa using h2)
  exact h3.s1
theorem neq_same (a : Addr) (w : World) : (binOp .neq 70 (.pointer (some a)) (.pointer (some a))).run Tryz.prog w = .ok (.bool false) w := by
  obtain ⟨j, hj⟩ : ∃ j, Tryz.prog.info? 80 = some j := Option.isSome_iff_exists.1 (by kernel_rfl)
  exact Lib.run_neq_ptr_same w a Tryz.underlying70 hj
theorem neq_other {a b : Nat} {ca cb : Array Value} {ta tb : TypeId} {w : World} (hne : a ≠ b) (ha : w.heap[a]? = some (.cells ca ta (0, 0))) (hb : w.heap[b]? = some (.cells cb tb (0, 0))) :
    (binOp .neq 70 (.pointer (some ⟨a, 0, none⟩)) (.pointer (some ⟨b, 0, none⟩))).run Tryz.prog w = .ok (.bool true) w := by
  obtain ⟨j, hj, hs⟩ : ∃ j, Tryz.prog.info? 80 = some j ∧ j.size ≠ 0 := by
    have h : (Tryz.prog.info? 80).map (fun i => i.size != 0) = some true := by kernel_rfl
    obtain ⟨j, hj, e⟩ := Option.map_eq_some_iff.1 h
    exact ⟨j, hj, by simpa using e⟩
  have hn : (⟨a, 0, none⟩ : Addr) ≠ ⟨b, 0, none⟩ := by intro e; injection e with e; exact hne e
  have hu := Tryz.underlying70
  have h : ∀ d : Nat, (Op.equalIn (d + 1) 70 (.pointer (some ⟨a, 0, none⟩)) (.pointer (some ⟨b, 0, none⟩))).run Tryz.prog w = .ok false w := fun d => by
    simp [Op.equalIn, run_underlying hu, sizeOf, typeInfo, hj, hs, run_sameAddr_other w hn ha hb]
  simp only [binOp]
  simp [Op.equal, Op.maxDepth, h 9999]
theorem me_do (d : Dev) (a : Addr) (w : World) : (method 386 (devT d) (.pointer (some a)) "Do").run Tryz.prog w = .ok (doF d, .pointer (some a)) w := by cases d <;> kernel_rfl
set_option maxHeartbeats 16000000 in
theorem act_any (addr op : Int) (A : Option Addr) (l : List UInt8) (c : Nat) {k : Nat} (hd : D.CardB W F A l c) (hz : l.length ≤ 1073741824) (ok : s.ok k) (hk : k ≤ 10000000) (S : SL W (setO x v bs s :: F) w) :
    Calls Tryz.prog 16 #[.pointer (some ⟨x, 0, none⟩), .int .i64 addr, .int .i64 op, .slice A l.length c] w (RetE W (setO x v bs (s.act addr op l).1 :: F) (s.act addr op l).2) := by
  have S0 := S.allocC #[.slice none 0 0, .int .i64 0, .int .i64 0] 55
  have HF := Lib.hid (find_any addr ok.len S0.s1)
  have H0 := Lib.hid S0
  have HS := Lib.hid S
  obtain ⟨R, hR⟩ : ∃ R, s.act addr op l = R := ⟨_, rfl⟩
  rw [hR]
  clear S S0
  cases hf : s.find addr with
  | none =>
    have HR := Lib.hid (show R = (s, [], 14, 64) by rw [← hR]; unfold ST.act; rw [hf])
    clear hR
    rw [hf] at HF
    clear ok hd
    go_enter Tryz.func16, Tryz.ntmps16
    go_wp2_with fail
    refine HF.out.mono ?_
    rintro e w1 ⟨rfl, rfl⟩
    simp only [lastV]
    go_wp2_with fail
    refine (scheck_any _ _).mono ?_
    rintro e w1 ⟨rfl, b1⟩
    have H1 := Lib.hid (H0.out.grow b1)
    obtain ⟨L1, K1, z1⟩ := H1.out.look
    clear b1
    go_wp2
    refine bodyPost_ret (v := .agg #[.slice none 0 0, .int .i64 14, .int .i64 64]) (by simp [results, Tryz.results16, go_sem, L1]) rfl ?_
    rw [HR.out]
    exact RetE.of H1.out.set3.drop
  | some i =>
    obtain ⟨u, hu, _⟩ := find_get hf
    obtain ⟨hb, S1⟩ := set_open H0.out.s1
    obtain ⟨b, db, hp⟩ := bs_get hb hu
    have H1 := Lib.hid S1
    rw [hf, lastV_some hp] at HF
    unfold ptrV at HF
    have hact : R = if s.off = true then (s, [], 14, 64) else if op = 4 ∧ u.equip = true then (s, [16], 12, 0) else ({ s with us := (s.settle i).set i (u.cmd op l).1, last := some i }, (u.cmd op l).2) := by
      rw [← hR]; unfold ST.act; rw [hf]; simp only [hu]
    clear hR
    obtain ⟨L0, K0, z0⟩ := S1.look
    have Lx : (w.alloc (.cells #[.slice none 0 0, .int .i64 0, .int .i64 0] 55)).cell? ⟨x, 2, none⟩ = some (.bool s.off) := L0 2
    clear L0
    by_cases ho : s.off = true
    · rw [if_pos ho] at hact
      have HR := Lib.hid hact
      rw [ho] at Lx
      clear ok hd hact ho S1
      go_enter Tryz.func16, Tryz.ntmps16
      go_wp2_with fail
      refine HF.out.mono ?_
      rintro e w1 ⟨rfl, rfl⟩
      go_wp2_with fail
      refine (scheck_any _ _).mono ?_
      rintro e w1 ⟨rfl, b1⟩
      have H1 := Lib.hid (H0.out.grow b1)
      obtain ⟨L1, K1, z1⟩ := H1.out.look
      clear b1
      go_wp2
      refine bodyPost_ret (v := .agg #[.slice none 0 0, .int .i64 14, .int .i64 64]) (by simp [results, Tryz.results16, go_sem, L1]) rfl ?_
      rw [HR.out]
      exact RetE.of H1.out.set3.drop
    rw [if_neg ho] at hact
    have ho' : s.off = false := by simpa using ho
    rw [ho'] at Lx
    clear ho
    obtain ⟨L3, K3, z3⟩ := (one_open hp hu S1.s2).look
    have Lq : (w.alloc (.cells #[.slice none 0 0, .int .i64 0, .int .i64 0] 55)).cell? ⟨b, 8, none⟩ = some (.bool u.equip) := L3 8
    clear L3 K3
    by_cases he : op = 4 ∧ u.equip = true
    · rw [if_pos he] at hact
      have HR := Lib.hid hact
      obtain ⟨rfl, he⟩ := he
      rw [he] at Lq
      have HX := Lib.hid (And.intro hb hu)
      clear ok hd hact S1 hu hp he hb
      go_enter Tryz.func16, Tryz.ntmps16
      go_wp2_with fail
      refine HF.out.mono ?_
      rintro e w1 ⟨rfl, rfl⟩
      obtain ⟨L4, K4, z4⟩ := H0.out.look
      go_wp2
      refine name_world (P := bodyPost _ _ _ _ _) ?_
      intro wf hwf
      have S8 := (HS.out.allocC #[.slice (some ⟨w.heap.size + 1, 0, none⟩) 1 1, .int .i64 12, .int .i64 0] 55).lit #[.int .u8 16] 5 1 1 rfl (by decide)
      rw [World.size_alloc] at S8
      have SF := SL.cast hwf S8.s1
      clear hwf
      obtain ⟨Lf, _, _⟩ := SF.look
      refine bodyPost_ret (v := .agg #[.slice (some ⟨w.heap.size + 1, 0, none⟩) 1 1, .int .i64 12, .int .i64 0]) (by simp [results, Tryz.results16, go_sem, Lf]) rfl ?_
      rw [HR.out]
      exact ⟨_, _, rfl, SF.drop⟩
    rw [if_neg he] at hact
    have HF0 := Lib.hid HF.out
    obtain ⟨hs1, hs2⟩ := settle_get (i := i) hu
    have hact2 : R = (⟨(s.settle i).set i (u.cmd op l).1, some i, false⟩, (u.cmd op l).2) := by rw [hact, ← ho']
    have HR := Lib.hid hact2
    have HD := Lib.hid hd
    have HAF := Lib.hid (And.intro (ok.us u (List.mem_of_getElem? hu)).af (ok.us u (List.mem_of_getElem? hu)).ti)
    have L1x : (w.alloc (.cells #[.slice none 0 0, .int .i64 0, .int .i64 0] 55)).cell? ⟨x, 1, none⟩ = some (lastV bs s.last) := (S1.look).1 1
    have HOK := Lib.hid (fun j t (h : s.us[j]? = some t) => (ok.us t (List.mem_of_getElem? h)).dev)
    have HST : Hid (s.settle i = match s.last with | some j => if j = i then s.us else s.us.modify j (fun u => u.undo 0) | none => s.us) := Lib.hid rfl
    have HLZ := Lib.hid ok.last
    have HU := Lib.hid hu
    obtain ⟨usS, hus⟩ : ∃ l, l = s.settle i := ⟨_, rfl⟩
    rw [← hus] at hs1 hs2 HR HST
    have HX := Lib.hid (And.intro hs1 (And.intro hs2 (And.intro hb hp)))
    have hsplit : (s.last = none ∧ usS = s.us) ∨ (s.last = some i ∧ usS = s.us) ∨ ∃ j t bj dj, j ≠ i ∧ s.last = some j ∧ s.us[j]? = some t ∧ bs[j]? = some (bj, dj) ∧ bj ≠ b ∧ usS = s.us.set j (t.undo 0) := by
      have h := HST.out
      cases hl : s.last with
      | none => rw [hl] at h; exact Or.inl ⟨rfl, h⟩
      | some j =>
        rw [hl] at h
        by_cases hj : j = i
        · subst hj; simp only [if_true] at h; exact Or.inr (Or.inl ⟨rfl, h⟩)
        · simp only [if_neg hj] at h
          have hjl := ok.last j hl
          obtain ⟨bj, dj, hq⟩ := bs_get hb (List.getElem?_eq_getElem hjl)
          exact Or.inr (Or.inr ⟨j, _, bj, dj, hj, rfl, List.getElem?_eq_getElem hjl, hq, ones_ne hj hq hp (List.getElem?_eq_getElem hjl) hu S1.s2, by rw [h]; exact modify_eq _ (List.getElem?_eq_getElem hjl)⟩)
    have HSP := Lib.hid hsplit
    have hop : (op = 4 ∧ u.equip = false) ∨ op = 3 ∨ ((op == 4) = false ∧ (op == 3) = false) := by
      by_cases h4 : op = 4
      · left; refine ⟨h4, ?_⟩
        cases hh : u.equip
        · rfl
        · exact absurd ⟨h4, hh⟩ he
      · by_cases h3 : op = 3
        · exact Or.inr (Or.inl h3)
        · right; right; exact ⟨by simpa using h4, by simpa using h3⟩
    have HUK := Lib.hid (HOK.out i u hu)
    rw [ho'] at H1
    clear hact hact2 he hu hs1 hs2 hp hb S1 ok hus hf HF HST hsplit hd ho'
    obtain ⟨lv, hlv⟩ : ∃ lv, lv = lastV bs s.last := ⟨_, rfl⟩
    have HLV := Lib.hid hlv
    rw [← hlv] at L1x H1
    clear hlv
    rcases hop with ⟨rfl, hop⟩ | rfl | ⟨t4, t3⟩
    case' inl => rw [hop] at Lq
    all_goals
      go_enter Tryz.func16, Tryz.ntmps16
      go_upto_region 6 with ((with_reducible refine HF0.out.mono ?_); rintro e w1 ⟨rfl, rfl⟩)
      go_cut [44] (fun t wx => wx = w.alloc (.cells #[.slice none 0 0, .int .i64 0, .int .i64 0] 55) ∧ ((t = .bool false ∧ usS = s.us) ∨ (t = .bool true ∧ ∃ j t bj dj, s.us[j]? = some t ∧ bs[j]? = some (bj, dj) ∧ lv = ptrV bj ∧ usS = s.us.set j (t.undo 0))))
      case first =>
        rcases HSP.out with ⟨hl, h1⟩ | ⟨hl, h1⟩ | ⟨j, t, bj, dj, hj, hl, ht, hq, hne, h1⟩
        · have e := HLV.out
          rw [hl] at e
          simp only [lastV] at e
          subst e
          have HH := Lib.hid h1
          clear h1 hl
          go_wp2_with fail
          go_meet
          case rel => exact ⟨rfl, Or.inl ⟨rfl, HH.out⟩⟩
        · have e := HLV.out
          rw [hl, lastV_some HX.out.2.2.2] at e
          unfold ptrV at e
          dsimp only at e
          subst e
          have HH := Lib.hid h1
          have hpp := neq_same ⟨b, 0, none⟩
          clear h1 hl
          go_wp2_with fail
          go_meet
          case rel => exact ⟨rfl, Or.inl ⟨rfl, HH.out⟩⟩
        · have e := HLV.out
          rw [hl, lastV_some hq] at e
          have e2 := e
          unfold ptrV at e
          dsimp only at e
          rw [e] at L1x
          have HH := Lib.hid h1
          have HT := Lib.hid (And.intro ht (And.intro hq e2))
          have hpp := neq_other hne (one_open hq ht H1.out.s2).crow (one_open HX.out.2.2.2 HU.out H1.out.s2).crow
          clear h1 hl ht hq e2 e
          go_wp2_with fail
          go_meet
          case rel => exact ⟨rfl, Or.inr ⟨rfl, j, t, bj, dj, HT.out.1, HT.out.2.1, HT.out.2.2, HH.out⟩⟩
      case' rest =>
        obtain ⟨hwc, hcase⟩ := hcut
        have H2 := Lib.hid (SL.cast hwc H1.out)
        have HCS := Lib.hid hcase
        clear hwc hcase L1x Lx Lq K0 z0 H1 H0 HF0 HSP HLV
        obtain ⟨L2, K2, z2⟩ := H2.out.look
        have L21 := L2 1
        have hL21 : wc.cell? ⟨x, 1, none⟩ = some lv := L21
        clear L2 L21
        go_upto_if 44 with fail
        go_cut [] (fun wx => SL W (cel x #[v, lv, .bool false] 72 :: rowS 70 1 v s.us.length (ptrs bs) :: star (List.zipWith oneS bs usS) :: cel w.heap.size #[.slice none 0 0, .int .i64 0, .int .i64 0] 55 :: F) wx)
        case first =>
          rcases HCS.out with ⟨rfl, h1⟩ | ⟨rfl, j, t, bj, dj, ht, hq, hlv, h1⟩
          · subst h1
            go_wp2_with fail
            go_meet
            case rel => exact H2.out
          · subst hlv
            have HC := Lib.hid (undo_any 0 (HOK.out j t ht) (one_open hq ht H2.out.s2))
            have HH := Lib.hid (And.intro ht (And.intro hq h1))
            unfold ptrV at hL21 HC
            clear h1 ht hq
            go_wp2_with fail
            refine HC.out.mono ?_
            rintro e w2 ⟨rfl, S2⟩
            have H3 := Lib.hid S2
            clear S2 HC
            go_wp2_with fail
            go_meet
            case rel =>
              obtain ⟨ht, hq, h1⟩ := HH.out
              have S3 := one_close (u := t.undo 0) hq (List.getElem?_eq_some_iff.1 ht).1 H3.out
              rw [← h1] at S3
              exact S3.b2
        case' rest =>
          have H3 := Lib.hid hcut
          clear hcut H2 hL21 K2 HCS
          obtain ⟨L3, K3, z3⟩ := H3.out.look
          go_upto_region 10 with fail
          refine name_world (P := Code.wp _ _ _ _) ?_
          intro wd hwd
          have S4 := SL.cast hwd (H3.out.set (off := 1) (v := .pointer (some ⟨b, 0, none⟩)) (cs' := #[v, ptrV b, .bool false]) rfl)
          -- unit, device, others, set, row, reply
          have H4 := Lib.hid (one_open HX.out.2.2.2 HX.out.1 S4.s2)
          clear hwd S4 H3 L3 K3
    · have HQ := Lib.hid (show u.cmd 4 l = u.run 4 l by unfold UN.cmd; rw [if_pos (Or.inl rfl)])
      obtain ⟨L6, K6, z6⟩ := H4.out.look
      have L65 : wd.cell? ⟨b, 5, none⟩ = some (.iface (devT u.dev) (.pointer (some ⟨db, 0, none⟩))) := L6 5; have hen := en_do u.dev; have hme := me_do u.dev ⟨db, 0, none⟩; clear L6; go_wp2_with fail; refine name_world (P := fun W => Calls _ _ _ W _) ?_; intro we hwe; have HW := Lib.hid (SL.cast hwe H4.out); clear hwe; obtain ⟨r, hr⟩ : ∃ r, r = u.dev.act 4 l := ⟨_, rfl⟩; have HRR := Lib.hid hr; have HC := dev_do 4 A l c (fun w S => HD.out w S.drop.drop.drop.drop.drop) hz HUK.out hk HW.out.s1; rw [← hr] at HC; clear hr; obtain ⟨d2, rd, st, sn⟩ := r; dsimp only at HC; refine HC.mono ?_; clear HC; rintro e w2 ⟨A2, c2, rfl, S2⟩; dsimp only at S2 ⊢; have H7 := Lib.hid S2.s6; clear S2 hen hme; generalize w.heap.size = rb at *; obtain ⟨L7, K7, z7⟩ := H7.out.look; go_wp2_with (refine bodyPost_ret (v := .agg #[.slice A2 rd.length c2, .int .i64 st, .int .i64 sn]) (by simp [results, Tryz.results16, go_sem, L7]) rfl ?_); rw [HR.out, HQ.out]; have S8 := (H7.out.set3 (u0 := .slice A2 rd.length c2) (u1 := .int .i64 st) (u2 := .int .i64 sn)).drop; rw [← HX.out.2.1] at S8; have hr := HRR.out; have e1 : d2 = (u.dev.act 4 l).1 := (by rw [← hr]); have e2 : (rd, st, sn) = (u.dev.act 4 l).2 := (by rw [← hr]); refine RetE.conv (r := (rd, st, sn)) e2 ⟨A2, c2, rfl, run_close (u := u) (op := 4) (by rw [HX.out.2.1]; exact HX.out.2.2.1) HX.out.2.2.2 (List.getElem?_eq_some_iff.1 HX.out.1).1 (by rw [← e1]; exact S8)⟩
    · have HQ := Lib.hid (show u.cmd 3 l = u.run 3 l by unfold UN.cmd; rw [if_pos (Or.inr rfl)])
      obtain ⟨L6, K6, z6⟩ := H4.out.look
      have L65 : wd.cell? ⟨b, 5, none⟩ = some (.iface (devT u.dev) (.pointer (some ⟨db, 0, none⟩))) := L6 5; have hen := en_do u.dev; have hme := me_do u.dev ⟨db, 0, none⟩; clear L6; go_wp2_with fail; refine name_world (P := fun W => Calls _ _ _ W _) ?_; intro we hwe; have HW := Lib.hid (SL.cast hwe H4.out); clear hwe; obtain ⟨r, hr⟩ : ∃ r, r = u.dev.act 3 l := ⟨_, rfl⟩; have HRR := Lib.hid hr; have HC := dev_do 3 A l c (fun w S => HD.out w S.drop.drop.drop.drop.drop) hz HUK.out hk HW.out.s1; rw [← hr] at HC; clear hr; obtain ⟨d2, rd, st, sn⟩ := r; dsimp only at HC; refine HC.mono ?_; clear HC; rintro e w2 ⟨A2, c2, rfl, S2⟩; dsimp only at S2 ⊢; have H7 := Lib.hid S2.s6; clear S2 hen hme; generalize w.heap.size = rb at *; obtain ⟨L7, K7, z7⟩ := H7.out.look; go_wp2_with (refine bodyPost_ret (v := .agg #[.slice A2 rd.length c2, .int .i64 st, .int .i64 sn]) (by simp [results, Tryz.results16, go_sem, L7]) rfl ?_); rw [HR.out, HQ.out]; have S8 := (H7.out.set3 (u0 := .slice A2 rd.length c2) (u1 := .int .i64 st) (u2 := .int .i64 sn)).drop; rw [← HX.out.2.1] at S8; have hr := HRR.out; have e1 : d2 = (u.dev.act 3 l).1 := (by rw [← hr]); have e2 : (rd, st, sn) = (u.dev.act 3 l).2 := (by rw [← hr]); refine RetE.conv (r := (rd, st, sn)) e2 ⟨A2, c2, rfl, run_close (u := u) (op := 3) (by rw [HX.out.2.1]; exact HX.out.2.2.1) HX.out.2.2.2 (List.getElem?_eq_some_iff.1 HX.out.1).1 (by rw [← e1]; exact S8)⟩
    · have hcmd : u.cmd op l = if 0 < u.after then ({ u with after := u.after - 1, equip := false } : UN).run op l else if 0 < u.times then (({ u with times := u.times - 1, equip := true } : UN).undo 0, [], 14, 16) else ({ u with equip := false } : UN).run op l := by
        unfold UN.cmd; rw [if_neg (by simp at t3 t4; omega)]
      obtain ⟨L6, K6, z6⟩ := H4.out.look
      have hz6 : wd.cell? ⟨b, 6, none⟩ = some (.int .i64 (u.after : Int)) := L6 6
      have hz7 : wd.cell? ⟨b, 7, none⟩ = some (.int .i64 (u.times : Int)) := L6 7
      have hz8 : wd.cell? ⟨b, 8, none⟩ = some (.bool u.equip) := L6 8
      obtain ⟨b6, b7⟩ := HAF.out
      obtain ⟨z1, hz1⟩ : ∃ z : Int, z = (u.after : Int) := ⟨_, rfl⟩
      obtain ⟨z2, hz2⟩ : ∃ z : Int, z = (u.times : Int) := ⟨_, rfl⟩
      rw [← hz1] at hz6
      rw [← hz2] at hz7
      by_cases ha : 0 < u.after
      · rw [if_pos ha] at hcmd
        have HQ := Lib.hid hcmd
        have he1 : (oneCells db u).setIfInBounds 6 (.int .i64 (z1 - 1)) = oneCells db { u with after := u.after - 1 } := by
          have e : ((u.after - 1 : Nat) : Int) = z1 - 1 := by omega
          unfold oneCells; dsimp only; rw [e]; rfl
        have HS6 := Lib.hid ((H4.out.set (off := 6) (v := .int .i64 (z1 - 1)) he1).set (off := 8) (v := .bool false) (cs' := oneCells db { u with after := u.after - 1, equip := false }) rfl)
        have hp1 : 0 < z1 := by omega
        have hp2 : z1 ≤ 9223372036854775807 := by omega
        clear he1 hcmd ha hz1 hz2 b6 b7
        have L65 : wd.cell? ⟨b, 5, none⟩ = some (.iface (devT u.dev) (.pointer (some ⟨db, 0, none⟩))) := L6 5; have hen := en_do u.dev; have hme := me_do u.dev ⟨db, 0, none⟩; clear L6; go_wp2_with fail; refine name_world (P := fun W => Calls _ _ _ W _) ?_; intro we hwe; have HW := Lib.hid (SL.cast hwe HS6.out); clear hwe; obtain ⟨r, hr⟩ : ∃ r, r = u.dev.act op l := ⟨_, rfl⟩; have HRR := Lib.hid hr; have HC := dev_do op A l c (fun w S => HD.out w S.drop.drop.drop.drop.drop) hz HUK.out hk HW.out.s1; rw [← hr] at HC; clear hr; obtain ⟨d2, rd, st, sn⟩ := r; dsimp only at HC; refine HC.mono ?_; clear HC; rintro e w2 ⟨A2, c2, rfl, S2⟩; dsimp only at S2 ⊢; have H7 := Lib.hid S2.s6; clear S2 hen hme; generalize w.heap.size = rb at *; obtain ⟨L7, K7, z7⟩ := H7.out.look; go_wp2_with (refine bodyPost_ret (v := .agg #[.slice A2 rd.length c2, .int .i64 st, .int .i64 sn]) (by simp [results, Tryz.results16, go_sem, L7]) rfl ?_); rw [HR.out, HQ.out]; have S8 := (H7.out.set3 (u0 := .slice A2 rd.length c2) (u1 := .int .i64 st) (u2 := .int .i64 sn)).drop; rw [← HX.out.2.1] at S8; have hr := HRR.out; have e1 : d2 = (u.dev.act op l).1 := (by rw [← hr]); have e2 : (rd, st, sn) = (u.dev.act op l).2 := (by rw [← hr]); refine RetE.conv (r := (rd, st, sn)) e2 ⟨A2, c2, rfl, run_close (u := { u with after := u.after - 1, equip := false }) (op := op) (by rw [HX.out.2.1]; exact HX.out.2.2.1) HX.out.2.2.2 (List.getElem?_eq_some_iff.1 HX.out.1).1 (by rw [← e1]; exact S8)⟩
      · rw [if_neg ha] at hcmd
        have hp1 : ¬ 0 < z1 := by omega
        by_cases ht : 0 < u.times
        · rw [if_pos ht] at hcmd
          have HQ := Lib.hid hcmd
          have he1 : (oneCells db u).setIfInBounds 7 (.int .i64 (z2 - 1)) = oneCells db { u with times := u.times - 1 } := by
            have e : ((u.times - 1 : Nat) : Int) = z2 - 1 := by omega
            unfold oneCells; dsimp only; rw [e]; rfl
          have HS6 := Lib.hid ((H4.out.set (off := 7) (v := .int .i64 (z2 - 1)) he1).set (off := 8) (v := .bool true) (cs' := oneCells db { u with times := u.times - 1, equip := true }) rfl)
          have hp3 : 0 < z2 := by omega
          have hp4 : z2 ≤ 9223372036854775807 := by omega
          clear he1 hcmd ha ht hz1 hz2 b6 b7 L6
          go_wp2_with fail
          refine name_world (P := fun W => Calls _ _ _ W _) ?_
          intro we hwe
          have HW := Lib.hid (SL.cast hwe HS6.out)
          clear hwe
          refine (undo_any 0 (k := k) (u := { u with times := u.times - 1, equip := true }) HUK.out HW.out).mono ?_
          rintro e w2 ⟨rfl, S2⟩
          have H7 := Lib.hid S2
          clear S2
          go_wp2_with fail
          refine (scheck_any _ _).mono ?_
          rintro e w3 ⟨rfl, b3⟩
          have H8 := Lib.hid (H7.out.grow b3).s5
          clear b3
          generalize w.heap.size = rb at *
          obtain ⟨L7, K7, z7⟩ := H8.out.look
          go_wp2_with (refine bodyPost_ret (v := .agg #[.slice none 0 0, .int .i64 14, .int .i64 16]) (by simp [results, Tryz.results16, go_sem, L7]) rfl ?_)
          rw [HR.out, HQ.out]
          have S9 := (H8.out.set3 (u0 := .slice none 0 0) (u1 := .int .i64 14) (u2 := .int .i64 16)).drop
          rw [← HX.out.2.1] at S9
          have S10 := (one_close (u := UN.undo { u with times := u.times - 1, equip := true } 0) HX.out.2.2.2 (List.getElem?_eq_some_iff.1 HX.out.1).1 S9).b2
          refine RetE.of (set_close (s := ⟨usS.set i (UN.undo { u with times := u.times - 1, equip := true } 0), some i, false⟩) (by have := HX.out.2.1; have := HX.out.2.2.1; simp; omega) ?_)
          show SL W (cel x #[v, lastV bs (some i), .bool false] 72 :: rowS 70 1 v (usS.set i (UN.undo { u with times := u.times - 1, equip := true } 0)).length (ptrs bs) :: star (List.zipWith oneS bs (usS.set i (UN.undo { u with times := u.times - 1, equip := true } 0))) :: F) _
          rw [lastV_some HX.out.2.2.2, List.length_set]
          exact S10
        · rw [if_neg ht] at hcmd
          have HQ := Lib.hid hcmd
          have hp2 : ¬ 0 < z2 := by omega
          have HS6 := Lib.hid (H4.out.set (off := 8) (v := .bool false) (cs' := oneCells db { u with equip := false }) rfl)
          clear hcmd ha ht hz1 hz2 b6 b7
          have L65 : wd.cell? ⟨b, 5, none⟩ = some (.iface (devT u.dev) (.pointer (some ⟨db, 0, none⟩))) := L6 5; have hen := en_do u.dev; have hme := me_do u.dev ⟨db, 0, none⟩; clear L6; go_wp2_with fail; refine name_world (P := fun W => Calls _ _ _ W _) ?_; intro we hwe; have HW := Lib.hid (SL.cast hwe HS6.out); clear hwe; obtain ⟨r, hr⟩ : ∃ r, r = u.dev.act op l := ⟨_, rfl⟩; have HRR := Lib.hid hr; have HC := dev_do op A l c (fun w S => HD.out w S.drop.drop.drop.drop.drop) hz HUK.out hk HW.out.s1; rw [← hr] at HC; clear hr; obtain ⟨d2, rd, st, sn⟩ := r; dsimp only at HC; refine HC.mono ?_; clear HC; rintro e w2 ⟨A2, c2, rfl, S2⟩; dsimp only at S2 ⊢; have H7 := Lib.hid S2.s6; clear S2 hen hme; generalize w.heap.size = rb at *; obtain ⟨L7, K7, z7⟩ := H7.out.look; go_wp2_with (refine bodyPost_ret (v := .agg #[.slice A2 rd.length c2, .int .i64 st, .int .i64 sn]) (by simp [results, Tryz.results16, go_sem, L7]) rfl ?_); rw [HR.out, HQ.out]; have S8 := (H7.out.set3 (u0 := .slice A2 rd.length c2) (u1 := .int .i64 st) (u2 := .int .i64 sn)).drop; rw [← HX.out.2.1] at S8; have hr := HRR.out; have e1 : d2 = (u.dev.act op l).1 := (by rw [← hr]); have e2 : (rd, st, sn) = (u.dev.act op l).2 := (by rw [← hr]); refine RetE.conv (r := (rd, st, sn)) e2 ⟨A2, c2, rfl, run_close (u := { u with equip := false }) (op := op) (by rw [HX.out.2.1]; exact HX.out.2.2.1) HX.out.2.2.2 (List.getElem?_eq_some_iff.1 HX.out.1).1 (by rw [← e1]; exact S8)⟩
end
end Go.Proofs.YtfhpaehfihnjaaaGreat
