/- like: what the two units show is equal; what is shown may be spoilt. -/
import Derived.Test.YtbbokikjpabfkaaQNew
import Derived.Test.YtbbokikjpabfkaaWFull
namespace Go.Proofs.Ytbbokikjpabfkaa
open Go.RowKit

theorem bytes_eq (st : ByteArray) : (st == st) = true := by
  have h := bytes_ne st
  unfold bne at h
  simpa using h
def lens (bs : List Blk) : List Nat := bs.map fun b => b.data.length
theorem lens_len {bs : List Blk} {ls : List Nat} (h : lens bs = ls) : bs.length = ls.length := by rw [← h]; simp [lens]
theorem lens_get {bs : List Blk} {ls : List Nat} (h : lens bs = ls) {i : Nat} {b : Blk} (hb : bs[i]? = some b) : ls[i]? = some b.data.length := by
  rw [← h, lens, List.getElem?_map, hb]; rfl
theorem lens_mark (bs : List Blk) (i : Nat) (u : Bool) : lens (bs.modify i fun b => { b with mark := u }) = lens bs := by
  unfold lens
  apply List.ext_getElem?
  intro j
  simp only [List.getElem?_map, List.getElem?_modify]
  cases bs[j]? with
  | none => rfl
  | some b => simp only [Option.map_some]; split <;> rfl
theorem lens_data (bs : List Blk) (i k : Nat) (b : Blk) (hb : bs[i]? = some b) (x : UInt8) : lens (bs.set i { b with data := b.data.set k x }) = lens bs := by
  unfold lens
  apply List.ext_getElem?
  intro j
  simp only [List.getElem?_map, List.getElem?_set]
  by_cases hij : i = j
  · subst hij
    have hl : i < bs.length := by rw [List.getElem?_eq_some_iff] at hb; exact hb.1
    rw [if_pos rfl, if_pos hl, hb]
    simp
  · rw [if_neg hij]
section
variable {W w : World} {F : List SA}
/-- 'l[i].Data[k] = x' -/
theorem setdata {g n c i k : Nat} {bs : List Blk} {b : Blk} (S : SL W (blksS (.slice (some ⟨g, 0, none⟩) n c) bs :: F) w) (hn : n = bs.length) (hb : bs[i]? = some b) (hk : k < b.data.length) :
    ∃ gd cd, w.cell? ⟨g, i * 3 + 1, none⟩ = some (.slice (some ⟨gd, 0, none⟩) b.data.length cd) ∧ w.cell? ⟨gd, k, none⟩ = some (.int .u8 ((b.data[k]'hk).toNat : Int)) ∧ w.frozen? ⟨gd, k, none⟩ = false ∧
      ∀ x : UInt8, SL W (blksS (.slice (some ⟨g, 0, none⟩) n c) (bs.set i { b with data := b.data.set k x }) :: F) (w.setCell ⟨gd, k, none⟩ (.int .u8 (x.toNat : Int))) := by
  subst hn
  obtain ⟨g', ps, A4, c4, hA, hps, hpp, S0⟩ := blk_open S hb
  injection hA with hA; injection hA with hA; subst hA
  have k1 := (blk_cells S0 hpp).2.1
  have hil : i < ps.length := by rw [List.getElem?_eq_some_iff] at hpp; exact hpp.1
  have S1 := S0.s1.take (i := i) (P := datS (.slice A4 b.data.length c4, b)) (by rw [List.getElem?_map, hpp]; rfl)
  obtain ⟨gd, cap, cur, hv, h1, h2, h3, h4, S2⟩ := SL.rowCel S1 (by dsimp only; omega)
  dsimp only at hv h1 h3 h4
  injection hv with hA _ hc
  subst hA; subst hc
  rw [Nat.mul_one] at h3 h4
  obtain ⟨L, K, z⟩ := S2.look
  have hcur : cur[k]? = some (.int .u8 ((b.data[k]'hk).toNat : Int)) := by
    have h5 := byteCells_get b.data k hk
    rw [← h4, List.getElem?_take, if_pos hk, Array.getElem?_toList] at h5
    exact h5
  refine ⟨gd, c4, k1, by rw [L, hcur], K _, fun x => ?_⟩
  have S3 := S2.set (off := k) (v := .int .u8 (x.toNat : Int)) rfl
  have e1 : Lib.byteCells (b.data.set k x) = (Lib.byteCells b.data).set k (.int .u8 (x.toNat : Int)) := by simp [Lib.byteCells, List.map_set]
  have S4 : SL W (datS (.slice (some ⟨gd, 0, none⟩) b.data.length c4, { b with data := b.data.set k x }) :: _) _ := SL.head S3 (by
    have hx := rowS_pts (e := 5) (size := 1) (n := b.data.length) (x := gd) (xs := Lib.byteCells (b.data.set k x)) h1 h2 (cur := cur.setIfInBounds k (.int .u8 (x.toNat : Int))) (by simp [h3]) (by
      rw [Nat.mul_one, Array.toList_setIfInBounds, List.take_set, h4, e1])
    intro h p
    have := hx h p
    unfold datS
    dsimp only
    rw [List.length_set]
    exact this)
  have hp2 : ps.map datS = (ps.map datS) := rfl
  have S5 := SL.put S4 (by simpa using hil)
  have e2 : (ps.map datS).set i (datS (.slice (some ⟨gd, 0, none⟩) b.data.length c4, { b with data := b.data.set k x })) = (ps.set i (.slice (some ⟨gd, 0, none⟩) b.data.length c4, { b with data := b.data.set k x })).map datS := by rw [List.map_set]
  rw [e2] at S5
  have e3 : (ps.set i (.slice (some ⟨gd, 0, none⟩) b.data.length c4, { b with data := b.data.set k x })).flatMap blkCells = ps.flatMap blkCells := by
    have hf : ∀ (ps : List BV) (i : Nat) (p p' : BV), ps[i]? = some p → blkCells p' = blkCells p → (ps.set i p').flatMap blkCells = ps.flatMap blkCells := by
      intro ps
      induction ps with
      | nil => intro i p p' h _; simp at h
      | cons q ps ih =>
        intro i p p' h e
        cases i with
        | zero => simp at h; subst h; simp [e]
        | succ i => simp only [List.set_cons_succ, List.flatMap_cons]; rw [ih i p p' (by simpa using h) e]
    exact hf ps i _ _ hpp rfl
  have S6 := S5.s1
  rw [← e3] at S6
  refine blk_close ?_ (by simp) S6
  rw [List.map_set, hps]
theorem blk_addr {A : Option Addr} {n c i : Nat} {bs : List Blk} {b : Blk} (S : SL W (blksS (.slice A n c) bs :: F) w) (hn : n = bs.length) (hb : bs[i]? = some b) : ∃ g A5 c5, A = some ⟨g, 0, none⟩ ∧ w.cell? ⟨g, i * 3 + 1, none⟩ = some (.slice A5 b.data.length c5) := by
  subst hn
  obtain ⟨g, ps, A4, c4, hA, hps, hpp, S0⟩ := blk_open S hb
  exact ⟨g, A4, c4, hA, (blk_cells S0 hpp).2.1⟩
theorem lens_some {bs bs' : List Blk} (h : lens bs' = lens bs) {i : Nat} (hi : i < bs.length) : ∃ b b', bs[i]? = some b ∧ bs'[i]? = some b' ∧ b'.data.length = b.data.length := by
  have hl := lens_len h
  simp only [lens, List.length_map] at hl
  refine ⟨bs[i], bs'[i]'(by omega), List.getElem?_eq_getElem hi, List.getElem?_eq_getElem (by omega), ?_⟩
  have h1 := lens_get h (List.getElem?_eq_getElem (show i < bs'.length by omega))
  have h2 := lens_get (rfl : lens bs = lens bs) (List.getElem?_eq_getElem hi)
  rw [h2] at h1
  injection h1 with h1
  exact h1.symm
variable {tb qb : Nat} {nm : ByteArray} {s : TP}
set_option maxRecDepth 100000 in
set_option maxHeartbeats 16000000 in
theorem like_any (S : SL W (tapeS tb nm s :: qS qb nm s :: F) w) (ok : s.ok) :
    Calls Try.prog 23 #[.pointer (some ⟨tb, 0, none⟩), .pointer (some ⟨qb, 0, none⟩)] w fun e w' => e = .returned (.bool true) ∧ SL W (tapeS tb nm s :: qS qb nm s :: F) w' := by
  have HBK := Lib.hid (blocks_any S ok.fit)
  have HOK := Lib.hid ok
  have hn := ok.len
  have hn2 : s.bs.length ≤ 1048576 := by omega
  have hd : ∀ b ∈ s.bs, b.data.length ≤ 1024 := ok.data
  clear S ok
  go_enter Try.func23, Try.ntmps23
  go_wp2_with ((with_reducible refine HBK.out.mono ?_); rintro e w2 ⟨v2, rfl, S2⟩; obtain ⟨A, c, rfl, _, _⟩ := blksS_slice S2; have H2 := Lib.hid S2; clear S2)
  obtain ⟨q, hq, S3⟩ := qS_open H2.out.s2
  obtain ⟨qv, qvo, qwr, qoa, qobs⟩ := q
  dsimp only at S3
  obtain ⟨A2, c2, rfl, _, _⟩ := blksS_slice S3.s1
  have HQ := Lib.hid hq
  -- [cel qb, blksS q, blksS old, blksS l, tapeS, F]
  have H3 := Lib.hid S3
  clear S3 hq H2 HBK
  have tb1 : ((s.pos : Int) == (s.pos : Int)) = true := by simp
  have tb2 : (s.loaded == s.loaded) = true := by simp
  have tb3 : (nm == nm) = true := bytes_eq nm
  refine wp_region_quiet (C := SL W _) (by kernel_rfl) (by kernel_rfl) H3.out.drew ?_
  (repeat (refine wpQuiet_step (fun K hK => ?_); go_simp; first | (refine hK _ ?_; clear hK K) | (refine ⟨_, fun _ _ => rfl, hK _ ?_⟩; clear hK K) | (refine ⟨_, fun wx hx => (rsame_any A A2 s.bs c c2 hx (fun w S => blksS_at S.s3) (fun w S => blksS_at S.s1) (by unfold maxLen; omega) (fun b hb => by have := hd b hb; omega)), hK _ ?_⟩; clear hK K) | (refine ⟨_, fun wx hx => (at_any (SL.s4 hx)).mono (fun e w' h => ⟨h.1, h.2.b4⟩), hK _ ?_⟩; clear hK K) | (refine ⟨_, fun wx hx => (loaded_any (SL.s4 hx)).mono (fun e w' h => ⟨h.1, h.2.b4⟩), hK _ ?_⟩; clear hK K) | (refine ⟨_, fun wx hx => (serial_any (SL.s4 hx)).mono (fun e w' h => ⟨h.1, h.2.b4⟩), hK _ ?_⟩; clear hK K) | (refine ⟨_, fun wx S => (by obtain ⟨f3, f4, f5⟩ := S.look; unfold qcells at f3; go_simp; rfl), hK _ ?_⟩; clear hK K)))
  refine wpQuiet_nil ?_
  intro wq hwq
  have H4 := Lib.hid (SL.s3 hwq)
  clear hwq H3
  go_wp2_with fail
  generalize hG : cel qb _ _ :: _ = G at H4
  have HG := Lib.hid hG
  clear hG
  go_loopw [7] (fun i wr => ∃ (k : Nat) (bs' : List Blk), k ≤ s.bs.length ∧ i = .int .i64 k ∧ lens bs' = lens s.bs ∧ SL W (blksS (.slice A s.bs.length c) bs' :: G) wr) (fun i _ => s.bs.length - (intOf i).toNat)
  case atStart => exact ⟨0, _, Nat.zero_le _, rfl, rfl, H4.out⟩
  case round =>
    obtain ⟨k, bs', hk, rfl, hls, S1⟩ := hrel
    have HL := Lib.hid hls
    have H5 := Lib.hid S1
    clear S1 hls H4
    by_cases hlt : k < s.bs.length
    · obtain ⟨b0, b, hb0, hb, hbl⟩ := lens_some HL.out hlt
      have hd0 : b0.data.length ≤ 1024 := hd b0 (List.mem_of_getElem? hb0)
      have hlen : s.bs.length = bs'.length := by have h := lens_len HL.out; simp only [lens, List.length_map] at h; exact h.symm
      obtain ⟨g, A5, c5, rfl, _⟩ := blk_addr H5.out hlen hb
      obtain ⟨q0, q1, S2⟩ := setmark H5.out hlen hb (!b.mark)
      have HL2 := Lib.hid ((lens_mark bs' k (!b.mark)).trans HL.out)
      have H6 := Lib.hid S2
      have HB0 := Lib.hid hb0
      clear S2 hb hb0 hbl H5 HL hlen
      go_wp2_with fail
      generalize (bs'.modify k fun b_1 => { b_1 with mark := !b.mark }) = bs2 at *
      clear q0 q1
      refine name_world (P := Code.wp _ _ _ _) ?_
      intro wo hwo
      rw [← hwo] at H6
      clear hwo
      go_loopw [8] (fun j wx => ∃ (i : Nat) (bs3 : List Blk), i ≤ b0.data.length ∧ j = .int .i64 i ∧ lens bs3 = lens s.bs ∧ SL W (blksS (.slice (some ⟨g, 0, none⟩) s.bs.length c) bs3 :: G) wx) (fun j _ => b0.data.length - (intOf j).toNat)
      case atStart => exact ⟨0, _, Nat.zero_le _, rfl, HL2.out, H6.out⟩
      case round =>
        obtain ⟨i, bs3, hi, rfl, hls, S3⟩ := hrel
        have HL3 := Lib.hid hls
        have H7 := Lib.hid S3
        clear S3 hls H6 HL2
        obtain ⟨b1, b3, hb1, hb3, hbl⟩ := lens_some HL3.out hlt
        obtain rfl : b1 = b0 := by have h := HB0.out; rw [hb1] at h; injection h
        have hlen : s.bs.length = bs3.length := by have h := lens_len HL3.out; simp only [lens, List.length_map] at h; exact h.symm
        by_cases hil : i < b1.data.length
        · obtain ⟨gd, cd, p0, p1, p2, hS⟩ := setdata (k := i) H7.out hlen hb3 (by omega)
          have hdl := lens_data bs3 k i b3 hb3
          have hS := hS ((b3.data[i]'(by omega)) + 1)
          have HL4 := Lib.hid ((hdl ((b3.data[i]'(by omega)) + 1)).trans HL3.out)
          generalize b3.data[i]'(by omega) = x at *
          have hx1 := x.toNat_lt
          have hwrap : ((x.toNat : Int) + 1) % 256 = ((x + 1).toNat : Int) := by
            rw [UInt8.toNat_add]
            rfl
          rw [hbl] at p0
          generalize x + 1 = y at *
          have H8 := Lib.hid hS
          clear hS hdl hb3 H7
          go_wp2
          go_roundw
          case rel => exact ⟨i + 1, _, by omega, by go_num, HL4.out, H8.out⟩
          case measure => simp [intOf]; omega
        · obtain ⟨g', A6, c6, hg, p0⟩ := blk_addr H7.out hlen hb3
          injection hg with hg; injection hg with hg; subst hg
          rw [hbl] at p0
          go_wp2
          go_roundw
          case rel => exact ⟨k + 1, bs3, by omega, by go_num, HL3.out, H7.out⟩
          case measure => simp [intOf]; omega
    · obtain rfl : k = s.bs.length := by omega
      go_wp2
      go_ret
      refine ⟨rfl, ?_⟩
      have h := H5.out.drop
      rw [← HG.out] at h
      exact (qS_close HQ.out h).s1
end
end Go.Proofs.Ytbbokikjpabfkaa
