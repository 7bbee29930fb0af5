/- TRCopy, TWorks, TFrame, TArgs, TLaw, TQ. -/
import Derived.Test.YtfhpaehfihnjaaaGreatTD
import Derived.Test.YtfhpaehfihnjaaaGreatRows
import Derived.Test.YtfhpaehfihnjaaaGreatKitA
import Derived.ProofKit
import Derived.OpenShut
import Derived.ShutString
import Derived.ChangeOld
import Derived.Test.YtfhpaehfihnjaaaGreatTA
import Derived.Deep.Fields
import Derived.Deep.Slices
set_option maxRecDepth 100000
namespace Go.Proofs.YtfhpaehfihnjaaaGreat.T
open Go.RowKit
theorem bytes_ne (st : ByteArray) : (st != st) = false := by
  cases st with | mk d =>
  show (!(ByteArray.beq ⟨d⟩ ⟨d⟩)) = false
  unfold ByteArray.beq
  simp
section
variable {W w : World} {F : List SA}
set_option maxHeartbeats 4000000 in
theorem rcopy_any (A : Option Addr) (bs : List Blk) (c : Nat) (S : SL W F w) (hr : BlksRd W F A bs) (hf : Fit bs) :
    Calls Tryz.prog 94 #[.slice A bs.length c] w fun e w' => ∃ v, e = .returned v ∧ SL W (blksS v bs :: F) w' := by
  have HR := Lib.hid hr
  have HF := Lib.hid hf
  have HS := Lib.hid S
  clear S hr hf
  go_enter Tryz.func94, Tryz.ntmps94
  go_wp2
  go_loopw [3, 4] (fun o i wr => ∃ (k : Nat) (A3 : Option Addr) (c3 : Nat) (ps : List BV), k ≤ bs.length ∧ i = .int .i64 k ∧ o = .slice A3 k c3 ∧ ps.length = k ∧ ps.map Prod.snd = bs.take k ∧
    SL W (rowT 66 3 (.slice A3 k c3) k (ps.flatMap blkCells) :: star (ps.map datS) :: F) wr) (fun _ i _ => bs.length - (intOf i).toNat)
  case atStart => exact ⟨0, none, 0, [], Nat.zero_le _, rfl, rfl, rfl, rfl, HS.out.empty.nilT _ _⟩
  case round =>
    obtain ⟨k, A3, c3, ps, hk, rfl, rfl, hp1, hp2, S1⟩ := hrel
    have H1 := Lib.hid S1
    have HP := Lib.hid (And.intro hp1 hp2)
    clear S1 HS hp1 hp2
    have hle := HF.out.1
    by_cases hlt : k < bs.length
    · have hb : bs[k]? = some bs[k] := by simp [hlt]
      have hbl := HF.out.2 bs[k] (List.getElem_mem hlt)
      generalize bs[k] = b at hb hbl
      obtain ⟨g, off, A4, c4, hA, k0, k1, k2, a4, h4, h5⟩ := HR.out wr H1.out.drop.drop k b hb
      subst hA
      have HA4 := Lib.hid a4
      have HN : Hid (SL wr (rowS 5 1 (.slice (some ⟨wr.heap.size + 1, 0, none⟩) 0 0) 0 [] :: cel wr.heap.size #[.bool b.mark, .slice A4 b.data.length c4, .bool b.bad] 66 :: []) ((wr.alloc (.cells #[.bool b.mark, .slice A4 b.data.length c4, .bool b.bad] 66)).alloc (.cells #[] 5))) := Lib.hid (by
        have h := ((SL.start wr).allocC #[.bool b.mark, .slice A4 b.data.length c4, .bool b.bad] 66).lit #[] 5 1 0 rfl (by decide)
        rw [World.size_alloc] at h
        exact h)
      have HB := Lib.hid hb
      have hg : g < wr.heap.size := World.block_lt_of_cell? _ _ k0
      have HA5 : Hid (At ((wr.alloc (.cells #[.bool b.mark, .slice A4 b.data.length c4, .bool b.bad] 66)).alloc (.cells #[] 5)) wr.heap.size A4 (Lib.byteCells b.data)) := Lib.hid ((HA4.out.alloc (Nat.le_refl _) _).alloc (by rw [World.size_alloc]; omega) _)
      clear a4 hb
      go_wp2_with (first
        | (at_builtin; refine wpList_appS rfl _ _ _ rfl bElem _ 0 [] rfl HN.out wr.heap.size A4 b.data.length c4 (Lib.byteCells b.data) rfl HA5.out (by rw [byteCells_len, Nat.mul_one]) (byteCells_one _) (by unfold maxLen; omega) (by omega) ?_
           intro A2 c2 w2 S2
           rw [Nat.zero_add, List.nil_append] at S2
           have H2 := Lib.hid (H1.out.join S2)
           clear S2 HN HA5 k0 k1 k2 hg
           rw [Nat.zero_add]
           generalize wr.heap.size = yb at *
           obtain ⟨L, K, z⟩ := H2.out.s1.look
           have HW : Hid (SL W (rowT 66 3 (.slice A3 k c3) k (ps.flatMap blkCells) :: rowS 5 1 (.slice A2 b.data.length c2) b.data.length (Lib.byteCells b.data) :: star (ps.map datS) :: F) (w2.setCell ⟨yb, 1, none⟩ (.slice A2 b.data.length c2))) := Lib.hid (SL.set (off := 1) (v := .slice A2 b.data.length c2) (cs' := #[.bool b.mark, .slice A2 b.data.length c2, .bool b.bad]) H2.out.s1 rfl).drop.s1)
        | (at_builtin; refine wpList_pushT rfl _ _ _ rfl blkElem (w2.setCell ⟨yb, 1, none⟩ (.slice A2 b.data.length c2)) [.bool b.mark, .slice A2 b.data.length c2, .bool b.bad] 1 rfl rfl (by simp [Value.oneCell']) _ k _ rfl (by rw [World.size_setCell]; rfl) HW.out (by have := HF.out.1; unfold maxLen; omega) (by have := HF.out.1; omega) ?_
           intro A6 c6 w6 S6
           have H6 := Lib.hid S6
           clear S6 H2 L K z HW))
      go_roundw
      case rel =>
        refine ⟨k + 1, A6, c6, ps ++ [(.slice A2 b.data.length c2, b)], by omega, by go_num, rfl, by simp [HP.out.1], by rw [List.take_add_one, HB.out]; simp [HP.out.2], ?_⟩
        simp only [List.map_append, List.map_cons, List.map_nil, List.flatMap_append, List.flatMap_cons, List.flatMap_nil, List.append_nil]
        exact (SL.snoc (P := datS (.slice A2 b.data.length c2, b)) H6.out.b2).s1
      case measure => simp [intOf]; omega
    · obtain rfl : k = bs.length := by omega
      go_wp2
      go_ret
      refine ⟨_, rfl, ?_⟩
      have e1 : ps.map Prod.snd = bs := by rw [HP.out.2]; simp
      rw [← HP.out.1] at H1
      have h := blksS_close (v := .slice A3 ps.length c3) H1.out
      rw [e1, HP.out.1] at h
      exact h
end
end Go.Proofs.YtfhpaehfihnjaaaGreat.T
namespace Go.Proofs.YtfhpaehfihnjaaaGreat.T
open Go.RowKit
abbrev nmV : ByteArray := ⟨#[86, 79, 76, 48, 48, 49]⟩
def bsV : List Blk := [⟨[1, 2, 3], false, false⟩, ⟨[4], false, true⟩, ⟨[], true, false⟩, ⟨[5, 6], false, false⟩]
theorem v1 : tpDo (freshTP bsV) 2 [] = (⟨bsV, 1, true, 0, none⟩, [1, 2, 3], 12, 0) := rfl
theorem v2 : tpDo ⟨bsV, 1, true, 0, none⟩ 2 [] = (⟨bsV, 2, true, 8, none⟩, [], 14, 8) := rfl
theorem v3 : tpDo ⟨bsV, 2, true, 8, none⟩ 2 [] = (⟨bsV, 3, true, 8, none⟩, [], 13, 0) := rfl
theorem v4 : tpDo ⟨bsV, 3, true, 8, none⟩ 2 [] = (⟨bsV, 4, true, 8, none⟩, [5, 6], 12, 0) := rfl
theorem v5 : tpDo ⟨bsV, 4, true, 8, none⟩ 2 [] = (⟨bsV, 4, true, 2, none⟩, [], 14, 2) := rfl
theorem v6 : tpPower ⟨bsV, 4, true, 2, none⟩ = ⟨bsV, 0, true, 0, none⟩ := rfl
theorem v7 : tpDo ⟨bsV, 0, true, 0, none⟩ 1 [7] = (⟨[⟨[7], false, false⟩], 1, true, 0, some (0, bsV, true)⟩, [], 12, 0) := rfl
theorem v8 : tpUndo ⟨[⟨[7], false, false⟩], 1, true, 0, some (0, bsV, true)⟩ 2 = (⟨[⟨[7], false, true⟩], 1, true, 0, none⟩, true) := rfl
theorem v9 : tpUndo ⟨[⟨[7], false, true⟩], 1, true, 0, none⟩ 1 = (⟨[⟨[7], false, true⟩], 1, true, 0, none⟩, false) := rfl
theorem v0 : newErr nmV bsV = 0 := by kernel_rfl
section
variable {W w : World} {F : List SA}
theorem litV (S : SL W F w) : SL W (blksS (.slice (some ⟨w.heap.size + 3, 0, none⟩) 4 4) bsV :: F) ((((w.alloc (.cells #[.int .u8 1, .int .u8 2, .int .u8 3] 5)).alloc (.cells #[.int .u8 4] 5)).alloc (.cells #[.int .u8 5, .int .u8 6] 5)).alloc
    (.cells #[.bool false, .slice (some ⟨w.heap.size, 0, none⟩) 3 3, .bool false, .bool false, .slice (some ⟨w.heap.size + 1, 0, none⟩) 1 1, .bool true, .bool true, .slice none 0 0, .bool false, .bool false, .slice (some ⟨w.heap.size + 2, 0, none⟩) 2 2, .bool false] 66)) := by
  have h := (((S.lit #[.int .u8 1, .int .u8 2, .int .u8 3] 5 1 3 rfl (by decide)).lit #[.int .u8 4] 5 1 1 rfl (by decide)).lit #[.int .u8 5, .int .u8 6] 5 1 2 rfl (by decide)).lit #[.bool false, .slice (some ⟨w.heap.size, 0, none⟩) 3 3, .bool false, .bool false, .slice (some ⟨w.heap.size + 1, 0, none⟩) 1 1, .bool true, .bool true, .slice none 0 0, .bool false, .bool false, .slice (some ⟨w.heap.size + 2, 0, none⟩) 2 2, .bool false] 66 3 4 rfl (by decide)
  simp only [World.size_alloc] at h
  -- [blocks, 56, 4, 123, F]
  have h1 := h.s3.s3.s3.s3
  have h2 := ((SL.empty h.s3).s1.snoc (L := []) (P := datS (.slice (some ⟨w.heap.size, 0, none⟩) 3 3, ⟨[1, 2, 3], false, false⟩))).s3.snoc (P := datS (.slice (some ⟨w.heap.size + 1, 0, none⟩) 1 1, ⟨[4], false, true⟩))
  have h3 := (SL.nil h2 5 1).snoc (P := datS (.slice none 0 0, ⟨[], true, false⟩))
  have h4 := h3.s2.snoc (P := datS (.slice (some ⟨w.heap.size + 2, 0, none⟩) 2 2, ⟨[5, 6], false, false⟩))
  exact blksS_close (ps := [(.slice (some ⟨w.heap.size, 0, none⟩) 3 3, ⟨[1, 2, 3], false, false⟩), (.slice (some ⟨w.heap.size + 1, 0, none⟩) 1 1, ⟨[4], false, true⟩), (.slice none 0 0, ⟨[], true, false⟩), (.slice (some ⟨w.heap.size + 2, 0, none⟩) 2 2, ⟨[5, 6], false, false⟩)]) (h4.s1.head rowT_of)
theorem lit7 (S : SL W F w) : SL W (blksS (.slice (some ⟨w.heap.size + 1, 0, none⟩) 1 1) [⟨[7], false, true⟩] :: F) ((w.alloc (.cells #[.int .u8 7] 5)).alloc (.cells #[.bool false, .slice (some ⟨w.heap.size, 0, none⟩) 1 1, .bool true] 66)) := by
  have h := (S.lit #[.int .u8 7] 5 1 1 rfl (by decide)).lit #[.bool false, .slice (some ⟨w.heap.size, 0, none⟩) 1 1, .bool true] 66 3 1 rfl (by decide)
  simp only [World.size_alloc] at h
  have h2 := (SL.empty h).s2.snoc (L := []) (P := datS (.slice (some ⟨w.heap.size, 0, none⟩) 1 1, ⟨[7], false, true⟩))
  exact blksS_close (ps := [(.slice (some ⟨w.heap.size, 0, none⟩) 1 1, ⟨[7], false, true⟩)]) (h2.s1.head rowT_of)
theorem bsV_fit : ∀ b ∈ bsV, b.data.length ≤ 1073741824 := by
  intro b hb
  simp only [bsV, List.mem_cons, List.not_mem_nil, or_false] at hb
  rcases hb with rfl | rfl | rfl | rfl <;> decide
theorem bsV_fit2 : ∀ b ∈ [(⟨[7], false, true⟩ : Blk)], b.data.length ≤ 1073741824 := by
  intro b hb
  simp only [List.mem_cons, List.not_mem_nil, or_false] at hb
  subst hb; decide
theorem bsV_ok {n se : Nat} (hn : n ≤ 4) (hs : se < 256) : (⟨bsV, n, true, se, none⟩ : TP).ok :=
  ⟨hn, (by decide : bsV.length ≤ 4096), fun b hb => by simp only [bsV, List.mem_cons, List.not_mem_nil, or_false] at hb; rcases hb with rfl | rfl | rfl | rfl <;> decide, hs, fun a o b e => by cases e⟩
theorem v7_ok : (⟨[⟨[7], false, false⟩], 1, true, 0, some (0, bsV, true)⟩ : TP).ok := by
  have h := (do_ok ⟨bsV, 0, true, 0, none⟩ 1 [7] (bsV_ok (by decide) (by decide))).1
  rw [v7] at h
  exact h
theorem v8_ok : (⟨[⟨[7], false, true⟩], 1, true, 0, none⟩ : TP).ok := by
  have h := undo_ok _ 2 v7_ok
  rw [v8] at h
  exact h
theorem do_eq {tb : Nat} {name : ByteArray} {s s2 : TP} {r : Rep} (op : Int) (A : Option Addr) (l : List UInt8) (c : Nat) (e : tpDo s op l = (s2, r)) (hn : name.toList.isEmpty = false) (ok : s.ok) (S : SL W (tapeS tb name s :: F) w) (hr : Rd W F A (Lib.byteCells l)) (hz : l.length ≤ 1073741824) :
    Calls Tryz.prog 174 #[.pointer (some ⟨tb, 0, none⟩), .int .i64 op, .slice A l.length c] w fun e w' => RetS W (tapeS tb name s2 :: F) r e w' := by
  have h := do_any op A l c hn ok S hr hz
  rw [e] at h
  exact h
theorem undo_eq {tb : Nat} {name : ByteArray} {s s2 : TP} {q : Bool} (how : Int) (e : tpUndo s how = (s2, q)) (ok : s.ok) (S : SL W (tapeS tb name s :: F) w) :
    Calls Tryz.prog 176 #[.pointer (some ⟨tb, 0, none⟩), .int .i64 how] w fun e w' => e = .returned (.bool q) ∧ SL W (tapeS tb name s2 :: F) w' := by
  have h := undo_any how S ok
  rw [e] at h
  exact h
theorem new_eq (s : ByteArray) (A : Option Addr) (bs : List Blk) (c : Nat) (e : newErr s bs = 0) (S : SL W F w) (hr : BlksRd W F A bs) (hs : s.size ≤ 140737488355328) (hb : bs.length ≤ maxLen) (hd : ∀ b ∈ bs, b.data.length ≤ 1073741824) :
    Calls Tryz.prog 60 #[.string s, .slice A bs.length c] w fun e w' => ∃ tb, e = .returned (.tuple #[.pointer (some ⟨tb, 0, none⟩), .int .i64 0]) ∧ SL W (tapeS tb s (freshTP bs) :: F) w' :=
  (new_any s A bs c S hr hs hb hd).mono fun e' w' h => by
    unfold NewS at h
    rw [if_pos e] at h
    exact h
end
end Go.Proofs.YtfhpaehfihnjaaaGreat.T
namespace Go.Proofs.YtfhpaehfihnjaaaGreat.T
open Go.ChangeShapes Go.WideShapes Go.ChangeAt Go.RowKit
theorem own : ownKnob Tryz.prog.godebug = none := by kernel_rfl
theorem laidOut : laidOutB Tryz.prog = true := by kernel_rfl
theorem u8_of_wf {n : Int} (h : (Lit.int .u8 n).wf = true) : ∃ c : UInt8, n = (c.toNat : Int) := by
  have hb := bounds_u8 h
  refine ⟨UInt8.ofNat n.toNat, ?_⟩
  rw [UInt8.toNat_ofNat']
  omega
theorem bytes_of_nums : ∀ (zs : List Int), (∀ n ∈ zs, (Lit.int .u8 n).wf = true) → ∃ l : List UInt8, zs.map (Value.int .u8) = Lib.byteCells l
  | [], _ => ⟨[], rfl⟩
  | z :: zs, h => by
    obtain ⟨c, hc⟩ := u8_of_wf (h z (by simp))
    obtain ⟨l, hl⟩ := bytes_of_nums zs (fun n hn => h n (by simp [hn]))
    exact ⟨c :: l, by rw [List.map_cons, hl, hc]; rfl⟩
theorem open_bytes {H : Type} {enc : TypeId × Value → H} {P : Program} {w : World} {base : Nat} {spare : Nat → Bool} {held : Bool} {fuel : Nat} {t e : TypeId} {x : DataW H × List MemPlace} {a : Option Addr} {len cap : Nat}
    (ht : P.underlying t = some (.slice e)) (he : P.underlying e = some (.int .u8)) (hc : P.cellsOf e = 1) (h : DataW.trod enc P w base spare held fuel t [.slice a len cap] = some x) :
    ∃ l : List UInt8, len = l.length ∧ len ≤ cap ∧ cap ≤ maxLen ∧ At w w.heap.size a (Lib.byteCells l) := by
  rcases open_ints ht he hc h with ⟨hcs, _⟩ | ⟨y, l, c, zs, hcs, _, hl, hm, hz, _, hcell, hwz⟩
  · simp at hcs
    obtain ⟨rfl, rfl, rfl⟩ := hcs
    exact ⟨[], rfl, Nat.le_refl _, Nat.zero_le _, At.nil_⟩
  · simp at hcs
    obtain ⟨rfl, rfl, rfl⟩ := hcs
    have hzl : len ≤ zs.length := by rw [hz]; split <;> omega
    obtain ⟨l, hbl⟩ := bytes_of_nums (zs.take len) (fun n hn => hwz n (List.mem_of_mem_take hn))
    have hll : len = l.length := by
      have := congrArg List.length hbl
      rw [byteCells_len, List.length_map, List.length_take] at this
      omega
    refine ⟨l, hll, hl, hm, fun hne => ?_⟩
    have hpos : 0 < len := by
      rcases Nat.eq_zero_or_pos len with h0 | h0
      · exact absurd (List.eq_nil_of_length_eq_zero (by rw [byteCells_len]; omega)) hne
      · exact h0
    have h0 := hcell 0 (by omega)
    have hspot : y.spot = none := World.cell?_spot (a := y) (by simpa [Addr.add] using h0)
    obtain ⟨b, off, spot⟩ := y
    have hspot' : spot = none := hspot
    subst hspot'
    refine ⟨b, off, rfl, World.block_lt_of_cell? w ⟨b, off, none⟩ (by simpa [Addr.add] using h0), fun j u hu => ?_⟩
    rw [← hbl, List.getElem?_map, List.getElem?_take] at hu
    split at hu
    · rename_i hj
      have hc1 := hcell j (by omega)
      rw [add_none] at hc1
      rw [hc1, ← hu, List.getD_eq_getElem?_getD, List.getElem?_eq_getElem (by omega)]
      rfl
    · simp at hu
end Go.Proofs.YtfhpaehfihnjaaaGreat.T
namespace Go.Proofs.YtfhpaehfihnjaaaGreat.T
open Go.ChangeShapes Go.WideShapes Go.ChangeAt Go.RowKit Go.Deep
abbrev CardV := Option Addr × List UInt8 × Nat
def cardV (x : CardV) : Value := .slice x.1 x.2.1.length x.2.2
def CardV.good (w : World) (B : Nat) (x : CardV) : Prop := At w B x.1 (Lib.byteCells x.2.1) ∧ x.2.1.length ≤ x.2.2 ∧ x.2.2 ≤ maxLen
theorem CardV.good.below {w w' : World} {B : Nat} {x : CardV} (h : CardV.good w B x) (hb : Below B w w') : CardV.good w' B x := ⟨h.1.below hb, h.2⟩
structure ActV where
  kind : Int
  op : Int
  data : CardV
  how : Int
def actCells (a : ActV) : List Value := [.int .i64 a.kind, .int .i64 a.op, cardV a.data, .int .i64 a.how]
def ActV.good (w : World) (B : Nat) (a : ActV) : Prop := CardV.good w B a.data ∧ (Lit.int .i64 a.kind).wf = true ∧ (Lit.int .i64 a.op).wf = true ∧ (Lit.int .i64 a.how).wf = true
theorem ActV.good.below {w w' : World} {B : Nat} {a : ActV} (h : ActV.good w B a) (hb : Below B w w') : ActV.good w' B a := ⟨h.1.below hb, h.2⟩
instance : Inhabited ActV := ⟨⟨0, 0, (none, [], 0), 0⟩⟩
structure BlkV where
  mark : Bool
  data : CardV
  bad : Bool
def BlkV.blk (b : BlkV) : Blk := ⟨b.data.2.1, b.mark, b.bad⟩
def blkVCells (b : BlkV) : List Value := [.bool b.mark, cardV b.data, .bool b.bad]
instance : Inhabited BlkV := ⟨⟨false, (none, [], 0), false⟩⟩
theorem at_of_cells {w : World} {y : Addr} {us : List Value} (h : ∀ j, j < us.length → w.cell? (y.add j) = us[j]?) : At w w.heap.size (some y) us := by
  intro hne
  have hpos : 0 < us.length := List.length_pos_iff.2 hne
  have h0 := h 0 hpos
  rw [List.getElem?_eq_getElem hpos] at h0
  have hspot : y.spot = none := World.cell?_spot (a := y) (by simpa [Addr.add] using h0)
  obtain ⟨b, off, spot⟩ := y
  have hspot' : spot = none := hspot
  subst hspot'
  refine ⟨b, off, rfl, World.block_lt_of_cell? w ⟨b, off, none⟩ (by simpa [Addr.add] using h0), fun j u hu => ?_⟩
  have hj : j < us.length := (List.getElem?_eq_some_iff.1 hu).1
  have := h j hj
  rw [add_none] at this
  rw [this, hu]
section
variable {H : Type} {enc : TypeId × Value → H} {P : Program} {w : World} {base : Nat} {spare : Nat → Bool} {held : Bool}
theorem open_card {fuel : Nat} {t e : TypeId} {v : Value} {x : DataW H × List MemPlace} (ht : P.underlying t = some (.slice e)) (he : P.underlying e = some (.int .u8)) (hc : P.cellsOf e = 1) (h : DataW.trod enc P w base spare held fuel t [v] = some x) :
    ∃ c : CardV, v = cardV c ∧ CardV.good w w.heap.size c := by
  have hv : ∃ a len cap, v = .slice a len cap := by
    rcases open_slice1 ht hc h with ⟨hcs, _⟩ | ⟨a, len, cap, _, _, _, _, _, hcs, _⟩
    · exact ⟨_, _, _, (List.cons.inj hcs).1⟩
    · exact ⟨_, _, _, (List.cons.inj hcs).1⟩
  obtain ⟨a, len, cap, rfl⟩ := hv
  obtain ⟨l, rfl, h1, h2, h3⟩ := open_bytes ht he hc h
  exact ⟨(a, l, cap), rfl, h3, h1, h2⟩
theorem open_cards {fuel : Nat} {t e b : TypeId} {v : Value} {x : DataW H × List MemPlace} (ht : P.underlying t = some (.slice e)) (hce : P.cellsOf e = 1) (he : P.underlying e = some (.slice b)) (hb : P.underlying b = some (.int .u8)) (hcb : P.cellsOf b = 1)
    (h : DataW.trod enc P w base spare held fuel t [v] = some x) :
    ∃ (a : Option Addr) (xs : List CardV) (cap : Nat), v = .slice a xs.length cap ∧ xs.length ≤ cap ∧ cap ≤ maxLen ∧ At w w.heap.size a (xs.map cardV) ∧ ∀ x ∈ xs, CardV.good w w.heap.size x := by
  rcases open_slice1 ht hce h with ⟨hcs, _⟩ | ⟨a, len, cap, m, n, V, D, Pl, hcs, _, hl, hm, hmm, _, hx⟩
  · exact ⟨none, [], 0, (List.cons.inj hcs).1, Nat.le_refl _, Nat.zero_le _, At.nil_, by simp⟩
  · have hlm : len ≤ m := by rw [hmm]; split <;> omega
    obtain ⟨f, hf⟩ := choose_lt (α := CardV) (n := len) (p := fun i c => V i = cardV c ∧ CardV.good w w.heap.size c) (fun i hi => by
      obtain ⟨_, h2⟩ := hx i (by omega)
      exact open_card he hb hcb h2)
    refine ⟨some a, (List.range len).map f, cap, by rw [(List.cons.inj hcs).1]; simp, by simpa using hl, hm, at_of_cells fun j hj => ?_, ?_⟩
    · simp only [List.length_map, List.length_range] at hj
      rw [(hx j (by omega)).1, (hf j hj).1]
      simp [hj]
    · intro x hx
      simp only [List.mem_map, List.mem_range] at hx
      obtain ⟨i, hi, rfl⟩ := hx
      exact (hf i hi).2
theorem list_3 {α : Type} {l : List α} (h : l.length = 3) : ∃ a b c, l = [a, b, c] := by
  match l, h with
  | [a, b, c], _ => exact ⟨a, b, c, rfl⟩
theorem list_4 {α : Type} {l : List α} (h : l.length = 4) : ∃ a b c d, l = [a, b, c, d] := by
  match l, h with
  | [a, b, c, d], _ => exact ⟨a, b, c, d, rfl⟩
theorem flat_get {α : Type} (f : α → List Value) (k : Nat) (hk : 0 < k) (hf : ∀ a, (f a).length = k) : ∀ (l : List α) (j : Nat), (l.flatMap f)[j]? = (l[j / k]?).bind fun a => (f a)[j % k]?
  | [], j => by simp
  | x :: l, j => by
    rw [List.flatMap_cons]
    by_cases hj : j < k
    · rw [List.getElem?_append_left (by rw [hf]; exact hj), Nat.div_eq_of_lt hj, Nat.mod_eq_of_lt hj]; rfl
    · rw [List.getElem?_append_right (by rw [hf]; omega), flat_get f k hk hf l, hf]
      obtain ⟨i, rfl⟩ : ∃ i, j = i + k := ⟨j - k, by omega⟩
      rw [Nat.add_sub_cancel, Nat.add_div_right _ hk, Nat.add_mod_right]
      rfl
theorem flat_len {α : Type} (f : α → List Value) (k : Nat) (hf : ∀ a, (f a).length = k) : ∀ l : List α, (l.flatMap f).length = l.length * k
  | [] => by simp
  | x :: l => by rw [List.flatMap_cons, List.length_append, hf, flat_len f k hf l, List.length_cons, Nat.add_mul]; omega
theorem open_blks {fuel : Nat} {t e : TypeId} {fs : Array Field} {t0 t1 t2 tb : TypeId} {v : Value} {x : DataW H × List MemPlace} (ht : P.underlying t = some (.slice e)) (he : P.underlying e = some (.struct fs)) (hc : P.cellsOf e = 3) (hone : oneCellFields P fs = true)
    (hf0 : ∃ f, fs[0]? = some f ∧ f.type = t0) (hf1 : ∃ f, fs[1]? = some f ∧ f.type = t1) (hf2 : ∃ f, fs[2]? = some f ∧ f.type = t2)
    (h0 : P.underlying t0 = some .bool) (h1 : P.underlying t1 = some (.slice tb)) (hb : P.underlying tb = some (.int .u8)) (hcb : P.cellsOf tb = 1) (h2 : P.underlying t2 = some .bool)
    (h : DataW.trod enc P w base spare held fuel t [v] = some x) :
    ∃ (a : Option Addr) (bs : List Blk) (cap : Nat), v = .slice a bs.length cap ∧ bs.length ≤ cap ∧ cap ≤ maxLen ∧ BlksAt w a bs := by
  rcases open_slice ht h with ⟨hcs, _⟩ | ⟨a, len, cap, m, n, D, Pl, hcs, _, hl, hm, hmm, _, hx⟩
  · exact ⟨none, [], 0, (List.cons.inj hcs).1, Nat.le_refl _, Nat.zero_le _, fun i b hb => by simp at hb⟩
  · have hlm : len ≤ m := by rw [hmm]; split <;> omega
    rw [hc] at hx
    obtain ⟨f, hf⟩ := choose_lt (α := BlkV) (n := len) (p := fun i c => w.cells? base (a.add (i * 3)) 3 = some (blkVCells c) ∧ CardV.good w w.heap.size c.data) (fun i hi => by
      obtain ⟨cs', h4, h5⟩ := hx i (by omega)
      obtain ⟨xs, n', _, _, hcl, hlen, hg⟩ := DataW.trod_struct he h5
      rw [hc] at hcl
      obtain ⟨u0, u1, u2, rfl⟩ := list_3 hcl
      obtain ⟨f0, e0, rfl⟩ := hf0
      obtain ⟨f1, e1, rfl⟩ := hf1
      obtain ⟨f2, e2, rfl⟩ := hf2
      have hfs : 3 ≤ fs.size := (Array.getElem?_eq_some_iff.1 e2).1
      have g0 := hg 0 f0 e0
      have g1 := hg 1 f1 e1
      have g2 := hg 2 f2 e2
      rw [(hone_of hone 0 f0 e0).1, (hone_of hone 0 f0 e0).2, List.getElem?_eq_getElem (by omega)] at g0
      rw [(hone_of hone 1 f1 e1).1, (hone_of hone 1 f1 e1).2, List.getElem?_eq_getElem (by omega)] at g1
      rw [(hone_of hone 2 f2 e2).1, (hone_of hone 2 f2 e2).2, List.getElem?_eq_getElem (by omega)] at g2
      simp only [List.drop_zero, List.drop_succ_cons, List.take_succ_cons, List.take_zero] at g0 g1 g2
      obtain ⟨z0, q0, _⟩ := DataW.trod_bool h0 g0
      obtain ⟨c1, rfl, G1⟩ := open_card h1 hb hcb g1
      obtain ⟨z2, q2, _⟩ := DataW.trod_bool h2 g2
      obtain rfl := (List.cons.inj q0).1
      obtain rfl := (List.cons.inj q2).1
      exact ⟨⟨z0, c1, z2⟩, h4, G1⟩)
    refine ⟨some a, ((List.range len).map f).map BlkV.blk, cap, by rw [(List.cons.inj hcs).1]; simp, by simpa using hl, hm, ?_⟩
    intro i b hb
    rw [List.getElem?_map, List.getElem?_map] at hb
    by_cases hi : i < len
    · rw [List.getElem?_range hi] at hb
      simp only [Option.map_some, Option.some.injEq] at hb
      subst hb
      obtain ⟨h4, G1⟩ := hf i hi
      have c0 := (World.cells?_some h4).2.2 0 (by omega)
      have c1 := (World.cells?_some h4).2.2 1 (by omega)
      have c2 := (World.cells?_some h4).2.2 2 (by omega)
      have hspot : a.spot = none := by
        have d0 := (World.cells?_some (hf 0 (by omega)).1).2.2 0 (by omega)
        exact World.cell?_spot (v := .bool (f 0).mark) (a := a) (by simpa [Addr.add, blkVCells] using d0)
      obtain ⟨g, off, spot⟩ := a
      have hspot' : spot = none := hspot
      subst hspot'
      rw [add_add, add_none] at c0 c1 c2
      exact ⟨g, off, _, _, rfl, c0, c1, c2, G1.1, G1.2.1, G1.2.2⟩
    · rw [List.getElem?_eq_none (by simpa using hi)] at hb
      cases hb
theorem open_acts {fuel : Nat} {t e : TypeId} {fs : Array Field} {t0 t1 t2 t3 tb : TypeId} {v : Value} {x : DataW H × List MemPlace} (ht : P.underlying t = some (.slice e)) (he : P.underlying e = some (.struct fs)) (hc : P.cellsOf e = 4) (hone : oneCellFields P fs = true)
    (hf0 : ∃ f, fs[0]? = some f ∧ f.type = t0) (hf1 : ∃ f, fs[1]? = some f ∧ f.type = t1) (hf2 : ∃ f, fs[2]? = some f ∧ f.type = t2) (hf3 : ∃ f, fs[3]? = some f ∧ f.type = t3)
    (h0 : P.underlying t0 = some (.int .i64)) (h1 : P.underlying t1 = some (.int .i64)) (h2 : P.underlying t2 = some (.slice tb)) (hb : P.underlying tb = some (.int .u8)) (hcb : P.cellsOf tb = 1) (h3 : P.underlying t3 = some (.int .i64))
    (h : DataW.trod enc P w base spare held fuel t [v] = some x) :
    ∃ (a : Option Addr) (xs : List ActV) (cap : Nat), v = .slice a xs.length cap ∧ xs.length ≤ cap ∧ cap ≤ maxLen ∧ At w w.heap.size a (xs.flatMap actCells) ∧ ∀ x ∈ xs, ActV.good w w.heap.size x := by
  rcases open_slice ht h with ⟨hcs, _⟩ | ⟨a, len, cap, m, n, D, Pl, hcs, _, hl, hm, hmm, _, hx⟩
  · exact ⟨none, [], 0, (List.cons.inj hcs).1, Nat.le_refl _, Nat.zero_le _, At.nil_, by simp⟩
  · have hlm : len ≤ m := by rw [hmm]; split <;> omega
    rw [hc] at hx
    obtain ⟨f, hf⟩ := choose_lt (α := ActV) (n := len) (p := fun i c => w.cells? base (a.add (i * 4)) 4 = some (actCells c) ∧ ActV.good w w.heap.size c) (fun i hi => by
      obtain ⟨cs', h4, h5⟩ := hx i (by omega)
      obtain ⟨xs, n', _, _, hcl, hlen, hg⟩ := DataW.trod_struct he h5
      rw [hc] at hcl
      obtain ⟨u0, u1, u2, u3, rfl⟩ := list_4 hcl
      obtain ⟨f0, e0, rfl⟩ := hf0
      obtain ⟨f1, e1, rfl⟩ := hf1
      obtain ⟨f2, e2, rfl⟩ := hf2
      obtain ⟨f3, e3, rfl⟩ := hf3
      have hfs : 4 ≤ fs.size := (Array.getElem?_eq_some_iff.1 e3).1
      have g0 := hg 0 f0 e0
      have g1 := hg 1 f1 e1
      have g2 := hg 2 f2 e2
      have g3 := hg 3 f3 e3
      rw [(hone_of hone 0 f0 e0).1, (hone_of hone 0 f0 e0).2, List.getElem?_eq_getElem (by omega)] at g0
      rw [(hone_of hone 1 f1 e1).1, (hone_of hone 1 f1 e1).2, List.getElem?_eq_getElem (by omega)] at g1
      rw [(hone_of hone 2 f2 e2).1, (hone_of hone 2 f2 e2).2, List.getElem?_eq_getElem (by omega)] at g2
      rw [(hone_of hone 3 f3 e3).1, (hone_of hone 3 f3 e3).2, List.getElem?_eq_getElem (by omega)] at g3
      simp only [List.drop_zero, List.drop_succ_cons, List.take_succ_cons, List.take_zero] at g0 g1 g2 g3
      obtain ⟨z0, q0, _, w0⟩ := DataW.trod_int h0 g0
      obtain ⟨z1, q1, _, w1⟩ := DataW.trod_int h1 g1
      obtain ⟨c2, rfl, G2⟩ := open_card h2 hb hcb g2
      obtain ⟨z3, q3, _, w3⟩ := DataW.trod_int h3 g3
      obtain rfl := (List.cons.inj q0).1
      obtain rfl := (List.cons.inj q1).1
      obtain rfl := (List.cons.inj q3).1
      exact ⟨⟨z0, z1, c2, z3⟩, h4, G2, w0, w1, w3⟩)
    refine ⟨some a, (List.range len).map f, cap, by rw [(List.cons.inj hcs).1]; simp, by simpa using hl, hm, at_of_cells fun j hj => ?_, ?_⟩
    · rw [flat_len actCells 4 (fun _ => rfl), List.length_map, List.length_range] at hj
      rw [flat_get actCells 4 (by omega) (fun _ => rfl), List.getElem?_map, List.getElem?_range (by omega)]
      have hji : j / 4 < len := by omega
      have := (World.cells?_some (hf (j / 4) hji).1).2.2 (j % 4) (by omega)
      rw [add_add, show j / 4 * 4 + j % 4 = j by omega] at this
      exact this
    · intro x hx
      simp only [List.mem_map, List.mem_range] at hx
      obtain ⟨i, hi, rfl⟩ := hx
      exact (hf i hi).2
end
end Go.Proofs.YtfhpaehfihnjaaaGreat.T
namespace Go.Proofs.YtfhpaehfihnjaaaGreat.T
open Go.RowKit
def changed (op : Int) (r : Rep) : Bool := decide (r.2.1 = 12) && (op == 1 || op == 31 || op == 23)
theorem write_changes (s : TP) (b : Blk) (_ : s.ok) : (s.pos = 4096 ∧ tpWrite s b = (s, [], 14, 1)) ∨ (s.pos ≠ 4096 ∧ tpWrite s b = (⟨s.bs.take s.pos ++ [b], s.pos + 1, s.loaded, s.sense, some (s.pos, s.bs.drop s.pos, !b.mark)⟩, [], 12, 0)) := by
  unfold tpWrite
  by_cases h : s.pos = 4096
  · left; rw [if_pos h]; exact ⟨h, rfl⟩
  · right; rw [if_neg h]; exact ⟨h, rfl⟩
structure DoS (s : TP) (op : Int) (r : TP × Rep) : Prop where
  same : changed op r.2 = false → r.1.last = none ∧ r.1.bs = s.bs
  wrote : changed op r.2 = true → (∃ k, r.1.last = some (s.pos, s.bs.drop s.pos, k)) ∧ r.1.bs.take s.pos = s.bs.take s.pos ∧ r.1.pos = r.1.bs.length ∧ s.pos ≤ r.1.bs.length
theorem passed_st (_ : Blk) (_ _ : Bool) (p : TP) (e : p.last = none) : p.last = none := e
theorem move_same (s : TP) (op : Int) : (tpMove s op).1.last = s.last ∧ (tpMove s op).1.bs = s.bs := by
  unfold tpMove
  repeat' split
  all_goals exact ⟨rfl, rfl⟩
theorem perform_changes (s : TP) (op : Int) (l : List UInt8) (ok : s.ok) (hn : s.last = none) : DoS s op (tpPerform s op l) := by
  have hp := ok.pos
  have hw : ∀ b : Blk, (op = 1 ∨ op = 31) → DoS s op (tpWrite s b) := fun b ho => by
    have e2 : (op == 1 || op == 31 || op == 23) = true := by rcases ho with rfl | rfl <;> rfl
    rcases write_changes s b ok with ⟨_, e⟩ | ⟨_, e⟩
    · rw [e]; exact ⟨fun _ => ⟨hn, rfl⟩, fun h => by simp [changed] at h⟩
    · rw [e]
      refine ⟨fun h => by simp [changed] at h; rcases ho with rfl | rfl <;> simp at h, fun _ => ⟨⟨_, rfl⟩, ?_, ?_, ?_⟩⟩
      · dsimp only
        rw [List.take_append_of_le_length (by simp; omega), List.take_take, Nat.min_self]
      · simp; omega
      · simp; omega
  unfold tpPerform
  split
  · rename_i h; subst h
    exact ⟨fun _ => ⟨hn, rfl⟩, fun h => by simp [changed] at h⟩
  split
  · rename_i h; subst h
    exact ⟨fun _ => ⟨hn, rfl⟩, fun h => by simp [changed] at h⟩
  split
  · exact ⟨fun _ => ⟨hn, rfl⟩, fun h => by simp [changed] at h⟩
  split
  · exact ⟨fun _ => ⟨hn, rfl⟩, fun h => by simp [changed] at h⟩
  split
  · rename_i h
    split
    · exact ⟨fun _ => ⟨hn, rfl⟩, fun h => by simp [changed] at h⟩
    · exact hw _ (Or.inl h)
  split
  · rename_i h
    exact hw _ (Or.inr h)
  split
  · rename_i h; subst h
    refine ⟨fun h => by simp [changed] at h, fun _ => ⟨⟨_, rfl⟩, ?_, ?_, ?_⟩⟩
    · show List.take s.pos (List.take s.pos s.bs) = _
      rw [List.take_take, Nat.min_self]
    · simp [tpCut]; omega
    · simp [tpCut]; omega
  split
  · rename_i h; subst h
    exact ⟨fun _ => ⟨hn, rfl⟩, fun h => by simp [changed] at h⟩
  split
  · rename_i h; subst h
    exact ⟨fun _ => ⟨hn, rfl⟩, fun h => by simp [changed] at h⟩
  · rename_i h1 h31 h23 h7 h15
    obtain ⟨a, b⟩ := move_same s op
    exact ⟨fun _ => ⟨a.trans hn, b⟩, fun h => by simp [changed, h1, h31, h23] at h⟩
theorem do_changes (s : TP) (op : Int) (l : List UInt8) (ok : s.ok) : DoS s op (tpDo s op l) := by
  have h := perform_changes _ op l ok.off rfl
  unfold tpDo
  dsimp only
  split
  · exact ⟨h.same, h.wrote⟩
  · exact ⟨h.same, h.wrote⟩
theorem undo_back (s : TP) (op : Int) (l : List UInt8) (ok : s.ok) : ∃ s2, tpUndo (tpDo s op l).1 1 = (s2, changed op (tpDo s op l).2) ∧ s2.last = none ∧ s2.bs = s.bs ∧ (changed op (tpDo s op l).2 = true → s2.pos = s.pos) := by
  have h := do_changes s op l ok
  cases hc : changed op (tpDo s op l).2 with
  | false =>
    obtain ⟨h1, h2⟩ := h.same hc
    refine ⟨(tpDo s op l).1, ?_, h1, h2, fun h => by cases h⟩
    unfold tpUndo
    rw [h1]
  | true =>
    obtain ⟨⟨k, h1⟩, h2, _, _⟩ := h.wrote hc
    refine ⟨{ (tpDo s op l).1 with last := none, bs := (tpDo s op l).1.bs.take s.pos ++ s.bs.drop s.pos, pos := s.pos }, ?_, rfl, ?_, fun _ => rfl⟩
    · unfold tpUndo
      rw [h1]
      dsimp only
      rw [if_neg (by decide), if_neg (by simp), if_pos (by decide)]
    · dsimp only
      rw [h2, List.take_append_drop]
theorem act_cells {W w : World} {F : List SA} {A : Option Addr} {l : List ActV} {i : Nat} {a : ActV} (hr : Rd W F A (l.flatMap actCells)) (S : SL W F w) (ha : l[i]? = some a) : ∃ b off, A = some ⟨b, off, none⟩ ∧ b < w.heap.size ∧ w.cell? ⟨b, off + i * 4, none⟩ = some (.int .i64 a.kind) ∧ w.cell? ⟨b, off + i * 4 + 1, none⟩ = some (.int .i64 a.op) ∧ w.cell? ⟨b, off + i * 4 + 2, none⟩ = some (cardV a.data) ∧ w.cell? ⟨b, off + i * 4 + 3, none⟩ = some (.int .i64 a.how) := by
  have hg : ∀ k, k < 4 → (l.flatMap actCells)[i * 4 + k]? = (actCells a)[k]? := fun k hk => by
    rw [flat_get actCells 4 (by omega) (fun _ => rfl), show (i * 4 + k) / 4 = i by omega, show (i * 4 + k) % 4 = k by omega, ha]
    rfl
  have hne : l.flatMap actCells ≠ [] := fun h => by
    have := hg 0 (by omega)
    rw [h] at this
    simp [actCells] at this
  obtain ⟨b, off, hA, hb, hc⟩ := hr w S hne
  exact ⟨b, off, hA, hb, hc _ _ (hg 0 (by omega)), hc _ _ (hg 1 (by omega)), hc _ _ (hg 2 (by omega)), hc _ _ (hg 3 (by omega))⟩
section
variable {W w : World} {F : List SA}
theorem act_cells2 {b off i : Nat} {l : List ActV} {a : ActV} (hr : Rd W F (some ⟨b, off, none⟩) (l.flatMap actCells)) (S : SL W F w) (ha : l[i]? = some a) : w.cell? ⟨b, off + i * 4, none⟩ = some (.int .i64 a.kind) ∧ w.cell? ⟨b, off + i * 4 + 1, none⟩ = some (.int .i64 a.op) ∧ w.cell? ⟨b, off + i * 4 + 2, none⟩ = some (cardV a.data) ∧ w.cell? ⟨b, off + i * 4 + 3, none⟩ = some (.int .i64 a.how) := by
  obtain ⟨b', off', hA, _, h⟩ := act_cells hr S ha
  injection hA with hA; injection hA with h1 h2
  subst h1; subst h2
  exact h
theorem BlksRd.base {A : Option Addr} {bs : List Blk} (h : BlksAt W A bs) : BlksRd W F A bs := fun w S i b hb => by
  obtain ⟨g, off, A', c', hA, k0, k1, k2, h3, h4⟩ := h i b hb
  have lt : ∀ {p : Addr} {v : Value}, W.cell? p = some v → w.cell? p = some v := fun {p v} e => (S.below.cell (World.block_lt_of_cell? _ _ e)).trans e
  exact ⟨g, off, A', c', hA, lt k0, lt k1, lt k2, (h3.below S.below).mono S.size, h4⟩
def BigP (bs : List Blk) : Prop := bs.length ≤ 100 ∧ ∀ b ∈ bs, b.data.length ≤ 1100
def ManyP (l : List ActV) : Prop := l.length ≤ 100 ∧ ∀ a ∈ l, a.data.2.1.length ≤ 1100
abbrev nmA : ByteArray := ⟨#[65, 49]⟩
theorem newA_ok (A : Option Addr) (bs : List Blk) (c : Nat) (he : newErr nmA bs = 0) (S : SL W (blksS (.slice A bs.length c) bs :: F) w) (hb : bs.length ≤ maxLen) (hd : ∀ b ∈ bs, b.data.length ≤ 1073741824) :
    Calls Tryz.prog 60 #[.string ⟨#[65, 49]⟩, .slice A bs.length c] w fun e w' => ∃ tb, e = .returned (.tuple #[.pointer (some ⟨tb, 0, none⟩), .int .i64 0]) ∧ SL W (tapeS tb nmA (freshTP bs) :: F) w' :=
  (new_any nmA A bs c S BlksRd.head (by decide) hb hd).mono fun e w' h => by
    unfold NewS at h
    rw [if_pos he] at h
    obtain ⟨tb, h1, h2⟩ := h
    exact ⟨tb, h1, h2.s1.drop⟩
theorem newA_bad (A : Option Addr) (bs : List Blk) (c : Nat) (he : newErr nmA bs ≠ 0) (S : SL W (blksS (.slice A bs.length c) bs :: F) w) (hb : bs.length ≤ maxLen) (hd : ∀ b ∈ bs, b.data.length ≤ 1073741824) :
    Calls Tryz.prog 60 #[.string ⟨#[65, 49]⟩, .slice A bs.length c] w fun e w' => ∃ n : Nat, n ≠ 0 ∧ e = .returned (.tuple #[.pointer none, .int .i64 n]) ∧ SL W F w' :=
  (new_any nmA A bs c S BlksRd.head (by decide) hb hd).mono fun e w' h => by
    unfold NewS at h
    rw [if_neg he] at h
    exact ⟨_, he, h.1, h.2.drop⟩
theorem newErr_ok {bs : List Blk} {s : ByteArray} (he : newErr s bs = 0) : (freshTP bs).ok := by
  unfold newErr at he
  split at he
  · cases he
  · split at he
    · cases he
    · split at he
      · exact fresh_ok (by omega) (by assumption)
      · cases he
end
end Go.Proofs.YtfhpaehfihnjaaaGreat.T
namespace Go.Proofs.YtfhpaehfihnjaaaGreat.T
open Go.RowKit
structure QOld where
  v : Value
  vo : Value
  wr : Bool
  oa : Int
  obs : List Blk
def QOld.fits (q : QOld) (s : TP) : Prop := ∀ a old blk, s.last = some (a, old, blk) → q.wr = blk ∧ q.oa = (a : Int) ∧ q.obs = s.bs.take a ++ old
def qcells (name : ByteArray) (s : TP) (q : QOld) : Array Value := #[.string name, q.v, .int .i64 (s.pos : Int), .bool s.loaded, .int .i64 (s.sense : Int), .bool s.last.isSome, .bool q.wr, q.vo, .int .i64 q.oa]
def qS (qb : Nat) (name : ByteArray) (s : TP) : SA := fun h => ∃ q : QOld, q.fits s ∧ star [cel qb (qcells name s q) 113, blksS q.v s.bs, blksS q.vo q.obs] h
section
variable {W w w' : World} {F : List SA} {qb : Nat} {name : ByteArray} {s : TP}
theorem qS_open (S : SL W (qS qb name s :: F) w) : ∃ q : QOld, q.fits s ∧ SL W (cel qb (qcells name s q) 113 :: blksS q.v s.bs :: blksS q.vo q.obs :: F) w :=
  S.unpack (α := QOld) (φ := fun q => q.fits s) (K := fun q => [cel qb (qcells name s q) 113, blksS q.v s.bs, blksS q.vo q.obs]) (fun _ p => p)
theorem qS_close {q : QOld} (hq : q.fits s) (S : SL W (cel qb (qcells name s q) 113 :: blksS q.v s.bs :: blksS q.vo q.obs :: F) w) : SL W (qS qb name s :: F) w :=
  SL.pack (L := [cel qb (qcells name s q) 113, blksS q.v s.bs, blksS q.vo q.obs]) S fun _ h => ⟨q, hq, h⟩
theorem fits_none {q : QOld} (h : s.last = none) : q.fits s := fun a o b e => by rw [h] at e; cases e
theorem qfine_any (A : Option Addr) (n c : Nat) (w : World) : Calls Tryz.prog 118 #[.slice A n c] w fun e w' => e = .returned (.agg #[.slice A n c, .int .i64 12, .int .i64 0]) ∧ Below w.heap.size w w' := by
  go_enter Tryz.func118, Tryz.ntmps118
  go_wp2
  exact bodyPost_ret (v := .agg #[.slice A n c, .int .i64 12, .int .i64 0]) (by simp [results, Tryz.results118, go_sem]) rfl ⟨rfl, by (repeat' (first | (with_reducible exact Below.refl _ _) | (with_reducible assumption) | (with_reducible refine below_drewN ?_ _) | (with_reducible refine Below.drew ?_) | (with_reducible refine Below.alloc ?_ ?_ _) | (with_reducible refine Below.setCell ?_ ?_ _) | (with_reducible refine below_row ?_ ?_ _) | (with_reducible exact Nat.le_refl _) | omega | (simp only [World.size_alloc, World.size_setCell, World.size_drew, World.size_drewN]; omega) | (simp; done) | (simp; omega)))⟩
theorem qexc_any (w : World) : Calls Tryz.prog 123 #[] w fun e w' => e = .returned (.agg #[.slice none 0 0, .int .i64 13, .int .i64 0]) ∧ Below w.heap.size w w' := by
  go_enter Tryz.func123, Tryz.ntmps123
  go_wp2
  exact bodyPost_ret (v := .agg #[.slice none 0 0, .int .i64 13, .int .i64 0]) (by simp [results, Tryz.results123, go_sem]) rfl ⟨rfl, by (repeat' (first | (with_reducible exact Below.refl _ _) | (with_reducible assumption) | (with_reducible refine below_drewN ?_ _) | (with_reducible refine Below.drew ?_) | (with_reducible refine Below.alloc ?_ ?_ _) | (with_reducible refine Below.setCell ?_ ?_ _) | (with_reducible refine below_row ?_ ?_ _) | (with_reducible exact Nat.le_refl _) | omega | (simp only [World.size_alloc, World.size_setCell, World.size_drew, World.size_drewN]; omega) | (simp; done) | (simp; omega)))⟩
theorem qcheck_any (n : Nat) (S : SL W (qS qb name s :: F) w) : Calls Tryz.prog 117 #[.pointer (some ⟨qb, 0, none⟩), .int .i64 (n : Int)] w fun e w' => e = .returned (.agg #[.slice none 0 0, .int .i64 14, .int .i64 (n : Int)]) ∧ SL W (qS qb name { s with sense := n } :: F) w' := by
  obtain ⟨q, hq, S1⟩ := qS_open S
  obtain ⟨L, K, z⟩ := S1.look
  have H1 := Lib.hid ((SL.set (off := 4) (v := .int .i64 (n : Int)) (cs' := qcells name { s with sense := n } q) S1 rfl).allocC #[.slice none 0 0, .int .i64 14, .int .i64 (n : Int)] 55)
  have HQ := Lib.hid hq
  clear S S1 hq
  unfold qcells at L
  go_enter Tryz.func117, Tryz.ntmps117
  go_wp2
  refine bodyPost_ret (v := .agg #[.slice none 0 0, .int .i64 14, .int .i64 (n : Int)]) (by simp [results, Tryz.results117, go_sem]) rfl ⟨rfl, ?_⟩
  exact qS_close (s := { s with sense := n }) HQ.out H1.out.drop
theorem qpower_any (S : SL W (qS qb name s :: F) w) : Calls Tryz.prog 73 #[.pointer (some ⟨qb, 0, none⟩)] w fun e w' => e = .returned (.tuple #[]) ∧ SL W (qS qb name (tpPower s) :: F) w' := by
  obtain ⟨q, hq, S1⟩ := qS_open S
  obtain ⟨L, K, z⟩ := S1.look
  have H1 := Lib.hid ((((S1.set (off := 3) (v := .bool true) rfl).set (off := 2) (v := .int .i64 0) rfl).set (off := 4) (v := .int .i64 0) rfl).set (off := 5) (v := .bool false) (cs' := qcells name (tpPower s) q) rfl)
  clear S S1
  unfold qcells at L
  go_enter Tryz.func73, Tryz.ntmps73
  go_wp2
  refine bodyPost_end (v := .tuple #[]) (by simp [results, Tryz.results73, go_sem]) rfl ⟨rfl, ?_⟩
  exact qS_close (s := tpPower s) (fits_none rfl) H1.out
set_option maxHeartbeats 4000000 in
theorem qblock_any (b : Blk) (A : Option Addr) (c : Nat) (w : World) (hz : b.data.length ≤ 1073741824) : Calls Tryz.prog 93 #[.agg #[.bool b.mark, .slice A b.data.length c, .bool b.bad]] w fun e w' => e = .returned (.bool (blkOk b)) ∧ Below w.heap.size w w' := by
  obtain ⟨l, mk, bd⟩ := b
  unfold blkOk
  dsimp only at *
  cases mk
  · go_enter Tryz.func93, Tryz.ntmps93
    go_wp2
    all_goals
      go_ret
      refine ⟨?_, by (repeat' (first | (with_reducible exact Below.refl _ _) | (with_reducible assumption) | (with_reducible refine below_drewN ?_ _) | (with_reducible refine Below.drew ?_) | (with_reducible refine Below.alloc ?_ ?_ _) | (with_reducible refine Below.setCell ?_ ?_ _) | (with_reducible refine below_row ?_ ?_ _) | (with_reducible exact Nat.le_refl _) | omega | (simp only [World.size_alloc, World.size_setCell, World.size_drew, World.size_drewN]; omega) | (simp; done) | (simp; omega)))⟩
      first
        | (have e : 1 ≤ l.length := by omega
           simp only [e, decide_true, Bool.true_and]
           exact congrArg (fun x => Ending.returned (Value.bool x)) (decide_eq_decide.2 (by omega)))
        | (have e : ¬ 1 ≤ l.length := by omega
           simp only [e, decide_false, Bool.false_and]
           rfl)
  · go_enter Tryz.func93, Tryz.ntmps93
    go_wp2
    all_goals
      go_ret
      refine ⟨?_, by (repeat' (first | (with_reducible exact Below.refl _ _) | (with_reducible assumption) | (with_reducible refine below_drewN ?_ _) | (with_reducible refine Below.drew ?_) | (with_reducible refine Below.alloc ?_ ?_ _) | (with_reducible refine Below.setCell ?_ ?_ _) | (with_reducible refine below_row ?_ ?_ _) | (with_reducible exact Nat.le_refl _) | omega | (simp only [World.size_alloc, World.size_setCell, World.size_drew, World.size_drewN]; omega) | (simp; done) | (simp; omega)))⟩
      simp
      try omega
set_option maxHeartbeats 4000000 in
theorem qserial_any (s : ByteArray) (w : World) (hz : s.size ≤ 140737488355328) : Calls Tryz.prog 92 #[.string s] w fun e w' => e = .returned (.bool (serOk s)) ∧ Below w.heap.size w w' := by
  go_enter Tryz.func92, Tryz.ntmps92
  go_wp2
  go_loopw [3] (fun i wr => ∃ k : Nat, k ≤ s.size ∧ i = .int .i64 k ∧ (∀ j (h : j < s.size), j < k → serB (s[j]'h)) ∧ wr = w) (fun i _ => s.size - (intOf i).toNat)
  case atStart => exact ⟨0, Nat.zero_le _, rfl, fun j h hj => by omega, rfl⟩
  case round =>
    obtain ⟨k, hk, rfl, hall, rfl⟩ := hrel
    have HA := Lib.hid hall
    clear hall
    by_cases hlt : k < s.size
    · by_cases hin : serB (s[k]'hlt)
      · have HI := Lib.hid hin
        unfold serB at hin
        have hrel2 : ∀ j (h : j < s.size), j < k + 1 → serB (s[j]'h) := fun j h hj => by
          by_cases e : j = k
          · subst e; exact HI.out
          · exact HA.out j h (by omega)
        have HR2 := Lib.hid hrel2
        clear hrel2
        rcases hin with ⟨h1, h2⟩ | ⟨h1, h2⟩
        · go_wp2
          go_roundw
          case rel => exact ⟨k + 1, by omega, by go_num, HR2.out, by first | rfl | trivial⟩
          case measure => simp [intOf]; omega
        · have h3 : (s[k]'hlt).toNat < 65 := by omega
          go_wp2
          all_goals first | (exfalso; simp at *; omega) | skip
          go_roundw
          case rel => exact ⟨k + 1, by omega, by go_num, HR2.out, by first | rfl | trivial⟩
          case measure => simp [intOf]; omega
      · have e1 : serOk s = false := by
          unfold serOk
          rw [decide_eq_false (fun h => hin (h k hlt))]
          rfl
        have E1 := Lib.hid e1
        clear e1
        unfold serB at hin
        have h1 : (s[k]'hlt).toNat < 48 ∨ (57 < (s[k]'hlt).toNat ∧ (s[k]'hlt).toNat < 65) ∨ 90 < (s[k]'hlt).toNat := by omega
        clear hin
        rcases h1 with h1 | ⟨h1, h2⟩ | h1
        · have h2 : (s[k]'hlt).toNat < 65 := by omega
          go_wp2
          all_goals first | (exfalso; simp at *; omega) | skip
          go_ret
          exact ⟨by rw [E1.out]; rfl, Below.refl _ _⟩
        · have h3 : 48 ≤ (s[k]'hlt).toNat := by omega
          go_wp2
          all_goals first | (exfalso; simp at *; omega) | skip
          go_ret
          exact ⟨by rw [E1.out]; rfl, Below.refl _ _⟩
        · have h2 : 65 ≤ (s[k]'hlt).toNat := by omega
          have h3 : 48 ≤ (s[k]'hlt).toNat := by omega
          have h4 : 57 < (s[k]'hlt).toNat := by omega
          go_wp2
          all_goals first | (exfalso; simp at *; omega) | skip
          go_ret
          exact ⟨by rw [E1.out]; rfl, Below.refl _ _⟩
    · obtain rfl : k = s.size := by omega
      have e1 : serOk s = (decide (1 ≤ s.size) && decide (s.size ≤ 6)) := by
        unfold serOk
        rw [decide_eq_true (fun j h => HA.out j h h)]
        rfl
      have E1 := Lib.hid e1
      clear e1
      go_wp2
      all_goals
        go_ret
        refine ⟨?_, Below.refl _ _⟩
        rw [E1.out]
        first
          | (have e : 1 ≤ s.size := by omega
             simp only [e, decide_true, Bool.true_and]
             exact congrArg (fun x => Ending.returned (Value.bool x)) (decide_eq_decide.2 (by omega)))
          | (have e : ¬ 1 ≤ s.size := by omega
             simp only [e, decide_false, Bool.false_and]
             rfl)
end
end Go.Proofs.YtfhpaehfihnjaaaGreat.T
