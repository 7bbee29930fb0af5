/- tape.clone. -/
import Derived.Test.YtbbokikjpabfkaaClone
import Derived.Test.YtbbokikjpabfkaaTape
namespace Go.Proofs.Ytbbokikjpabfkaa
open Go.RowKit
theorem blkElem : Elem Try.prog 22 25 (.agg #[.bool false, .slice none 0 0, .bool false]) 3 40 := ⟨Try.underlying22, by kernel_rfl, rfl, by omega⟩
/-- A list of blocks lies at an address. -/
def BlksAt (w : World) (A : Option Addr) (bs : List Blk) : Prop := ∀ i b, bs[i]? = some b → ∃ g off A' c', A = some ⟨g, off, none⟩ ∧ w.cell? ⟨g, off + i * 3, none⟩ = some (.bool b.mark) ∧ w.cell? ⟨g, off + i * 3 + 1, none⟩ = some (.slice A' b.data.length c') ∧ w.cell? ⟨g, off + i * 3 + 2, none⟩ = some (.bool b.bad) ∧ At w w.heap.size A' (Lib.byteCells b.data) ∧ b.data.length ≤ c' ∧ c' ≤ maxLen
def BlksRd (W : World) (F : List SA) (A : Option Addr) (bs : List Blk) : Prop := ∀ w, SL W F w → BlksAt w A bs
/-- Of a size that the program's slices may have. -/
def Fit (bs : List Blk) : Prop := bs.length ≤ 1048576 ∧ ∀ b ∈ bs, b.data.length ≤ 1073741824
section
variable {W w : World} {F : List SA}
set_option maxHeartbeats 2000000 in
theorem bclone_any (A : Option Addr) (bs : List Blk) (c : Nat) (S : SL W F w) (hr : BlksRd W F A bs) (hf : Fit bs) :
    Calls Try.prog 29 #[.slice A bs.length c] w fun e w' => ∃ v, e = .returned v ∧ SL W (blksS v bs :: F) w' := by
  have HR := Lib.hid hr
  have HF := Lib.hid hf
  have HS := Lib.hid S
  clear S hr hf
  go_enter Try.func29, Try.ntmps29
  go_wp2
  go_loopw [3, 8] (fun o i wr => ∃ (k : Nat) (A3 : Option Addr) (c3 : Nat) (ps : List BV), k ≤ bs.length ∧ i = .int .i64 k ∧ o = .slice A3 k c3 ∧ ps.length = k ∧ ps.map Prod.snd = bs.take k ∧
    SL W (rowT 25 3 (.slice A3 k c3) k (ps.flatMap blkCells) :: star (ps.map datS) :: F) wr) (fun _ i _ => bs.length - (intOf i).toNat)
  case atStart => exact ⟨0, none, 0, [], Nat.zero_le _, rfl, rfl, rfl, rfl, HS.out.empty.nilT _ _⟩
  case round =>
    obtain ⟨k, A3, c3, ps, hk, rfl, rfl, hp1, hp2, S1⟩ := hrel
    have H1 := Lib.hid S1
    have HP := Lib.hid (And.intro hp1 hp2)
    clear S1 HS hp1 hp2
    have hle := HF.out.1
    by_cases hlt : k < bs.length
    · have hb : bs[k]? = some bs[k] := by simp [hlt]
      have hbl := HF.out.2 bs[k] (List.getElem_mem hlt)
      generalize bs[k] = b at hb hbl
      obtain ⟨g, off, A4, c4, hA, k0, k1, k2, a4, h4, h5⟩ := HR.out wr H1.out.drop.drop k b hb
      subst hA
      go_wp2_with fail
      refine (sclone_any A4 b.data c4 ((SL.start wr).allocC #[.bool b.mark, .slice A4 b.data.length c4, .bool b.bad] 25) (Rd.base a4) hbl).mono ?_
      rintro e w2 ⟨v2, rfl, S2⟩
      obtain ⟨A2, c2, rfl, _, _⟩ := own_slice S2.own
      have H2 := Lib.hid (H1.out.join S2)
      have HB := Lib.hid hb
      clear S2 k0 k1 k2 a4 h4 h5 hb H1 hbl
      generalize wr.heap.size = yb at *
      obtain ⟨L, K, z⟩ := H2.out.s1.look
      have HW : Hid (SL W (rowT 25 3 (.slice A3 k c3) k (ps.flatMap blkCells) :: rowS 5 1 (.slice A2 b.data.length c2) b.data.length (Lib.byteCells b.data) :: star (ps.map datS) :: F) (w2.setCell ⟨yb, 1, none⟩ (.slice A2 b.data.length c2))) := Lib.hid (SL.set (off := 1) (v := .slice A2 b.data.length c2) (cs' := #[.bool b.mark, .slice A2 b.data.length c2, .bool b.bad]) H2.out.s1 rfl).drop.s1
      go_wp2_with (at_builtin; refine wpList_pushT rfl _ _ _ rfl blkElem (w2.setCell ⟨yb, 1, none⟩ (.slice A2 b.data.length c2)) [.bool b.mark, .slice A2 b.data.length c2, .bool b.bad] 1 rfl rfl (by simp [Value.oneCell']) _ k _ rfl (by rw [World.size_setCell]; rfl) HW.out (by have := HF.out.1; unfold maxLen; omega) (by have := HF.out.1; omega) ?_
                   intro A6 c6 w6 S6
                   have H6 := Lib.hid S6
                   clear S6 H2 L K z HW)
      go_roundw
      case rel =>
        refine ⟨k + 1, A6, c6, ps ++ [(.slice A2 b.data.length c2, b)], by omega, by go_num, rfl, by simp [HP.out.1], by rw [List.take_add_one, HB.out]; simp [HP.out.2], ?_⟩
        simp only [List.map_append, List.map_cons, List.map_nil, List.flatMap_append, List.flatMap_cons, List.flatMap_nil, List.append_nil]
        exact (SL.snoc (P := datS (.slice A2 b.data.length c2, b)) H6.out.b2).s1
      case measure => simp [intOf]; omega
    · obtain rfl : k = bs.length := by omega
      go_wp2
      go_ret
      refine ⟨_, rfl, ?_⟩
      have e1 : ps.map Prod.snd = bs := by rw [HP.out.2]; simp
      rw [← HP.out.1] at H1
      have h := blksS_close (v := .slice A3 ps.length c3) H1.out
      rw [e1, HP.out.1] at h
      exact h
end
end Go.Proofs.Ytbbokikjpabfkaa
