/- Copy of the reference over blocks of any size that an argument may have; the sizes of an argument. -/
import Derived.Test.YtbbokikjpabfkaaQNew
import Derived.Test.YtbbokikjpabfkaaArgs
import Derived.SizedLaws
namespace Go.Proofs.Ytbbokikjpabfkaa
open Go.RowKit

/-- Of a size that an argument may have. -/
def FitW (bs : List Blk) : Prop := bs.length * 40 ≤ 140737488351232 ∧ ∀ b ∈ bs, b.data.length ≤ 140737488351232
section
variable {W w : World} {F : List SA}
set_option maxHeartbeats 4000000 in
theorem rcopy_wide (A : Option Addr) (bs : List Blk) (c : Nat) (S : SL W F w) (hr : BlksRd W F A bs) (hf : FitW bs) :
    Calls Try.prog 19 #[.slice A bs.length c] w fun e w' => ∃ v, e = .returned v ∧ SL W (blksS v bs :: F) w' := by
  have HR := Lib.hid hr
  have HF := Lib.hid hf
  have HS := Lib.hid S
  clear S hr hf
  go_enter Try.func19, Try.ntmps19
  go_wp2
  go_loopw [3, 4] (fun o i wr => ∃ (k : Nat) (A3 : Option Addr) (c3 : Nat) (ps : List BV), k ≤ bs.length ∧ i = .int .i64 k ∧ o = .slice A3 k c3 ∧ ps.length = k ∧ ps.map Prod.snd = bs.take k ∧
    SL W (rowT 25 3 (.slice A3 k c3) k (ps.flatMap blkCells) :: star (ps.map datS) :: F) wr) (fun _ i _ => bs.length - (intOf i).toNat)
  case atStart => exact ⟨0, none, 0, [], Nat.zero_le _, rfl, rfl, rfl, rfl, HS.out.empty.nilT _ _⟩
  case round =>
    obtain ⟨k, A3, c3, ps, hk, rfl, rfl, hp1, hp2, S1⟩ := hrel
    have H1 := Lib.hid S1
    have HP := Lib.hid (And.intro hp1 hp2)
    clear S1 HS hp1 hp2
    have hle := HF.out.1
    by_cases hlt : k < bs.length
    · have hb : bs[k]? = some bs[k] := by simp [hlt]
      have hbl := HF.out.2 bs[k] (List.getElem_mem hlt)
      generalize bs[k] = b at hb hbl
      obtain ⟨g, off, A4, c4, hA, k0, k1, k2, a4, h4, h5⟩ := HR.out wr H1.out.drop.drop k b hb
      subst hA
      have HA4 := Lib.hid a4
      have HN : Hid (SL wr (rowS 5 1 (.slice (some ⟨wr.heap.size + 1, 0, none⟩) 0 0) 0 [] :: cel wr.heap.size #[.bool b.mark, .slice A4 b.data.length c4, .bool b.bad] 25 :: []) ((wr.alloc (.cells #[.bool b.mark, .slice A4 b.data.length c4, .bool b.bad] 25)).alloc (.cells #[] 5))) := Lib.hid (by
        have h := ((SL.start wr).allocC #[.bool b.mark, .slice A4 b.data.length c4, .bool b.bad] 25).lit #[] 5 1 0 rfl (by decide)
        rw [World.size_alloc] at h
        exact h)
      have HB := Lib.hid hb
      have hg : g < wr.heap.size := World.block_lt_of_cell? _ _ k0
      have HA5 : Hid (At ((wr.alloc (.cells #[.bool b.mark, .slice A4 b.data.length c4, .bool b.bad] 25)).alloc (.cells #[] 5)) wr.heap.size A4 (Lib.byteCells b.data)) := Lib.hid ((HA4.out.alloc (Nat.le_refl _) _).alloc (by rw [World.size_alloc]; omega) _)
      clear a4 hb
      go_wp2_with (first
        | (at_builtin; refine wpList_appS rfl _ _ _ rfl bElem _ 0 [] rfl HN.out wr.heap.size A4 b.data.length c4 (Lib.byteCells b.data) rfl HA5.out (by rw [byteCells_len, Nat.mul_one]) (byteCells_one _) (by unfold maxLen; omega) (by omega) ?_
           intro A2 c2 w2 S2
           rw [Nat.zero_add, List.nil_append] at S2
           have H2 := Lib.hid (H1.out.join S2)
           clear S2 HN HA5 k0 k1 k2 hg
           rw [Nat.zero_add]
           generalize wr.heap.size = yb at *
           obtain ⟨L, K, z⟩ := H2.out.s1.look
           have HW : Hid (SL W (rowT 25 3 (.slice A3 k c3) k (ps.flatMap blkCells) :: rowS 5 1 (.slice A2 b.data.length c2) b.data.length (Lib.byteCells b.data) :: star (ps.map datS) :: F) (w2.setCell ⟨yb, 1, none⟩ (.slice A2 b.data.length c2))) := Lib.hid (SL.set (off := 1) (v := .slice A2 b.data.length c2) (cs' := #[.bool b.mark, .slice A2 b.data.length c2, .bool b.bad]) H2.out.s1 rfl).drop.s1)
        | (at_builtin; refine wpList_pushT rfl _ _ _ rfl blkElem (w2.setCell ⟨yb, 1, none⟩ (.slice A2 b.data.length c2)) [.bool b.mark, .slice A2 b.data.length c2, .bool b.bad] 1 rfl rfl (by simp [Value.oneCell']) _ k _ rfl (by rw [World.size_setCell]; rfl) HW.out (by have := HF.out.1; unfold maxLen; omega) (by have := HF.out.1; omega) ?_
           intro A6 c6 w6 S6
           have H6 := Lib.hid S6
           clear S6 H2 L K z HW))
      go_roundw
      case rel =>
        refine ⟨k + 1, A6, c6, ps ++ [(.slice A2 b.data.length c2, b)], by omega, by go_num, rfl, by simp [HP.out.1], by rw [List.take_add_one, HB.out]; simp [HP.out.2], ?_⟩
        simp only [List.map_append, List.map_cons, List.map_nil, List.flatMap_append, List.flatMap_cons, List.flatMap_nil, List.append_nil]
        exact (SL.snoc (P := datS (.slice A2 b.data.length c2, b)) H6.out.b2).s1
      case measure => simp [intOf]; omega
    · obtain rfl : k = bs.length := by omega
      go_wp2
      go_ret
      refine ⟨_, rfl, ?_⟩
      have e1 : ps.map Prod.snd = bs := by rw [HP.out.2]; simp
      rw [← HP.out.1] at H1
      have h := blksS_close (v := .slice A3 ps.length c3) H1.out
      rw [e1, HP.out.1] at h
      exact h
end
open Go.ChangeShapes Go.WideShapes Go.ChangeAt Go.Deep
section
variable {H : Type} {enc : TypeId × Value → H} {P : Program} {w : World} {base : Nat} {spare : Nat → Bool} {held : Bool}
theorem weightsAll_mem {e : TypeId} {d : DataW H} {n : Nat} : ∀ {l : List (DataW H)}, d ∈ l → n ∈ d.weights P e → n ∈ DataW.weightsAll P e l
  | [], h, _ => by cases h
  | x :: l, h, hn => by
    simp only [DataW.weightsAll, List.mem_append]
    rcases List.mem_cons.1 h with rfl | h
    · exact Or.inl hn
    · exact Or.inr (weightsAll_mem h hn)
theorem card_weight {R : Nat} {fuel : Nat} {t e : TypeId} {c : CardV} {x : DataW H × List MemPlace} (ht : P.underlying t = some (.slice e)) (_he : P.underlying e = some (.int .u8)) (hc : P.cellsOf e = 1) (hb : P.bytesOf e = 1) (h : DataW.trod enc P w base spare held fuel t [cardV c] = some x) (hR : ∀ n ∈ DataW.weights P t x.1, n ≤ R) : c.2.1.length ≤ R := by
  rcases open_slice1 ht hc h with ⟨hcs, _⟩ | ⟨a, len, cap, m, n, V, D, Pl, hcs, _, hl, hm, hmm, hxe, hx⟩
  · have := (List.cons.inj hcs).1
    unfold cardV at this
    injection this with _ h0 _
    omega
  · have := (List.cons.inj hcs).1
    unfold cardV at this
    injection this with _ h0 _
    have h1 := hR ((len + (m - len)) * 1) (by rw [hxe]; simp [DataW.weights, ht, hb])
    omega
theorem open_blksW {R : Nat} {fuel : Nat} {t e : TypeId} {fs : Array Field} {t0 t1 t2 tb : TypeId} {v : Value} {x : DataW H × List MemPlace} (ht : P.underlying t = some (.slice e)) (he : P.underlying e = some (.struct fs)) (hc : P.cellsOf e = 3) (hone : oneCellFields P fs = true)
    (hf0 : ∃ f, fs[0]? = some f ∧ f.type = t0) (hf1 : ∃ f, fs[1]? = some f ∧ f.type = t1) (hf2 : ∃ f, fs[2]? = some f ∧ f.type = t2)
    (h0 : P.underlying t0 = some .bool) (h1 : P.underlying t1 = some (.slice tb)) (hb : P.underlying tb = some (.int .u8)) (hcb : P.cellsOf tb = 1) (h2 : P.underlying t2 = some .bool)
    (h : DataW.trod enc P w base spare held fuel t [v] = some x) (h40 : P.bytesOf e = 40) (hb1 : P.bytesOf tb = 1) (hR : ∀ n ∈ DataW.weights P t x.1, n ≤ R) :
    ∃ (a : Option Addr) (bs : List Blk) (cap : Nat), v = .slice a bs.length cap ∧ bs.length ≤ cap ∧ cap ≤ maxLen ∧ BlksAt w a bs ∧ bs.length * 40 ≤ R ∧ ∀ b ∈ bs, b.data.length ≤ R := by
  rcases open_slice ht h with ⟨hcs, _⟩ | ⟨a, len, cap, m, n, D, Pl, hcs, _, hl, hm, hmm, hxe, hx⟩
  · exact ⟨none, [], 0, (List.cons.inj hcs).1, Nat.le_refl _, Nat.zero_le _, (fun i b hb => by simp at hb), by simp, (fun b hb => by simp at hb)⟩
  · have hlm : len ≤ m := by rw [hmm]; split <;> omega
    have hw1 : ∀ i, i < len → ∀ n ∈ DataW.weights P e (D i), n ≤ R := fun i hi n hn => hR n (by
      rw [hxe]
      simp only [DataW.weights, ht, List.mem_cons, List.mem_append]
      exact Or.inr (Or.inl (weightsAll_mem (List.mem_map.2 ⟨i, List.mem_range.2 hi, rfl⟩) hn)))
    have hw0 : len * 40 ≤ R := Nat.le_trans (Nat.mul_le_mul_right 40 (Nat.le_add_right len (m - len))) (hR ((len + (m - len)) * 40) (by
      rw [hxe]
      simp [DataW.weights, ht, h40]))
    rw [hc] at hx
    obtain ⟨f, hf⟩ := choose_lt (α := BlkV) (n := len) (p := fun i c => w.cells? base (a.add (i * 3)) 3 = some (blkVCells c) ∧ CardV.good w w.heap.size c.data ∧ c.data.2.1.length ≤ R) (fun i hi => by
      obtain ⟨cs', h4, h5⟩ := hx i (by omega)
      obtain ⟨xs, n', _, hde, hcl, hlen, hg⟩ := DataW.trod_struct he h5
      rw [hc] at hcl
      obtain ⟨u0, u1, u2, rfl⟩ := list_3 hcl
      obtain ⟨f0, e0, rfl⟩ := hf0
      obtain ⟨f1, e1, rfl⟩ := hf1
      obtain ⟨f2, e2, rfl⟩ := hf2
      have hfs : 3 ≤ fs.size := (Array.getElem?_eq_some_iff.1 e2).1
      have g0 := hg 0 f0 e0
      have g1 := hg 1 f1 e1
      have g2 := hg 2 f2 e2
      rw [(hone_of hone 0 f0 e0).1, (hone_of hone 0 f0 e0).2, List.getElem?_eq_getElem (by omega)] at g0
      rw [(hone_of hone 1 f1 e1).1, (hone_of hone 1 f1 e1).2, List.getElem?_eq_getElem (by omega)] at g1
      rw [(hone_of hone 2 f2 e2).1, (hone_of hone 2 f2 e2).2, List.getElem?_eq_getElem (by omega)] at g2
      simp only [List.drop_zero, List.drop_succ_cons, List.take_succ_cons, List.take_zero] at g0 g1 g2
      obtain ⟨z0, q0, _⟩ := DataW.trod_bool h0 g0
      obtain ⟨c1, rfl, G1⟩ := open_card h1 hb hcb g1
      have hcw := card_weight h1 hb hcb hb1 g1 (fun n hn => hw1 i hi n (by
        rw [(Prod.mk.inj hde).1]
        simp only [DataW.weights, he]
        exact DataW.weights_mem_each (j := 1) (t := f1.type) (d := xs[1].1) (by simp [e1]) (by rw [List.getElem?_map, List.getElem?_eq_getElem (by omega)]; rfl) n hn))
      obtain ⟨z2, q2, _⟩ := DataW.trod_bool h2 g2
      obtain rfl := (List.cons.inj q0).1
      obtain rfl := (List.cons.inj q2).1
      exact ⟨⟨z0, c1, z2⟩, h4, G1, hcw⟩)
    refine ⟨some a, ((List.range len).map f).map BlkV.blk, cap, by rw [(List.cons.inj hcs).1]; simp, by simpa using hl, hm, ?_, by simpa using hw0, ?_⟩
    rotate_left
    · intro b hb
      simp only [List.mem_map, List.mem_range] at hb
      obtain ⟨_, ⟨i, hi, rfl⟩, rfl⟩ := hb
      exact (hf i hi).2.2
    intro i b hb
    rw [List.getElem?_map, List.getElem?_map] at hb
    by_cases hi : i < len
    · rw [List.getElem?_range hi] at hb
      simp only [Option.map_some, Option.some.injEq] at hb
      subst hb
      obtain ⟨h4, G1, _⟩ := hf i hi
      have c0 := (World.cells?_some h4).2.2 0 (by omega)
      have c1 := (World.cells?_some h4).2.2 1 (by omega)
      have c2 := (World.cells?_some h4).2.2 2 (by omega)
      have hspot : a.spot = none := by
        have d0 := (World.cells?_some (hf 0 (by omega)).1).2.2 0 (by omega)
        exact World.cell?_spot (v := .bool (f 0).mark) (a := a) (by simpa [Addr.add, blkVCells] using d0)
      obtain ⟨g, off, spot⟩ := a
      have hspot' : spot = none := hspot
      subst hspot'
      rw [add_add, add_none] at c0 c1 c2
      exact ⟨g, off, _, _, rfl, c0, c1, c2, G1.1, G1.2.1, G1.2.2⟩
    · rw [List.getElem?_eq_none (by simpa using hi)] at hb
      cases hb
end
end Go.Proofs.Ytbbokikjpabfkaa
