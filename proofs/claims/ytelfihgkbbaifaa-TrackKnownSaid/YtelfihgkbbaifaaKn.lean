/- An append of which the old slice is read on. -/
import Derived.Test.YtelfihgkbbaifaaWorks
import Derived.Test.YtelfihgkbbaifaaKeep
namespace Go.Proofs.Ytelfihgkbbaifaa
open Go.RowKit
theorem recsAt_of {w : World} {B : Nat} {A : Option Addr} {ps : List RV} (h : At w B A (ps.flatMap recCells)) (hv : ∀ p ∈ ps, RecV w p) : RecsAt w A (ps.map Prod.snd) := fun i x hx => by
  rw [List.getElem?_map] at hx
  cases hp : ps[i]? with
  | none => rw [hp] at hx; cases hx
  | some p =>
    rw [hp] at hx; injection hx with hx; subst hx
    have hc := fun k (hk : k < 4) => recCells_get ps i k p hp hk
    have hne : ps.flatMap recCells ≠ [] := fun e => by
      have := hc 0 (by omega)
      rw [e] at this
      simp [recCells] at this
    obtain ⟨b, off, hA, _, hcell⟩ := h hne
    obtain ⟨Ak, ck, Ad, cd, e, h1, h2⟩ := hv p (List.mem_iff_getElem?.2 ⟨i, hp⟩)
    have c0 := hcell (i * 4 + 0) (.int .i64 p.2.r) (by rw [hc 0 (by omega)]; rfl)
    have c1 := hcell (i * 4 + 1) p.1.1 (by rw [hc 1 (by omega)]; rfl)
    have c2 := hcell (i * 4 + 2) p.1.2 (by rw [hc 2 (by omega)]; rfl)
    have c3 := hcell (i * 4 + 3) (.bool p.2.bad) (by rw [hc 3 (by omega)]; rfl)
    rw [e] at c1 c2
    exact ⟨b, off, Ak, ck, Ad, cd, hA, c0, c1, c2, c3, h1, h2⟩
theorem wp_pushK {P : Program} {W w : World} {F : List SA} {e : TypeId} {z : Value} {size bytes : Nat} {o : Oper} {a : Act} {Q : Exit → Act → World → Prop} {K : Act → World → Prop}
    (s x : Operand) (t : TypeId) (ho : o.op = .call { callee := .builtin .append, args := #[s, x], argTypes := #[t, t] }) (E : Elem P t e z size bytes)
    (w0 : World) (us : List Value) (k : Nat) (hw : w = w0.alloc (.cells us.toArray e)) (hus : us.length = k * size) (h1 : ∀ u ∈ us, u.oneCell' = true)
    (A : Option Addr) (n c : Nat) (xs : List Value) (hs : a.eval s = .slice A n c) (hx : a.eval x = .slice (some ⟨w0.heap.size, 0, none⟩) k k) (S : SL W (rowS e size (.slice A n c) n xs :: F) w0)
    (h63 : n + k ≤ maxLen) (hbytes : (n + k) * bytes ≤ 140737488355328)
    (h : ∀ A' c' w', SL W (rowS e size (.slice A' (n + k) c') (n + k) (xs ++ us) :: F) w' → At w' w'.heap.size A xs → K (a.put o.dst (.slice A' (n + k) c')) w') : o.wp P a w K Q := by
  have S' : SL W (rowS e size (.slice A n c) n xs :: F) w := by rw [hw]; exact (S.allocC us.toArray e).drop
  have hc : ∀ j u, us[j]? = some u → w.cell? ((⟨w0.heap.size, 0, none⟩ : Addr).add j) = some u := by
    intro j u hu
    rw [hw, add_none, Nat.zero_add, cell_of_row _ _ _ _ e (0, 0) (heap_alloc_new w0 _)]
    simpa using hu
  obtain ⟨i, hi, hz, hsi, hb⟩ := info_parts E.info
  have hown := S'.own
  obtain ⟨v', w', hrun, ho', hg, _, hat⟩ := run_append_own_at (P := P) w W.heap.size t o.type e i z size bytes E.under hi hz hsi hb E.cells E.pos _ n xs hown ⟨w0.heap.size, 0, none⟩ k k us hus hc h1 h63 hbytes S'.size
  obtain ⟨A', c', rfl, _, _⟩ := own_slice ho'
  have hA : At w' w'.heap.size A xs := by
    rcases hown.2 with ⟨hv, h0⟩ | ⟨g, cap, cur, hv, hbg, hgr, hnc, hcm, hcs, htake⟩
    · have hx0 : xs = [] := List.eq_nil_of_length_eq_zero (by have := hown.1; rw [h0, Nat.zero_mul] at this; exact this)
      subst hx0
      exact At.nil_
    · injection hv with hv1 _ hv2
      subst hv1; subst hv2
      by_cases hroom : n + k ≤ c
      · have hr := run_append_room (P := P) w t o.type e i E.under hi g n c cur hgr ⟨w0.heap.size, 0, none⟩ k k us (by rw [hsi]; exact hus) hc h1 hroom (by rw [hsi, hus, hcs, ← Nat.add_mul]; exact Nat.mul_le_mul_right _ hroom)
        rw [hr] at hrun
        injection hrun with hv _
        injection hv with hv _ _
        subst hv
        have h3 := (own_at3 ho').take xs.length
        rw [List.take_left] at h3
        exact h3
      · have hr := run_append_grow (P := P) w t o.type e i z E.under hi hz ⟨g, 0, none⟩ n c xs (by rw [hsi]; exact hown.1) (fun j u hu => by
          have h3 := own_at3 hown (fun e0 => by rw [e0] at hu; simp at hu)
          obtain ⟨b2, off2, e2, _, hcell⟩ := h3
          injection e2 with e2; injection e2 with e2 e3; subst e2; subst e3
          rw [add_none]; exact hcell j u hu) ⟨w0.heap.size, 0, none⟩ k k us (by rw [hsi]; exact hus) hc (by omega) (by unfold maxLen at h63; omega) (by rw [hb]; exact growslice_fits (by omega) hbytes)
        rw [hr] at hrun
        injection hrun with _ hw'
        have hbl : Below w.heap.size w w' := by rw [← hw']; exact ((Below.refl _ _).drew).alloc (Nat.le_refl _) _
        exact ((own_at3 hown).below hbl).mono hbl.size
  refine wp_known _ w' ?_ (h A' c' w' (S'.regrown hg ho' hat) hA)
  unfold execOp
  simp only [ho, resolve, invoke, builtin, Sem.run_bind, Sem.run_pure, Result.andThen_ok, List.map_toArray, List.map_cons, List.map_nil, hs, hx, hrun]
theorem wp_makeS {P : Program} {W w : World} {F : List SA} {e : TypeId} {z : Value} {size bytes : Nat} {o : Oper} {a : Act} {Q : Exit → Act → World → Prop} {K : Act → World → Prop} (l c : Operand) (t : TypeId) (ho : o.op = Op.makeSlice t l c) (E : Elem P t e z size bytes) (kl kc : IntKind) (L C : Int) (n : Nat) (hl : a.eval l = .int kl L) (hc : a.eval c = .int kc C) (hL : L = (n : Int)) (hC : C = (n : Int))
    (hb : bytes * n ≤ 281474976710656) (hm : n ≤ maxLen) (S : SL W F w)
    (h : ∀ g w', SL W (rowS e size (.slice (some ⟨g, 0, none⟩) n n) n (madeCells z.cells (n * size)).toList :: F) w' → Below w.heap.size w w' → K (a.put o.dst (.slice (some ⟨g, 0, none⟩) n n)) w') : o.wp P a w K Q := by
  obtain ⟨i, hi, hz, hsi, hby⟩ := info_parts E.info
  obtain ⟨w', hrun, r1, r2⟩ := run_make_full (P := P) w w.heap.size t e i z size E.under hi hz hsi kl kc n (by rw [hby]; exact hb) hm (Nat.le_refl _)
  have hbl : Below w.heap.size w w' := (Below.refl _ _).grown r2 (Nat.le_refl _) (by intro k hk; cases hk)
  subst hL
  subst hC
  unfold Oper.wp
  simp [execOp, ho, hl, hc, hrun, Result.andThen]
  exact h _ w' (S.made r1 hbl) hbl
theorem step_makeS {P : Program} {W w : World} {F : List SA} {e : TypeId} {z : Value} {size bytes : Nat} {ops : Array Oper} {o : Oper} {a : Act} {Q : Exit → Act → World → Prop} {K : Act → World → Prop} {X : Prop} (hgd : o.guard = none) (l c : Operand) (t : TypeId) (ho : o.op = Op.makeSlice t l c) (E : Elem P t e z size bytes) (kl kc : IntKind) (L C : Int) (n : Nat) (hl : a.eval l = .int kl L) (hc : a.eval c = .int kc C) (hL : L = (n : Int)) (hC : C = (n : Int))
    (hb : bytes * n ≤ 281474976710656) (hm : n ≤ maxLen) (S : SL W F w)
    (h : ∀ g w', SL W (rowS e size (.slice (some ⟨g, 0, none⟩) n n) n (madeCells z.cells (n * size)).toList :: F) w' → Below w.heap.size w w' → K (a.put o.dst (.slice (some ⟨g, 0, none⟩) n n)) w') : if Region.wanted o (yielded ops a.tmps) = true then Oper.wp P o a w K Q else X := by
  rw [if_pos (by simp [Region.wanted, hgd])]
  exact wp_makeS l c t ho E kl kc L C n hl hc hL hC hb hm S h
theorem RecV.bare {w : World} {n : Int} {Ak Ad : Option Addr} {ck cd : Nat} (h : RecV w ((.slice Ak 0 ck, .slice Ad 0 cd), ⟨n, [], [], false⟩)) (wx : World) : RecV wx ((.slice Ak 0 ck, .slice Ad 0 cd), ⟨n, [], [], false⟩) := by
  obtain ⟨h1, h2⟩ := RecV.get (x := ⟨n, [], [], false⟩) h
  exact ⟨Ak, ck, Ad, cd, rfl, ⟨At.nil_, h1.2⟩, ⟨At.nil_, h2.2⟩⟩
theorem valid_lit2 (w : World) (ps : List RV) (n : Nat) (hn : ps.length = n) (h1000 : n ≤ 1000) (hv : ∀ p ∈ ps, RecV w p) (q : Bool) (hq : validB (ps.map Prod.snd) = q) (hf : ∀ p ∈ ps, p.2.key.length ≤ 100000 ∧ p.2.data.length ≤ 100000) :
    Calls Try.prog 26 #[.slice (some ⟨w.heap.size, 0, none⟩) n n] (w.alloc (.cells (ps.flatMap recCells).toArray 25)) fun e w' => e = .returned (.bool q) ∧ Below w.heap.size w w' := by
  subst hq; subst hn
  have h := valid_any (some ⟨w.heap.size, 0, none⟩) (ps.map Prod.snd) ps.length _ (recs_lit ps hv h1000) ⟨by rw [List.length_map]; omega, fun x hx => by
    obtain ⟨p, hp, rfl⟩ := List.mem_map.1 hx
    have := hf p hp; omega⟩
  rw [List.length_map] at h
  refine h.mono ?_
  rintro e w' ⟨he, b⟩
  exact ⟨he, ((Below.refl _ _).alloc (Nat.le_refl _) _).trans (b.mono (by rw [World.size_alloc]; omega))⟩
theorem used_lit2 (w : World) (ps : List RV) (n : Nat) (hn : ps.length = n) (h1000 : n ≤ 1000) (hv : ∀ p ∈ ps, RecV w p) (q : Nat) (hq : usedN (ps.map Prod.snd) = q) (hf : ∀ p ∈ ps, p.2.key.length ≤ 100000 ∧ p.2.data.length ≤ 100000) :
    Calls Try.prog 31 #[.slice (some ⟨w.heap.size, 0, none⟩) n n] (w.alloc (.cells (ps.flatMap recCells).toArray 25)) fun e w' => e = .returned (.int .i64 (q : Int)) ∧ Below w.heap.size w w' := by
  subst hq; subst hn
  have h := used_any (some ⟨w.heap.size, 0, none⟩) (ps.map Prod.snd) ps.length _ (recs_lit ps hv h1000) ⟨by rw [List.length_map]; omega, fun x hx => by
    obtain ⟨p, hp, rfl⟩ := List.mem_map.1 hx
    have := hf p hp; omega⟩
  rw [List.length_map] at h
  refine h.mono ?_
  rintro e w' ⟨he, b⟩
  exact ⟨he, ((Below.refl _ _).alloc (Nat.le_refl _) _).trans (b.mono (by rw [World.size_alloc]; omega))⟩
/-- What 'make([]byte, n)' leaves, as a function of the world. -/
theorem mk_make (n : Nat) (hn : n ≤ 1073741824) : ∃ mk : World → World, ∀ wx : World, (Instr.makeSlice 23 (.int .i64 (n : Int)) (.int .i64 (n : Int))).run Try.prog wx = .ok (.slice (some ⟨wx.heap.size, 0, none⟩) n n) (mk wx) ∧ Below wx.heap.size wx (mk wx) ∧
    CardAt (mk wx) (some ⟨wx.heap.size, 0, none⟩) (List.replicate n 0) n := by
  have h : ∀ wx : World, ∃ w' : World, (Instr.makeSlice 23 (.int .i64 (n : Int)) (.int .i64 (n : Int))).run Try.prog wx = .ok (.slice (some ⟨wx.heap.size, 0, none⟩) n n) w' ∧ Below wx.heap.size wx w' ∧
      CardAt w' (some ⟨wx.heap.size, 0, none⟩) (List.replicate n 0) n := fun wx => by
    obtain ⟨i, hi, hz, hsi, hby⟩ := info_parts (P := Try.prog) bElem.info
    obtain ⟨w', hrun, r1, r2⟩ := run_make_full (P := Try.prog) wx wx.heap.size 23 5 i _ 1 bElem.under hi hz hsi .i64 .i64 n (by rw [hby]; omega) (by unfold maxLen; omega) (Nat.le_refl _)
    have hb : Below wx.heap.size wx w' := (Below.refl _ _).grown r2 (Nat.le_refl _) (by intro k hk; cases hk)
    exact ⟨w', hrun, hb, by rw [zeros_made]; exact own_at r1, by simp, by unfold maxLen; omega⟩
  exact ⟨fun wx => Classical.choose (h wx), fun wx => Classical.choose_spec (h wx)⟩
theorem box4 {W w : World} {F : List SA} {x : Nat} {T : TypeId} (S : SL W (cel x #[.int .i64 0, .slice none 0 0, .slice none 0 0, .bool false] T :: F) w) (a b : Value) : SL W (cel x #[.int .i64 1, a, b, .bool false] T :: F) ((((w.setCell ⟨x, 0, none⟩ (.int .i64 1)).setCell ⟨x, 1, none⟩ a).setCell ⟨x, 2, none⟩ b).setCell ⟨x, 3, none⟩ (.bool false)) :=
  (((S.set (cs' := #[.int .i64 1, .slice none 0 0, .slice none 0 0, .bool false]) rfl).set (cs' := #[.int .i64 1, a, .slice none 0 0, .bool false]) rfl).set (cs' := #[.int .i64 1, a, b, .bool false]) rfl).set rfl
theorem card4 {w : World} {x b off c : Nat} {l : List UInt8} {a0 a1 a2 a3 : Value} (h : CardAt w (some ⟨b, off, none⟩) l c) (hne : x ≠ b) : CardAt ((((w.setCell ⟨x, 0, none⟩ a0).setCell ⟨x, 1, none⟩ a1).setCell ⟨x, 2, none⟩ a2).setCell ⟨x, 3, none⟩ a3) (some ⟨b, off, none⟩) l c :=
  (((h.far _ hne).far _ hne).far _ hne).far _ hne
theorem card_lt {w : World} {b off c n : Nat} (h : CardAt w (some ⟨b, off, none⟩) (List.replicate (n + 1) 0) c) : b < w.heap.size := by
  obtain ⟨b2, off2, e, hb, _⟩ := h.1 (by simp [Lib.byteCells, List.replicate_succ])
  injection e with e; injection e with e1 _
  subst e1; exact hb
/-- The 64 records of the chapter's full track. -/
def manyL (k : Nat) : List Rec := (List.range k).map fun (j : Nat) => ⟨4 * ((j : Int) + 1) - 1, [], [], false⟩
theorem manyL_succ (k : Nat) : manyL (k + 1) = manyL k ++ [⟨4 * ((k : Int) + 1) - 1, [], [], false⟩] := by
  unfold manyL; rw [List.range_succ, List.map_append]; rfl
theorem manyL_len (k : Nat) : (manyL k).length = k := by simp [manyL]
theorem card_none {w : World} : CardAt w none [] 0 := ⟨At.nil_, Nat.le_refl _, by unfold maxLen; omega⟩
def xBad : Rec := ⟨1, [], [], true⟩
theorem enc_lit (w : World) (c h : Int) (er : Nat) (he : encE c h [xBad] = er) (hb : encB c h [xBad] = []) : Calls Try.prog 23 #[.int .i64 c, .int .i64 h, .slice (some ⟨w.heap.size, 0, none⟩) 1 1] (w.alloc (.cells #[.int .i64 1, .slice none 0 0, .slice none 0 0, .bool true] 25)) fun e w' => ∃ A n, e = .returned (.tuple #[.slice A 0 n, .int .i64 (er : Int)]) ∧ Below w.heap.size w w' := by
  have hr := recs_lit (w := w) [((.slice none 0 0, .slice none 0 0), xBad)] (all1 ⟨none, 0, none, 0, rfl, card_none, card_none⟩) (by simp)
  have hc := encode_any (some ⟨w.heap.size, 0, none⟩) [xBad] 1 c h (SL.start _) hr ⟨by simp, fun x hx => by obtain rfl := List.mem_singleton.1 hx; exact ⟨by simp [xBad], by simp [xBad]⟩⟩
  rw [he, hb] at hc
  refine hc.mono ?_
  rintro e w' ⟨A, n, he, S⟩
  exact ⟨A, n, he, ((Below.refl _ _).alloc (Nat.le_refl _) _).trans (S.below.mono (by rw [World.size_alloc]; omega))⟩
def xLong : Rec := ⟨1, List.replicate 255 0, List.replicate 1745 0, false⟩
def xOver : Rec := ⟨1, List.replicate 256 0, [], false⟩
def tBads : List Rec := [⟨1, [65], [], true⟩, ⟨2, [65], [], false⟩]
theorem card_mark (w : World) (fr : Nat × Nat) : CardAt (w.alloc (.cells #[.int .u8 65] 5 fr)) (some ⟨w.heap.size, 0, none⟩) [65] 1 :=
  ⟨fun _ => ⟨_, 0, rfl, by simp, fun j u hu => by rw [Nat.zero_add, cell_of_row _ _ j _ _ fr (heap_alloc_new w _)]; simpa [Lib.byteCells] using hu⟩, by simp, by unfold maxLen; omega⟩
theorem many_fit : Fit (manyL 64) := ⟨by rw [manyL_len]; omega, fun x hx => by
  unfold manyL at hx
  obtain ⟨j, _, rfl⟩ := List.mem_map.1 hx
  exact ⟨by simp, by simp⟩⟩
end Go.Proofs.Ytelfihgkbbaifaa
