/- SMap, Sort, NewL. -/
import Derived.Test.YtfhpaehfihnjaaaGreatKitA
import Derived.Test.YtfhpaehfihnjaaaGreatDD
import Derived.Test.YtfhpaehfihnjaaaGreatSetX
import Derived.Test.YtfhpaehfihnjaaaGreatNewM
import Derived.Test.YtfhpaehfihnjaaaGreatShelf
import Derived.BigRegion
set_option maxRecDepth 100000
namespace Go.Proofs.YtfhpaehfihnjaaaGreat
open Go.RowKit
theorem ba_beq (a b : ByteArray) : (a == b) = decide (a = b) := by
  cases a with | mk a => cases b with | mk b =>
  show (a == b) = _
  by_cases h : a = b
  · subst h; simp
  · rw [decide_eq_false (by intro e; injection e with e; exact h e)]
    simpa using h
def hasS (l : List ByteArray) (k : ByteArray) : Bool := l.any fun a => decide (a = k)
def setE (l : List ByteArray) : List MapEntry := (l.zipIdx).map fun p => ⟨.string p.1, .bool true, p.2⟩
theorem find_str (k : ByteArray) : ∀ (l : List ByteArray) (n i : Nat), ∃ r, Instr.findNow .string (.string k) ((l.zipIdx n).map fun p => (⟨.string p.1, .bool true, p.2⟩ : MapEntry)) i = some r ∧ r.map Prod.snd = if hasS l k = true then some (Value.bool true) else none
  | [], _, _ => ⟨none, rfl, rfl⟩
  | a :: l, n, i => by
    obtain ⟨r, h1, h2⟩ := find_str k l (n + 1) (i + 1)
    by_cases h : k = a
    · refine ⟨some (i, .bool true), ?_, ?_⟩
      · simp [List.zipIdx_cons, Instr.findNow, Instr.sameNow, ba_beq, h]
      · simp [h, hasS]
    · refine ⟨r, ?_, ?_⟩
      · simp [List.zipIdx_cons, Instr.findNow, Instr.sameNow, ba_beq, h]
        exact h1
      · rw [h2]
        have h' : hasS (a :: l) k = hasS l k := by unfold hasS; rw [List.any_cons, decide_eq_false (fun e => h e.symm), Bool.false_or]
        rw [h']
theorem setE_push (l : List ByteArray) (k : ByteArray) : (setE l).toArray.push ⟨.string k, .bool true, l.length⟩ = (setE (l ++ [k])).toArray := by
  unfold setE
  rw [List.zipIdx_append, List.map_append]
  simp
def strS (b : Nat) (l : List ByteArray) : SA := pts b (.map (setE l).toArray l.length)
section
variable {P : Program} {W w : World} {F : List SA}
theorem run_addS {T kt et : TypeId} (hT : P.underlying T = some (.map kt et)) (hk : P.underlying kt = some .string) {b : Nat} {l : List ByteArray} (S : SL W (strS b l :: F) w) (k : ByteArray) (hl : hasS l k = false) :
    ∃ w', (Instr.mapUpdate T (.map (some b)) (.string k) (.bool true)).run P w = .ok () w' ∧ SL W (strS b (l ++ [k]) :: F) w' := by
  have hb : w.heap[b]? = some (.map (setE l).toArray l.length) := SL.row S
  obtain ⟨r, h1, h2⟩ := find_str k l 0 0
  rw [if_neg (by rw [hl]; decide)] at h2
  obtain rfl : r = none := by cases r <;> simp_all
  have hf : Instr.findNow .string (.string k) (setE l).toArray.toList 0 = some none := h1
  have hkey : MapKept.IsKey .string (.string k) := by simp [MapKept.IsKey]
  refine ⟨Go.ChangeMaps.setBlock w b (.map ((setE l).toArray.push ⟨.string k, .bool true, l.length⟩) (l.length + 1)), ?_, ?_⟩
  · simp [Instr.mapUpdate, run_underlying hT, MapKept.run_getObj_map hb, MapKept.run_checkKey hk hkey, MapKept.run_findKey hk hf, MapKept.run_setObj_map _ hb, Result.andThen, Go.ChangeMaps.setBlock]
  · rw [setE_push]
    have hlen : (l ++ [k]).length = l.length + 1 := by simp
    unfold strS
    rw [hlen]
    exact SL.turn S (D.heap_set1 hb) ⟨rfl, rfl, rfl, by simp [Go.ChangeMaps.setBlock], fun c _ hne => (MapKept.heap_set hb).2 c hne⟩
theorem run_hasS {T kt et : TypeId} (hT : P.underlying T = some (.map kt et)) (hk : P.underlying kt = some .string) (hz : ∀ w, (zeroValue et).run P w = .ok (.bool false) w) {b : Nat} {l : List ByteArray} (S : SL W (strS b l :: F) w) (k : ByteArray) :
    (Instr.lookup T (.map (some b)) (.string k) false).run P w =   .ok (.bool (hasS l k)) w := by
  have hb : w.heap[b]? = some (.map (setE l).toArray l.length) := SL.row S
  obtain ⟨r, h1, h2⟩ := find_str k l 0 0
  have hf : Instr.findNow .string (.string k) (setE l).toArray.toList 0 = some r := h1
  have hkey : MapKept.IsKey .string (.string k) := by simp [MapKept.IsKey]
  cases r with
  | none =>
    have hn : hasS l k = false := by
      cases h : hasS l k
      · rfl
      · rw [if_pos h] at h2; simp at h2
    simp [Instr.lookup, run_underlying hT, MapKept.run_getObj_map hb, MapKept.run_checkKey hk hkey, MapKept.run_findKey hk hf, Result.andThen, hz, hn]
  | some r =>
    have hy : hasS l k = true := by
      cases h : hasS l k
      · rw [if_neg (by rw [h]; decide)] at h2; simp at h2
      · rfl
    rw [if_pos hy] at h2
    have hr : r.2 = .bool true := by simpa using h2
    simp [Instr.lookup, run_underlying hT, MapKept.run_getObj_map hb, MapKept.run_checkKey hk hkey, MapKept.run_findKey hk hf, Result.andThen, hy, hr]
end
end Go.Proofs.YtfhpaehfihnjaaaGreat
namespace Go.Proofs.YtfhpaehfihnjaaaGreat
open Go.RowKit Go.Shelf Go.Sort
section
variable {W w : World} {F : List SA} {bs : List (Nat × Nat)} {us : List UN}
set_option maxHeartbeats 2000000 in
theorem cmp_any (a b : Nat) (x y : Int) (hx : w.cell? ⟨a, 0, none⟩ = some (.int .i64 x)) (hy : w.cell? ⟨b, 0, none⟩ = some (.int .i64 y)) (bx : 0 ≤ x ∧ x < 1024) (by_ : 0 ≤ y ∧ y < 1024) :
    Calls Tryz.prog 26 #[ptrV a, ptrV b] w fun e w' => e = .returned (.int .i64 (x - y)) ∧ ∃ q, w' = w.drewN q := by
  unfold ptrV
  obtain ⟨b1, b2⟩ := bx
  obtain ⟨b3, b4⟩ := by_
  go_enter Tryz.func26, Tryz.ntmps26
  have hw : IntKind.i64.wrap (x - y) = x - y := IntWalk.i64_in _ (by omega)
  go_wp2
  go_big_region
  go_wp2
  go_ret
  exact ⟨rfl, by first | exact ⟨0, rfl⟩ | exact ⟨1, rfl⟩⟩
theorem heap_grow {w : World} {os : Array Obj} {k : Nat} (h : k < w.heap.size) : (Sort.grow w os).heap[k]? = w.heap[k]? := by
  unfold Sort.grow
  exact Array.getElem?_append_left h
theorem sorted_row {α : Type} [Inhabited α] {enc : α → Value} {g m : Nat} {d : Array α} {os : Array Obj} {cur : Array Value} {t : TypeId} (h : w.heap[g]? = some (.cells cur t (0, 0))) :
    (sortWorld enc w g 0 m d os).heap[g]? = some (.cells (putCells enc 0 d cur) t (0, 0)) := by
  have hg := hl_lt h
  unfold sortWorld
  rw [heap_grow (by simp [putRow, mapBlock, Sort.ahead]; exact hg)]
  unfold putRow mapBlock Sort.ahead
  dsimp only
  rw [Array.getElem?_modify, if_pos rfl, h]
  rfl
theorem sorted_fr {α : Type} [Inhabited α] {enc : α → Value} {g m : Nat} {d : Array α} {os : Array Obj} : Fr (fun b => b = g) w (sortWorld enc w g 0 m d os) := by
  refine ⟨rfl, rfl, rfl, ?_, fun b hb hn => ?_⟩
  · unfold sortWorld Sort.grow putRow mapBlock Sort.ahead
    simp
  · unfold sortWorld
    rw [heap_grow (by simp [putRow, mapBlock, Sort.ahead]; exact hb)]
    unfold putRow mapBlock Sort.ahead
    dsimp only
    rw [Array.getElem?_modify, if_neg (fun e => hn e.symm)]
theorem fin_map {α β : Type} (l : List α) (f : α → β) : (List.finRange l.length).map (fun i => f l[i]) = l.map f := by
  apply List.ext_getElem
  · simp
  · intro i h1 h2
    simp
theorem fin_zip {bs : List (Nat × Nat)} {us : List UN} (hb : bs.length = us.length) : (List.finRange us.length).map (fun i => oneS (bs[i.1]'(by omega)) (us[i.1]'i.2)) = List.zipWith oneS bs us := by
  apply List.ext_getElem
  · simp [hb]
  · intro i h1 h2
    simp
theorem zip_map (L : List (Fin us.length)) (hb : bs.length = us.length) : List.zipWith oneS (L.map fun i => bs[i.1]'(by omega)) (L.map fun i => us[i.1]'i.2) = L.map (fun i => oneS (bs[i.1]'(by omega)) (us[i.1]'i.2)) := by
  induction L with
  | nil => rfl
  | cons a L ih => simp only [List.map_cons, List.zipWith_cons_cons, ih]
def AddrOk (us : List UN) : Prop := (∀ u ∈ us, 0 ≤ u.conf.addr ∧ u.conf.addr < 1024) ∧ ∀ i j (hi : i < us.length) (hj : j < us.length), us[i].conf.addr = us[j].conf.addr → i = j
theorem ptrs_get {i : Nat} {p : Nat × Nat} (h : bs[i]? = some p) : (ptrs bs)[i]? = some (ptrV p.1) := by unfold ptrs; rw [List.getElem?_map, h]; rfl
set_option maxHeartbeats 4000000 in
theorem sort_any {A : Option Addr} {c : Nat} (hb : bs.length = us.length) (ha : AddrOk us) (hz : us.length ≤ 16) (S : SL W (rowS 70 1 (.slice A us.length c) us.length (ptrs bs) :: star (List.zipWith oneS bs us) :: F) w) :
    Calls Tryz.prog 25 #[.slice A us.length c, .func (.func 26) #[] #[]] w fun e w' => e = .returned (.tuple #[]) ∧ ∃ bs', bs'.length = (us.mergeSort leU).length ∧
      SL W (rowS 70 1 (.slice A us.length c) us.length (ptrs bs') :: star (List.zipWith oneS bs' (us.mergeSort leU)) :: F) w' := by
  rcases Nat.eq_zero_or_pos us.length with h0 | h0
  · have hus : us = [] := List.eq_nil_of_length_eq_zero h0
    subst hus
    have hbs : bs = [] := List.eq_nil_of_length_eq_zero (by simpa using hb)
    subst hbs
    refine (Tryz.slices_SortFunc_none (α := Nat) A c _ w).mono ?_
    rintro e w' ⟨rfl, rfl⟩
    exact ⟨rfl, [], by simp, by simpa using S⟩
  · obtain ⟨g, cap, cur, hv, hc1, hc2, hc3, hc4, S1⟩ := S.rowCel h0
    injection hv with hA _ hcap
    subst hA; subst hcap
    haveI : Inhabited (Fin us.length) := ⟨⟨0, h0⟩⟩
    let enc : Fin us.length → Value := fun i => ptrV (bs[i.1]'(by omega)).1
    let cf : Fin us.length → Fin us.length → Int := fun i j => us[i].conf.addr - us[j].conf.addr
    have hlt : ∀ x y, ltOf cf x y = decide (us[x].conf.addr < us[y].conf.addr) := fun x y => by
      unfold ltOf
      simp only [cf]
      congr 1
      exact propext ⟨fun h => by omega, fun h => by omega⟩
    have hO : SWO (ltOf cf) := ⟨fun x => by rw [hlt]; simp, fun x y z h1 h2 => by rw [hlt] at *; simp at *; omega, fun x y z h1 h2 => by rw [hlt] at *; simp at *; omega⟩
    have hT : ∀ x y, ltOf cf x y = false → ltOf cf y x = false → x = y := fun x y h1 h2 => by
      rw [hlt] at h1 h2
      simp at h1 h2
      exact Fin.ext (ha.2 x.1 y.1 x.2 y.2 (by have := h1; have := h2; simp at *; omega))
    let d : Array (Fin us.length) := (List.finRange us.length).toArray
    have hds : d.size = us.length := by simp [d]
    have hdg : ∀ j (h : j < us.length), d[j]! = ⟨j, h⟩ := fun j h => by
      rw [getElem!_pos d j (by omega)]
      simp [d]
    have hrow : ∀ i (h : i < us.length), ∃ ts, w.heap[(bs[i]'(by omega)).1]? = some (.cells ts 80 (0, 0)) ∧ ts[0]? = some (.int .i64 us[i].conf.addr) ∧ (bs[i]'(by omega)).1 ≠ g := fun i h => by
      have hp : bs[i]? = some ((bs[i]'(by omega)).1, (bs[i]'(by omega)).2) := List.getElem?_eq_getElem (by omega)
      have h2 := one_open hp (List.getElem?_eq_getElem h) S1.s1
      exact ⟨_, h2.crow, rfl, h2.s3.s1.cne⟩
    have hH : Holds enc w g 0 d := fun j hj => by
      rw [hds] at hj
      have hp : bs[j]? = some (bs[j]'(by omega)) := List.getElem?_eq_getElem (by omega)
      obtain ⟨L, K, _⟩ := S1.look
      refine ⟨?_, K _⟩
      rw [hdg j hj, L, Nat.zero_add]
      have h3 := ptrs_get hp
      rw [← hc4, List.getElem?_take_of_lt (by omega), Array.getElem?_toList] at h3
      exact h3
    have hcmp : CmpLays1 Tryz.prog 26 #[] enc cf g 0 d.size w := CmpReads.lays fun m os dk _ x y => by
      obtain ⟨tx, hx1, hx2, hx3⟩ := hrow x.1 x.2
      obtain ⟨ty, hy1, hy2, hy3⟩ := hrow y.1 y.2
      have gx := (sorted_fr (enc := enc) (g := g) (m := m) (d := dk) (os := os)).row hx1 hx3
      have gy := (sorted_fr (enc := enc) (g := g) (m := m) (d := dk) (os := os)).row hy1 hy3
      exact cmp_any _ _ _ _ (((row_look gx).1 0).trans hx2) (((row_look gy).1 0).trans hy2) (ha.1 _ (List.getElem_mem x.2)) (ha.1 _ (List.getElem_mem y.2))
    have hsort := Tryz.slices_SortFunc_total enc (fun _ => rfl) cf hO 26 #[] g 0 c d w (fun args w => by rfl) hcmp hH S1.look.2.2 (by rw [hds]; omega) hT
    rw [hds] at hsort
    refine hsort.mono ?_
    rintro e w' ⟨rfl, m, os, rfl⟩
    refine ⟨rfl, ?_⟩
    -- the sorted indices
    obtain ⟨L, hL⟩ : ∃ L, L = d.toList.mergeSort (fun x y => !(ltOf cf) y x) := ⟨_, rfl⟩
    rw [← hL]
    have hperm : L.Perm (List.finRange us.length) := by rw [hL]; exact List.mergeSort_perm _ _
    have hlen : L.length = us.length := by rw [hperm.length_eq]; simp
    have hle : ∀ x y : Fin us.length, (!(ltOf cf) y x) = leU us[x] us[y] := fun x y => by
      rw [hlt]; unfold leU
      by_cases h : us[x].conf.addr ≤ us[y].conf.addr
      · rw [decide_eq_true h, decide_eq_false (by omega)]; rfl
      · rw [decide_eq_false h, decide_eq_true (by omega)]; rfl
    have hus : L.map (fun i : Fin us.length => us[i.1]'i.2) = us.mergeSort leU := by
      rw [hL]
      refine (List.map_mergeSort (s := leU) (f := fun i : Fin us.length => us[i.1]'i.2) (fun a _ b _ => hle a b)).trans ?_
      congr 1
      have := fin_map us id
      simpa [d] using this
    have hsl : (us.mergeSort leU).length = us.length := List.length_mergeSort _
    refine ⟨L.map fun i => bs[i.1]'(by omega), by simp [hlen, hsl], ?_⟩
    rw [← hus, zip_map L hb]
    have S2 : SL W (cel g (putCells enc 0 L.toArray cur) 70 :: star (List.zipWith oneS bs us) :: F) (sortWorld enc w g 0 m L.toArray os) := SL.turn S1 (sorted_row S1.crow) sorted_fr
    rw [← fin_zip hb] at S2
    have S3 := S2.s1.head (b := star (L.map fun i => oneS (bs[i.1]'(by omega)) (us[i.1]'i.2))) (star_perm ((hperm.symm.map _)))
    refine SL.head S3.s1 (rowS_pts hc1 hc2 (by simp [putCells, hc3]) ?_)
    rw [Nat.mul_one]
    apply List.ext_getElem?
    intro k
    by_cases hk : k < us.length
    · have hkc : k < cur.size := by omega
      rw [List.getElem?_take_of_lt hk, Array.getElem?_toList]
      unfold putCells ptrs
      rw [Array.getElem?_mapIdx, Array.getElem?_eq_getElem hkc]
      simp only [Option.map_some]
      rw [if_pos ⟨Nat.zero_le _, by simp [hlen]; exact hk⟩, List.map_map, List.getElem?_map, List.getElem?_eq_getElem (by omega)]
      simp only [Option.map_some, Nat.sub_zero]
      rw [getElem!_pos L.toArray k (by simp; omega)]
      rfl
    · rw [List.getElem?_eq_none (by simp; omega), List.getElem?_eq_none (by simp [ptrs]; omega)]
end
end Go.Proofs.YtfhpaehfihnjaaaGreat
namespace Go.Proofs.YtfhpaehfihnjaaaGreat
theorem newUs_append : ∀ (a b : List Conf) (us : List UN), newUs (a ++ b) us = (newUs a us).bind (newUs b)
  | [], b, us => rfl
  | c :: a, b, us => by
    simp only [List.cons_append, newUs]
    cases newStep us c with
    | none => rfl
    | some us1 => simp only [Option.bind_some]; exact newUs_append a b us1
theorem newUs_take {l : List Conf} {k : Nat} {c : Conf} (hc : l[k]? = some c) : newUs (l.take (k + 1)) [] = (newUs (l.take k) []).bind fun us => newStep us c := by
  obtain ⟨hk, rfl⟩ := List.getElem?_eq_some_iff.1 hc
  rw [List.take_succ_eq_append_getElem hk, newUs_append]
  congr 1
  funext us
  simp only [newUs]
  cases newStep us l[k] <;> rfl
theorem newUs_none {l : List Conf} {k : Nat} (h : newUs (l.take k) [] = none) : newUs l [] = none := by
  rw [← List.take_append_drop k l, newUs_append, h]; rfl
def serials (us : List UN) : List ByteArray := (us.filter fun u => volB u.conf).map fun u => u.conf.serial
theorem has_serial (us : List UN) (k : ByteArray) : hasS (serials us) k = us.any (fun u => volB u.conf && decide (u.conf.serial = k)) := by
  induction us with
  | nil => rfl
  | cons u us ih =>
    unfold serials hasS at *
    cases h : volB u.conf <;> simp [h] at * <;> rw [ih]
structure Fresh (us : List UN) : Prop where
  each : ∀ u ∈ us, confDev u.conf = some u.dev ∧ 0 ≤ u.conf.addr ∧ u.conf.addr < 1024 ∧ u.after = 0 ∧ u.times = 0 ∧ u.equip = false
  apart : us.Pairwise fun a b => a.conf.addr ≠ b.conf.addr
theorem fresh_nil : Fresh [] := ⟨fun u h => (by cases h), List.Pairwise.nil⟩
theorem fresh_step {us us' : List UN} {c : Conf} (h : Fresh us) (e : newStep us c = some us') : Fresh us' ∧ us'.length = us.length + 1 := by
  unfold newStep at e
  split at e
  · cases e
  · rename_i d hd
    split at e
    · cases e
    · rename_i h1
      split at e
      · cases e
      · injection e with e
        subst e
        simp only [not_or, List.any_eq_true, not_exists, not_and, Int.not_lt, Int.not_le] at h1
        refine ⟨⟨fun u hu => ?_, ?_⟩, by simp⟩
        · rcases List.mem_append.1 hu with hu | hu
          · exact h.each u hu
          · obtain rfl := List.mem_singleton.1 hu
            exact ⟨hd, h1.2.1, h1.2.2, rfl, rfl, rfl⟩
        · refine List.pairwise_append.2 ⟨h.apart, List.pairwise_singleton _ _, fun a ha b hb => ?_⟩
          obtain rfl := List.mem_singleton.1 hb
          have := h1.1 a ha
          simpa using this
theorem fresh_us : ∀ {l : List Conf} {us us' : List UN}, Fresh us → newUs l us = some us' → Fresh us' ∧ us'.length = us.length + l.length
  | [], us, us', h, e => by
    injection e with e; subst e; exact ⟨h, rfl⟩
  | c :: l, us, us', h, e => by
    simp only [newUs] at e
    cases hs : newStep us c with
    | none => rw [hs] at e; cases e
    | some us1 =>
      rw [hs] at e
      obtain ⟨h1, h2⟩ := fresh_step h hs
      obtain ⟨h3, h4⟩ := fresh_us h1 e
      exact ⟨h3, by simp; omega⟩
theorem Fresh.addr {us : List UN} (h : Fresh us) : AddrOk us := by
  refine ⟨fun u hu => ⟨(h.each u hu).2.1, (h.each u hu).2.2.1⟩, fun i j hi hj e => ?_⟩
  rcases Nat.lt_trichotomy i j with hij | hij | hij
  · exact absurd e (List.pairwise_iff_getElem.1 h.apart i j hi hj hij)
  · exact hij
  · exact absurd e.symm (List.pairwise_iff_getElem.1 h.apart j i hj hi hij)
theorem loop_ne (bs : ByteArray) (i : Nat) (r : List UInt8) (h : r ≠ [] ∨ i < bs.size) : ByteArray.toList.loop bs i r ≠ [] := by
  unfold ByteArray.toList.loop
  split
  · exact loop_ne bs (i+1) _ (Or.inl (by simp))
  · rename_i hn
    rcases h with h | h
    · simpa using h
    · exact absurd h hn
termination_by bs.size - i
theorem ba_ne (bs : ByteArray) (h : 1 ≤ bs.size) : bs.toList.isEmpty = false := by
  have := loop_ne bs 0 [] (Or.inr h)
  unfold ByteArray.toList
  cases hl : ByteArray.toList.loop bs 0 [] with
  | nil => exact absurd hl this
  | cons => rfl
theorem confDev_ok {c : Conf} {d : Dev} (h : confDev c = some d) : d.ok 0 ∧ c.kind = d.kind ∧ d.idle := by
  unfold confDev at h
  split at h
  · rename_i e; injection h with h; subst h; exact ⟨⟨by omega, by simp, by simp, by simp, by simp⟩, e, trivial⟩
  split at h
  · rename_i e; injection h with h; subst h; exact ⟨⟨by omega, by simp, by simp⟩, e, trivial⟩
  split at h
  · rename_i e; injection h with h; subst h; exact ⟨⟨by simp, by simp, by simp⟩, e, trivial⟩
  split at h
  · rename_i e
    split at h
    · rename_i hs
      injection h with h; subst h
      refine ⟨⟨?_, T.fresh_ok (by simp) rfl, fun a o e => by cases e⟩, e, rfl⟩
      unfold T.serOk at hs
      simp at hs
      exact ba_ne _ (by omega)
    · cases h
  split at h
  · rename_i e
    split at h
    · rename_i hs
      injection h with h; subst h
      refine ⟨?_, e, rfl⟩
      unfold D.newOk at hs
      simp at hs
      exact D.fresh_ok (by omega) (by omega)
    · cases h
  · cases h
theorem new_ok {l : List Conf} {s : ST} (h : newST l = some s) : s.ok 0 ∧ s.off = false ∧ s.last = none ∧ s.us.length = l.length := by
  unfold newST at h
  split at h
  · cases h
  rename_i hl
  obtain ⟨us, hus, rfl⟩ := Option.map_eq_some_iff.1 h
  obtain ⟨hf, hlen⟩ := fresh_us fresh_nil hus
  have hp := List.mergeSort_perm us leU
  refine ⟨⟨fun u hu => ?_, by rw [hp.length_eq, hlen]; simp; omega, ?_, fun i e => (by cases e), fun i u hu _ => ?_⟩, rfl, rfl, by rw [hp.length_eq, hlen]; simp⟩
  · have hu' := hf.each u (hp.mem_iff.1 hu)
    obtain ⟨h1, h2, _⟩ := confDev_ok hu'.1
    exact ⟨h1, h2, ⟨hu'.2.1, hu'.2.2.1⟩, by rw [hu'.2.2.2.1]; omega, by rw [hu'.2.2.2.2.1]; omega⟩
  · have h1 : (us.mergeSort leU).Pairwise fun a b => leU a b = true := List.pairwise_mergeSort (fun a b c h1 h2 => by unfold leU at *; simp at *; omega) (fun a b => by unfold leU; simp; omega) us
    have h2 : (us.mergeSort leU).Pairwise fun a b => a.conf.addr ≠ b.conf.addr := (hp.pairwise_iff (fun h => Ne.symm h)).2 hf.apart
    refine (h1.and h2).imp fun ⟨h3, h4⟩ => ?_
    unfold leU at h3
    simp at h3
    omega
  · exact (confDev_ok (hf.each u (hp.mem_iff.1 (List.mem_of_getElem? hu))).1).2.2
end Go.Proofs.YtfhpaehfihnjaaaGreat
